/- The document's Print. -/
import Derived.Test.YtflmlkaiahpnmaaDoorPrint
namespace Go.Proofs.YtflmlkaiahpnmaaDoor
open Go.RowKit Go.Fl

theorem printR_nan (b : Nat) (hn : isNaN b = true) (w : World) : Calls Tryd.prog 9 #[.int .u64 (b : Int)] w (RetV (str (prt b)) w) := by
  have ho : (FloatKind.f64.format.order b b != some .eq) = true := by rw [order_self', hn]
  have Hs : Hid (prt b = [110, 97, 110]) := Lib.hid (by unfold prt; rw [if_pos hn])
  clear hn
  go_enter Tryd.func9, Tryd.ntmps9
  go_wp2_with (go_at_call 25; refine (floatR_any _ _).mono ?_; rintro e w' ⟨rfl, rfl⟩)
  go_ret
  exact .of_eq (by rw [Hs.out]; rfl) rfl
/-- Where the rest leads: up, or not. -/
inductive Up (y T N : Nat) : Prop
  | gt (h : (FloatKind.f64.format.order y 4602678819172646912 == some .gt) = true) (hN : N = T + 1)
  | odd (h1 : (FloatKind.f64.format.order y 4602678819172646912 == some .gt) = false) (h2 : (FloatKind.f64.format.order y 4602678819172646912 == some .eq) = true) (h3 : ((T : Int) % 2 == 1) = true) (hN : N = T + 1)
  | even (h1 : (FloatKind.f64.format.order y 4602678819172646912 == some .gt) = false) (h2 : (FloatKind.f64.format.order y 4602678819172646912 == some .eq) = true) (h3 : ((T : Int) % 2 == 1) = false) (hN : N = T)
  | lt (h1 : (FloatKind.f64.format.order y 4602678819172646912 == some .gt) = false) (h2 : (FloatKind.f64.format.order y 4602678819172646912 == some .eq) = false) (hN : N = T)
theorem Up.le {y T N : Nat} (h : Up y T N) : N ≤ T + 1 := by cases h <;> omega
theorem more_zero (t : List UInt8) : more 0 t = t := rfl
theorem len_of_pad {n N : Nat} {t : List UInt8} (h : pad (more n t) = pad (Lib.decDigits N)) (hN : N ≤ 9007199254740992) : t.length ≤ 20 := by
  have h1 := congrArg List.length h
  have h2 := len20 (N := N) (by omega)
  have h3 : t.length ≤ (more n t).length := by unfold more; split <;> simp
  have h4 : (more n t).length ≤ (pad (more n t)).length := by unfold pad; simp
  have h5 : (pad (Lib.decDigits N)).length ≤ 20 := by unfold pad; simp; omega
  omega
set_option maxHeartbeats 4000000 in
set_option maxRecDepth 100000 in
theorem printR_pos (b x T F y N : Nat)
    (ho : (FloatKind.f64.format.order b b != some .eq) = false)
    (hg : ((b : Int) / 9223372036854775808 == 1) = false)
    (hi : (FloatKind.f64.format.order b 9218868437227405311 == some .gt) = false)
    (hm : ∀ w, (binOp .mul 39 (.float .f64 b) (.float .f64 4636737291354636288)).run Tryd.prog w = .ok (.float .f64 x) w)
    (hl : (FloatKind.f64.format.order x 4845873199050653696 == some .lt) = true)
    (hcv : ∀ w, (convert 39 3 (.float .f64 x)).run Tryd.prog w = .ok (.int .i64 (T : Int)) w)
    (hcf : ∀ w, (convert 3 39 (.int .i64 (T : Int))).run Tryd.prog w = .ok (.float .f64 F) w)
    (hs : ∀ w, (binOp .sub 39 (.float .f64 x) (.float .f64 F)).run Tryd.prog w = .ok (.float .f64 y) w)
    (hT : T < 9007199254740992)
    (hc : Up y T N)
    (w : World) : Calls Tryd.prog 9 #[.int .u64 (b : Int)] w (RetV (str (dots (pad (Lib.decDigits N)))) w) := by
  have hT1 : (T : Int) ≤ 9007199254740991 := by omega
  have hT2 : IntKind.i64.wrap ((T : Int) + 1) = (T : Int) + 1 := by rw [IntKind.wrap_i64]; omega
  have HN : Hid (N ≤ 9007199254740992) := Lib.hid (by have := hc.le; omega)
  clear hT
  rcases hc with ⟨q1, hNe⟩ | ⟨q1, q2, q3, hNe⟩ | ⟨q1, q2, q3, hNe⟩ | ⟨q1, q2, hNe⟩
  all_goals
    have HNe := Lib.hid hNe
    clear hNe
    go_enter Tryd.func9, Tryd.ntmps9
    go_wp2_with (go_at_call 25; refine (floatR_any _ _).mono ?_; rintro e w' ⟨rfl, rfl⟩)
    go_loopw [6, 8] (fun i v wr => ∃ (n : Nat) (t : List UInt8), Hid (n ≤ 9007199254740992) ∧ (n : Int) ≤ 9007199254740992 ∧ i = .int .i64 (n : Int) ∧ v = .string ⟨t.toArray⟩ ∧ Hid (pad (more n t) = pad (Lib.decDigits N)) ∧ Hid (Below w.heap.size w wr)) (fun i v _ => 2 * (intOf i).toNat + (3 - lenOf v))
    case atStart => exact ⟨N, [], HN, by have := HN.out; omega, by rw [HNe.out] <;> rfl, rfl, Lib.hid pad_more, Lib.hid (Below.refl _ _)⟩
    case round =>
      obtain ⟨n, t, Hn, hn', rfl, rfl, He, Hb⟩ := hrel
      have Ht := Lib.hid (len_of_pad He.out HN.out)
      have hlen : ¬ 9223372036854775807 < 1 + t.length := by have := Ht.out; omega
      by_cases hp : 0 < n
      · obtain ⟨c, hc⟩ : ∃ c : Nat, 48 + (n : Int) % 10 = (c : Int) := ⟨48 + n % 10, by omega⟩
        have hc2 : c < 256 := by omega
        have hcc := fun w => conv1 w 5 c hc2
        have Hc : Hid (48 + n % 10 = c) := Lib.hid (by omega)
        have Hbc := Lib.hid (bcat [UInt8.ofNat c] t)
        go_wp2_with fail
        go_roundw
        case rel => exact ⟨n / 10, UInt8.ofNat c :: t, Lib.hid (by have := Hn.out; omega), by omega, by go_num, congrArg Value.string Hbc.out, Lib.hid (by rw [← Hc.out, more_step hp]; exact He.out), Lib.hid (Hb.out.alloc Hb.out.size _)⟩
        case measure => rw [Hbc.out]; simp [intOf, lenOf, ByteArray.size]; omega
      · obtain rfl : n = 0 := by omega
        clear hn' hp
        by_cases hlt : t.length < 3
        · have hcc := conv48
          have Hbc := Lib.hid (bcat [48] t)
          go_wp2_with fail
          go_roundw
          case rel => exact ⟨0, 48 :: t, Hn, by decide, rfl, congrArg Value.string Hbc.out, Lib.hid (by rw [more_zero, pad_step hlt]; exact He.out), Lib.hid (Hb.out.alloc Hb.out.size _)⟩
          case measure => rw [Hbc.out]; simp [intOf, lenOf, ByteArray.size]; omega
        · obtain ⟨m, hm2⟩ : ∃ m : Nat, (t.length : Int) - 2 = (m : Int) := ⟨t.length - 2, by omega⟩
          have Hm2 : Hid (t.length - 2 = m) := Lib.hid (by omega)
          have c9 : m ≤ 20 := by have := Ht.out; omega
          have c0 : IntKind.i64.wrap (m : Int) = (m : Int) := by rw [IntKind.wrap_i64]; omega
          have c1 : (0 : Int) ≤ m := by omega
          have c2 : (m : Int) ≤ ↑t.length := by omega
          have e1 := ext_take t m
          have e2 := ext_drop t m
          have e3 : (t.take m).length = m := by simp; omega
          have e4 : (t.drop m).length = 2 := by simp; omega
          obtain ⟨u, hu⟩ : ∃ u, t.take m = u := ⟨_, rfl⟩
          obtain ⟨v, hv⟩ : ∃ v, t.drop m = v := ⟨_, rfl⟩
          have Hd := Lib.hid (dots_end (t := t) (by rw [← more_zero t]; exact He.out) hlt Hm2.out hu hv)
          rw [hu] at e1 e3
          rw [hv] at e2 e4
          clear hu hv
          have b1 : ¬ 9223372036854775807 < m := by omega
          have b2 : ¬ 9223372036854775807 < m + 1 := by omega
          have b3 : ¬ 9223372036854775807 < m + 1 + 2 := by omega
          go_wp2_with fail
          go_quiet (fail)
          go_wp2_with fail
          go_ret
          refine ⟨?_, ?_⟩
          · rw [Hd.out]
            refine congrArg (fun x => Ending.returned (.string x)) ?_
            apply ByteArray.ext
            simp
          · exact below_drewN Hb.out _
set_option maxHeartbeats 4000000 in
set_option maxRecDepth 100000 in
theorem printR_neg (b r x T F y N : Nat)
    (ho : (FloatKind.f64.format.order b b != some .eq) = false)
    (hg : ((b : Int) / 9223372036854775808 == 1) = true)
    (hn : ∀ w, (Op.unary .neg (.float .f64 b)).run Tryd.prog w = .ok (.float .f64 r) w)
    (hi : (FloatKind.f64.format.order r 9218868437227405311 == some .gt) = false)
    (hm : ∀ w, (binOp .mul 39 (.float .f64 r) (.float .f64 4636737291354636288)).run Tryd.prog w = .ok (.float .f64 x) w)
    (hl : (FloatKind.f64.format.order x 4845873199050653696 == some .lt) = true)
    (hcv : ∀ w, (convert 39 3 (.float .f64 x)).run Tryd.prog w = .ok (.int .i64 (T : Int)) w)
    (hcf : ∀ w, (convert 3 39 (.int .i64 (T : Int))).run Tryd.prog w = .ok (.float .f64 F) w)
    (hs : ∀ w, (binOp .sub 39 (.float .f64 x) (.float .f64 F)).run Tryd.prog w = .ok (.float .f64 y) w)
    (hT : T < 9007199254740992)
    (hc : Up y T N)
    (w : World) : Calls Tryd.prog 9 #[.int .u64 (b : Int)] w (RetV (str (45 :: dots (pad (Lib.decDigits N)))) w) := by
  have hT1 : (T : Int) ≤ 9007199254740991 := by omega
  have hT2 : IntKind.i64.wrap ((T : Int) + 1) = (T : Int) + 1 := by rw [IntKind.wrap_i64]; omega
  have HN : Hid (N ≤ 9007199254740992) := Lib.hid (by have := hc.le; omega)
  clear hT
  rcases hc with ⟨q1, hNe⟩ | ⟨q1, q2, q3, hNe⟩ | ⟨q1, q2, q3, hNe⟩ | ⟨q1, q2, hNe⟩
  all_goals
    have HNe := Lib.hid hNe
    clear hNe
    go_enter Tryd.func9, Tryd.ntmps9
    go_wp2_with (go_at_call 25; refine (floatR_any _ _).mono ?_; rintro e w' ⟨rfl, rfl⟩)
    go_loopw [6, 8] (fun i v wr => ∃ (n : Nat) (t : List UInt8), Hid (n ≤ 9007199254740992) ∧ (n : Int) ≤ 9007199254740992 ∧ i = .int .i64 (n : Int) ∧ v = .string ⟨t.toArray⟩ ∧ Hid (pad (more n t) = pad (Lib.decDigits N)) ∧ Hid (Below w.heap.size w wr)) (fun i v _ => 2 * (intOf i).toNat + (3 - lenOf v))
    case atStart => exact ⟨N, [], HN, by have := HN.out; omega, by rw [HNe.out] <;> rfl, rfl, Lib.hid pad_more, Lib.hid (Below.refl _ _)⟩
    case round =>
      obtain ⟨n, t, Hn, hn', rfl, rfl, He, Hb⟩ := hrel
      have Ht := Lib.hid (len_of_pad He.out HN.out)
      have hlen : ¬ 9223372036854775807 < 1 + t.length := by have := Ht.out; omega
      by_cases hp : 0 < n
      · obtain ⟨c, hc⟩ : ∃ c : Nat, 48 + (n : Int) % 10 = (c : Int) := ⟨48 + n % 10, by omega⟩
        have hc2 : c < 256 := by omega
        have hcc := fun w => conv1 w 5 c hc2
        have Hc : Hid (48 + n % 10 = c) := Lib.hid (by omega)
        have Hbc := Lib.hid (bcat [UInt8.ofNat c] t)
        go_wp2_with fail
        go_roundw
        case rel => exact ⟨n / 10, UInt8.ofNat c :: t, Lib.hid (by have := Hn.out; omega), by omega, by go_num, congrArg Value.string Hbc.out, Lib.hid (by rw [← Hc.out, more_step hp]; exact He.out), Lib.hid (Hb.out.alloc Hb.out.size _)⟩
        case measure => rw [Hbc.out]; simp [intOf, lenOf, ByteArray.size]; omega
      · obtain rfl : n = 0 := by omega
        clear hn' hp
        by_cases hlt : t.length < 3
        · have hcc := conv48
          have Hbc := Lib.hid (bcat [48] t)
          go_wp2_with fail
          go_roundw
          case rel => exact ⟨0, 48 :: t, Hn, by decide, rfl, congrArg Value.string Hbc.out, Lib.hid (by rw [more_zero, pad_step hlt]; exact He.out), Lib.hid (Hb.out.alloc Hb.out.size _)⟩
          case measure => rw [Hbc.out]; simp [intOf, lenOf, ByteArray.size]; omega
        · obtain ⟨m, hm2⟩ : ∃ m : Nat, (t.length : Int) - 2 = (m : Int) := ⟨t.length - 2, by omega⟩
          have Hm2 : Hid (t.length - 2 = m) := Lib.hid (by omega)
          have c9 : m ≤ 20 := by have := Ht.out; omega
          have c0 : IntKind.i64.wrap (m : Int) = (m : Int) := by rw [IntKind.wrap_i64]; omega
          have c1 : (0 : Int) ≤ m := by omega
          have c2 : (m : Int) ≤ ↑t.length := by omega
          have e1 := ext_take t m
          have e2 := ext_drop t m
          have e3 : (t.take m).length = m := by simp; omega
          have e4 : (t.drop m).length = 2 := by simp; omega
          obtain ⟨u, hu⟩ : ∃ u, t.take m = u := ⟨_, rfl⟩
          obtain ⟨v, hv⟩ : ∃ v, t.drop m = v := ⟨_, rfl⟩
          have Hd := Lib.hid (dots_end (t := t) (by rw [← more_zero t]; exact He.out) hlt Hm2.out hu hv)
          rw [hu] at e1 e3
          rw [hv] at e2 e4
          clear hu hv
          have b1 : ¬ 9223372036854775807 < 1 + m := by omega
          have b2 : ¬ 9223372036854775807 < 1 + m + 1 := by omega
          have b3 : ¬ 9223372036854775807 < 1 + m + 1 + 2 := by omega
          go_wp2_with fail
          go_quiet (fail)
          go_wp2_with fail
          go_ret
          refine ⟨?_, ?_⟩
          · rw [Hd.out]
            refine congrArg (fun x => Ending.returned (.string x)) ?_
            apply ByteArray.ext
            simp
          · exact below_drewN Hb.out _
end Go.Proofs.YtflmlkaiahpnmaaDoor
