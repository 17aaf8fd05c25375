/- till's Print. -/
import Derived.Test.YtflmlkaiahpnmaaDoorText
namespace Go.Proofs.YtflmlkaiahpnmaaDoor
open Go.RowKit Go.Fl

def str (l : List UInt8) : Value := .string ⟨l.toArray⟩
theorem order_100 {x : Nat} (hx : x ≤ 9218868437227405312) : (FloatKind.f64.format.order x 4845873199050653696 == some .gt || FloatKind.f64.format.order x 4845873199050653696 == some .eq) = decide (4845873199050653696 ≤ x) := by
  show (Ieee.double.order x 4845873199050653696 == some .gt || Ieee.double.order x 4845873199050653696 == some .eq) = _
  rw [order_le hx (by decide)]
  rcases Nat.lt_trichotomy x 4845873199050653696 with h | h | h
  · rw [Nat.compare_eq_lt.2 h, decide_eq_false (by omega)]; rfl
  · rw [Nat.compare_eq_eq.2 h, decide_eq_true (by omega)]; rfl
  · rw [Nat.compare_eq_gt.2 h, decide_eq_true (by omega)]; rfl
/-- Print of a number that is none. -/
theorem print_nan (b : Nat) (hn : isNaN b = true) (w : World) : Calls Tryd.prog 8 #[.int .u64 (b : Int)] w (RetV (str (prt b)) w) := by
  have h1 := isNaN_any b
  rw [hn] at h1
  have Hs : Hid (prt b = [110, 97, 110]) := Lib.hid (by unfold prt; rw [if_pos hn])
  clear hn
  go_enter Tryd.func8, Tryd.ntmps8
  go_wp2_with (first | (go_at_call 18; refine (float_any _ _).mono ?_; rintro e w' ⟨rfl, rfl⟩) | (go_at_call 19; refine (h1 _).mono ?_; rintro e w' ⟨rfl, rfl⟩))
  go_ret
  exact .of_eq (by rw [Hs.out]; rfl) rfl
theorem prt_inf {b : Nat} (hn : isNaN b = false) (hr : b % 9223372036854775808 = 9218868437227405312) : prt b = sgn b ++ [105, 110, 102] := by unfold prt; rw [if_neg (by rw [hn]; simp), if_pos hr]
theorem print_inf (w : World) : Calls Tryd.prog 8 #[.int .u64 9218868437227405312] w (RetV (str (prt 9218868437227405312)) w) := by
  have h1 := isNaN_any 9218868437227405312
  rw [show isNaN 9218868437227405312 = false by decide] at h1
  have h2 := isInf_pos 9218868437227405312
  rw [show (FloatKind.f64.format.order 9218868437227405312 9218868437227405311 == some .gt) = true by decide] at h2
  have Hs : Hid (prt 9218868437227405312 = [105, 110, 102]) := Lib.hid (prt_inf (by decide) (by decide))
  go_enter Tryd.func8, Tryd.ntmps8
  go_wp2_with (first | (go_at_call 18; refine (float_any _ _).mono ?_; rintro e w' ⟨rfl, rfl⟩) | (go_at_call 19; refine (h1 _).mono ?_; rintro e w' ⟨rfl, rfl⟩) | (go_at_call 20; refine (h2 _).mono ?_; rintro e w' ⟨rfl, rfl⟩))
  go_ret
  exact .of_eq (by rw [Hs.out]; rfl) rfl
def InfB (b : Nat) (y z : Bool) : Prop := ∀ (v : Int) (w : World), v = 1 ∨ v = -1 → Calls Tryd.prog 20 #[.float .f64 b, .int .i64 v] w fun e w' => e = .returned (.bool (if v = 1 then y else z)) ∧ w = w'
theorem infB (b : Nat) : InfB b (FloatKind.f64.format.order b 9218868437227405311 == some .gt) (FloatKind.f64.format.order (Op.negFloat .f64 b) 9218868437227405311 == some .gt) := by
  rintro v w (rfl | rfl)
  · exact isInf_pos b w
  · exact isInf_neg b w
theorem print_ninf (w : World) : Calls Tryd.prog 8 #[.int .u64 18442240474082181120] w (RetV (str (prt 18442240474082181120)) w) := by
  have h1 := isNaN_any 18442240474082181120
  rw [show isNaN 18442240474082181120 = false by decide] at h1
  have h2 := infB 18442240474082181120
  rw [show (FloatKind.f64.format.order 18442240474082181120 9218868437227405311 == some .gt) = false by decide, show (FloatKind.f64.format.order (Op.negFloat .f64 18442240474082181120) 9218868437227405311 == some .gt) = true by decide] at h2
  have Hs : Hid (prt 18442240474082181120 = [45, 105, 110, 102]) := Lib.hid (prt_inf (by decide) (by decide))
  go_enter Tryd.func8, Tryd.ntmps8
  go_wp2_with (first | (go_at_call 18; refine (float_any _ _).mono ?_; rintro e w' ⟨rfl, rfl⟩) | (go_at_call 19; refine (h1 _).mono ?_; rintro e w' ⟨rfl, rfl⟩) | (go_at_call 20; refine (h2 _ _ (by first | exact .inl rfl | exact .inr rfl)).mono ?_; rintro e w' ⟨rfl, rfl⟩))
  go_ret
  exact .of_eq (by rw [Hs.out]; rfl) rfl
theorem print_big (b r x : Nat) (σ : Bool)
    (h1 : ∀ w, Calls Tryd.prog 19 #[.float .f64 b] w fun e w' => e = .returned (.bool false) ∧ w = w')
    (h2 : InfB b false false)
    (h4 : ∀ w, Calls Tryd.prog 21 #[.float .f64 b] w fun e w' => e = .returned (.bool σ) ∧ w = w')
    (h5 : ∀ w, Calls Tryd.prog 22 #[.float .f64 b] w fun e w' => e = .returned (.float .f64 r) ∧ w = w')
    (hm : ∀ w, (binOp .mul 39 (.float .f64 r) (.float .f64 4636737291354636288)).run Tryd.prog w = .ok (.float .f64 x) w)
    (hc : (FloatKind.f64.format.order x 4845873199050653696 == some .gt || FloatKind.f64.format.order x 4845873199050653696 == some .eq) = true)
    (w : World) : Calls Tryd.prog 8 #[.int .u64 (b : Int)] w (RetV (str [98, 105, 103]) w) := by
  cases σ
  all_goals
    go_enter Tryd.func8, Tryd.ntmps8
    go_wp2_with (first | (go_at_call 18; refine (float_any _ _).mono ?_; rintro e w' ⟨rfl, rfl⟩) | (go_at_call 19; refine (h1 _).mono ?_; rintro e w' ⟨rfl, rfl⟩) | (go_at_call 20; refine (h2 _ _ (by first | exact .inl rfl | exact .inr rfl)).mono ?_; rintro e w' ⟨rfl, rfl⟩) | (go_at_call 21; refine (h4 _).mono ?_; rintro e w' ⟨rfl, rfl⟩) | (go_at_call 22; refine (h5 _).mono ?_; rintro e w' ⟨rfl, rfl⟩))
    go_ret
    exact .of_eq rfl rfl
theorem ext_take (t : List UInt8) (m : Nat) : (⟨t.toArray⟩ : ByteArray).extract 0 m = ⟨(t.take m).toArray⟩ := by
  apply ByteArray.ext
  simp
theorem ext_drop (t : List UInt8) (m : Nat) : (⟨t.toArray⟩ : ByteArray).extract m t.length = ⟨(t.drop m).toArray⟩ := by
  apply ByteArray.ext
  simp
  rw [List.take_of_length_le (by simp)]
theorem dots_end {t u v : List UInt8} {m N : Nat} (hp : pad t = pad (Lib.decDigits N)) (h3 : ¬ t.length < 3) (hm : t.length - 2 = m) (hu : t.take m = u) (hv : t.drop m = v) : dots (pad (Lib.decDigits N)) = u ++ 46 :: v := by
  rw [← hp, pad_done (by omega)]
  unfold dots
  rw [hm, hu, hv]
theorem below_drewN {w w1 : World} (h : Below w.heap.size w w1) (n : Nat) : Below w.heap.size w (w1.drewN n) := ⟨h.os, h.tape, h.output, h.size, h.block⟩
set_option maxRecDepth 100000 in
theorem print_small (b r x E N : Nat) (σ : Bool)
    (h1 : ∀ w, Calls Tryd.prog 19 #[.float .f64 b] w fun e w' => e = .returned (.bool false) ∧ w = w')
    (h2 : InfB b false false)
    (h4 : ∀ w, Calls Tryd.prog 21 #[.float .f64 b] w fun e w' => e = .returned (.bool σ) ∧ w = w')
    (h5 : ∀ w, Calls Tryd.prog 22 #[.float .f64 b] w fun e w' => e = .returned (.float .f64 r) ∧ w = w')
    (hm : ∀ w, (binOp .mul 39 (.float .f64 r) (.float .f64 4636737291354636288)).run Tryd.prog w = .ok (.float .f64 x) w)
    (hc : (FloatKind.f64.format.order x 4845873199050653696 == some .gt || FloatKind.f64.format.order x 4845873199050653696 == some .eq) = false)
    (h6 : ∀ w, (callFunc 24 #[.float .f64 x]).run Tryd.prog w = .ok (.value (.float .f64 E)) w)
    (hcv : ∀ w, (convert 39 24 (.float .f64 E)).run Tryd.prog w = .ok (.int .u64 (N : Int)) w)
    (hN : N < 18446744073709551616) (w : World) (htab : Tab w) : Calls Tryd.prog 8 #[.int .u64 (b : Int)] w (RetV (str ((if σ then [45] else []) ++ dots (pad (Lib.decDigits N)))) w) := by
  have Hl := Lib.hid (len20 hN)
  have HN := Lib.hid hN
  clear hN
  cases σ
  · go_enter Tryd.func8, Tryd.ntmps8
    go_wp2_with (first | (go_at_call 18; refine (float_any _ _).mono ?_; rintro e w' ⟨rfl, rfl⟩) | (go_at_call 19; refine (h1 _).mono ?_; rintro e w' ⟨rfl, rfl⟩) | (go_at_call 20; refine (h2 _ _ (by first | exact .inl rfl | exact .inr rfl)).mono ?_; rintro e w' ⟨rfl, rfl⟩) | (go_at_call 21; refine (h4 _).mono ?_; rintro e w' ⟨rfl, rfl⟩) | (go_at_call 22; refine (h5 _).mono ?_; rintro e w' ⟨rfl, rfl⟩) | (go_at_call 23; refine (formatUint N HN.out _ htab).mono ?_; rintro e w1 ⟨rfl, hb⟩; have Hb := Lib.hid hb; clear hb))
    go_loop [6] (fun v => ∃ (t : List UInt8), v = .string ⟨t.toArray⟩ ∧ Hid (pad t = pad (Lib.decDigits N)) ∧ Hid (t.length ≤ 20)) (fun v => 3 - lenOf v)
    case atStart => exact ⟨_, rfl, Lib.hid rfl, Hl⟩
    case round =>
      obtain ⟨t, rfl, Hp, Ht⟩ := hrel
      by_cases hlt : t.length < 3
      · have Hcat := Lib.hid (bcat [48] t)
        have hlen : ¬ 9223372036854775807 < 1 + t.length := by omega
        go_wp2_with fail
        exact ⟨⟨48 :: t, congrArg Value.string Hcat.out, Lib.hid (by rw [pad_step hlt]; exact Hp.out), Lib.hid (by simp; omega)⟩, by rw [Hcat.out]; simp [lenOf, ByteArray.size]; omega⟩
      · obtain ⟨m, hm2⟩ : ∃ m : Nat, (t.length : Int) - 2 = (m : Int) := ⟨t.length - 2, by omega⟩
        have Hm2 : Hid (t.length - 2 = m) := Lib.hid (by omega)
        have c9 : m ≤ 20 := by have := Ht.out; omega
        have c0 : IntKind.i64.wrap (m : Int) = (m : Int) := by rw [IntKind.wrap_i64]; omega
        have c1 : (0 : Int) ≤ m := by omega
        have c2 : (m : Int) ≤ ↑t.length := by omega
        have e1 := ext_take t m
        have e2 := ext_drop t m
        have e3 : (t.take m).length = m := by simp; omega
        have e4 : (t.drop m).length = 2 := by simp; omega
        obtain ⟨u, hu⟩ : ∃ u, t.take m = u := ⟨_, rfl⟩
        obtain ⟨v, hv⟩ : ∃ v, t.drop m = v := ⟨_, rfl⟩
        have He := Lib.hid (dots_end Hp.out hlt Hm2.out hu hv)
        rw [hu] at e1 e3
        rw [hv] at e2 e4
        clear hu hv
        have b1 : ¬ 9223372036854775807 < m := by omega
        have b2 : ¬ 9223372036854775807 < m + 1 := by omega
        have b3 : ¬ 9223372036854775807 < m + 1 + 2 := by omega
        go_wp2_with fail
        go_quiet (fail)
        go_wp2_with fail
        go_ret
        refine ⟨?_, ?_⟩
        · rw [He.out]
          refine congrArg (fun x => Ending.returned (.string x)) ?_
          apply ByteArray.ext
          simp
        · exact below_drewN Hb.out _
  · go_enter Tryd.func8, Tryd.ntmps8
    go_wp2_with (first | (go_at_call 18; refine (float_any _ _).mono ?_; rintro e w' ⟨rfl, rfl⟩) | (go_at_call 19; refine (h1 _).mono ?_; rintro e w' ⟨rfl, rfl⟩) | (go_at_call 20; refine (h2 _ _ (by first | exact .inl rfl | exact .inr rfl)).mono ?_; rintro e w' ⟨rfl, rfl⟩) | (go_at_call 21; refine (h4 _).mono ?_; rintro e w' ⟨rfl, rfl⟩) | (go_at_call 22; refine (h5 _).mono ?_; rintro e w' ⟨rfl, rfl⟩) | (go_at_call 23; refine (formatUint N HN.out _ htab).mono ?_; rintro e w1 ⟨rfl, hb⟩; have Hb := Lib.hid hb; clear hb))
    go_loop [6] (fun v => ∃ (t : List UInt8), v = .string ⟨t.toArray⟩ ∧ Hid (pad t = pad (Lib.decDigits N)) ∧ Hid (t.length ≤ 20)) (fun v => 3 - lenOf v)
    case atStart => exact ⟨_, rfl, Lib.hid rfl, Hl⟩
    case round =>
      obtain ⟨t, rfl, Hp, Ht⟩ := hrel
      by_cases hlt : t.length < 3
      · have Hcat := Lib.hid (bcat [48] t)
        have hlen : ¬ 9223372036854775807 < 1 + t.length := by omega
        go_wp2_with fail
        exact ⟨⟨48 :: t, congrArg Value.string Hcat.out, Lib.hid (by rw [pad_step hlt]; exact Hp.out), Lib.hid (by simp; omega)⟩, by rw [Hcat.out]; simp [lenOf, ByteArray.size]; omega⟩
      · obtain ⟨m, hm2⟩ : ∃ m : Nat, (t.length : Int) - 2 = (m : Int) := ⟨t.length - 2, by omega⟩
        have Hm2 : Hid (t.length - 2 = m) := Lib.hid (by omega)
        have c9 : m ≤ 20 := by have := Ht.out; omega
        have c0 : IntKind.i64.wrap (m : Int) = (m : Int) := by rw [IntKind.wrap_i64]; omega
        have c1 : (0 : Int) ≤ m := by omega
        have c2 : (m : Int) ≤ ↑t.length := by omega
        have e1 := ext_take t m
        have e2 := ext_drop t m
        have e3 : (t.take m).length = m := by simp; omega
        have e4 : (t.drop m).length = 2 := by simp; omega
        obtain ⟨u, hu⟩ : ∃ u, t.take m = u := ⟨_, rfl⟩
        obtain ⟨v, hv⟩ : ∃ v, t.drop m = v := ⟨_, rfl⟩
        have He := Lib.hid (dots_end Hp.out hlt Hm2.out hu hv)
        rw [hu] at e1 e3
        rw [hv] at e2 e4
        clear hu hv
        have b1 : ¬ 9223372036854775807 < 1 + m := by omega
        have b2 : ¬ 9223372036854775807 < 1 + m + 1 := by omega
        have b3 : ¬ 9223372036854775807 < 1 + m + 1 + 2 := by omega
        go_wp2_with fail
        go_quiet (fail)
        go_wp2_with fail
        go_ret
        refine ⟨?_, ?_⟩
        · rw [He.out]
          refine congrArg (fun x => Ending.returned (.string x)) ?_
          apply ByteArray.ext
          simp
        · exact below_drewN Hb.out _
theorem infB_fin (b : Nat) (hb : b < 18446744073709551616) (hr : b % 9223372036854775808 < 9218868437227405312) : InfB b false false := by
  have h := infB b
  rcases Nat.lt_or_ge b 9223372036854775808 with h1 | h1
  · have e1 : (FloatKind.f64.format.order b 9218868437227405311 == some .gt) = false := by
      show (Ieee.double.order b 9218868437227405311 == some .gt) = false
      rw [order_max (by omega)]; simp; omega
    have e2 : (FloatKind.f64.format.order (Op.negFloat .f64 b) 9218868437227405311 == some .gt) = false := by
      rw [neg_low h1]; exact order_neg (by omega)
    rwa [e1, e2] at h
  · obtain ⟨r, rfl⟩ : ∃ r, b = 9223372036854775808 + r := ⟨b - 9223372036854775808, by omega⟩
    have e1 : (FloatKind.f64.format.order (9223372036854775808 + r) 9218868437227405311 == some .gt) = false := order_neg (by omega)
    have e2 : (FloatKind.f64.format.order (Op.negFloat .f64 (9223372036854775808 + r)) 9218868437227405311 == some .gt) = false := by
      rw [neg_high (by omega)]
      show (Ieee.double.order r 9218868437227405311 == some .gt) = false
      rw [order_max (by omega)]; simp; omega
    rwa [e1, e2] at h
theorem conv_nat {N : Nat} (hN : N < 9007199254740992) (w : World) : (convert 39 24 (.float .f64 (Ieee.double.nearest false N 0))).run Tryd.prog w = .ok (.int .u64 (N : Int)) w := by
  obtain ⟨h1, h2⟩ := tru_ofNat hN
  refine run_convert_float_int w 39 24 .f64 .u64 _ (N : Int) (by rw [Tryd.underlying39]; rfl) Tryd.underlying24 ?_
  have h3 := int_small h1
  rw [h2] at h3
  unfold floatToIntVal
  show (match (Ieee.double.read _).toInt .zero with | some _ => _ | none => _) = _
  rw [h3]
  simp [IntKind.min, IntKind.max, IntKind.signed, IntKind.bits]
  omega
theorem mul_run {r x : Nat} (h : Ieee.double.mul r 4636737291354636288 = some x) (w : World) : (binOp .mul 39 (.float .f64 r) (.float .f64 4636737291354636288)).run Tryd.prog w = .ok (.float .f64 x) w :=
  run_float_arith w .mul 39 .f64 r 4636737291354636288 x h
theorem prt_fin {b : Nat} (hr : b % 9223372036854775808 < 9218868437227405312) : prt b = if hund (b % 9223372036854775808) < 4845873199050653696 then sgn b ++ dots (pad (Lib.decDigits (rnd (hund (b % 9223372036854775808))))) else [98, 105, 103] := by
  unfold prt
  rw [if_neg (by rw [isNaN_iff]; simp; omega), if_neg (by omega)]
theorem sgn_eq (b : Nat) : sgn b = if decide (9223372036854775808 ≤ b) = true then [45] else [] := by unfold sgn; simp
/-- till's Print. -/
theorem print_any (b : Nat) (hb : b < 18446744073709551616) (w : World) (htab : Tab w) : Calls Tryd.prog 8 #[.int .u64 (b : Int)] w (RetV (str (prt b)) w) := by
  cases hn : isNaN b
  · rw [isNaN_iff] at hn
    have hn2 : b % 9223372036854775808 ≤ 9218868437227405312 := by simpa using hn
    rcases Nat.lt_or_ge (b % 9223372036854775808) 9218868437227405312 with hr | hr
    · have h1 := isNaN_any b
      rw [show isNaN b = false by rw [isNaN_iff]; exact hn] at h1
      obtain ⟨hm, hx⟩ := hund_eq hr
      rw [prt_fin hr]
      by_cases hs : hund (b % 9223372036854775808) < 4845873199050653696
      · rw [if_pos hs, sgn_eq]
        exact print_small b _ _ _ (rnd (hund (b % 9223372036854775808))) _ h1 (infB_fin b hb hr) (signbit_any b hb) (abs_any b hb) (mul_run hm) (by rw [order_100 hx]; simp; omega) (even_run _ hs) (conv_nat rnd_lt) (by have := @rnd_lt (hund (b % 9223372036854775808)); omega) w htab
      · rw [if_neg hs]
        exact print_big b _ _ _ h1 (infB_fin b hb hr) (signbit_any b hb) (abs_any b hb) (mul_run hm) (by rw [order_100 hx]; simp; omega) w
    · rcases (show b = 9218868437227405312 ∨ b = 18442240474082181120 by omega) with rfl | rfl
      · exact print_inf w
      · exact print_ninf w
  · exact print_nan b hn w
end Go.Proofs.YtflmlkaiahpnmaaDoor
