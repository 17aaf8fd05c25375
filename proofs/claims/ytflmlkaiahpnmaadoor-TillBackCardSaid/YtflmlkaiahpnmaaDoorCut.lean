/- Contracts: strings.Cut at one byte; which texts are digits. -/
import Derived.Test.YtflmlkaiahpnmaaDoorText
import Derived.Test.YtflmlkaiahpnmaaDoorDg
namespace Go.Proofs.YtflmlkaiahpnmaaDoor
open Go.RowKit Go.Fl

theorem idx_hit (h t : List UInt8) (c : UInt8) (hh : c ∉ h) : Lib.indexByte (h ++ c :: t) c = (h.length : Int) := by
  induction h with
  | nil => simp [Lib.indexByte]
  | cons b r ih =>
    have hb : (b == c) = false := by simp; intro e; exact hh (by simp [e])
    have := ih (fun hm => hh (List.mem_cons_of_mem _ hm))
    simp only [List.cons_append, Lib.indexByte, hb, this]
    simp
theorem idx_miss (l : List UInt8) (c : UInt8) (hh : c ∉ l) : Lib.indexByte l c = -1 := by
  induction l with
  | nil => rfl
  | cons b r ih =>
    have hb : (b == c) = false := by simp; intro e; exact hh (by simp [e])
    have := ih (fun hm => hh (List.mem_cons_of_mem _ hm))
    simp [Lib.indexByte, hb, this]
theorem ext_head (h t : List UInt8) (c : UInt8) : (⟨(h ++ c :: t).toArray⟩ : ByteArray).extract 0 h.length = ⟨h.toArray⟩ := by
  apply ByteArray.ext
  simp
theorem ext_tail (h t : List UInt8) (c : UInt8) : (⟨(h ++ c :: t).toArray⟩ : ByteArray).extract (h.length + 1) (h.length + (t.length + 1)) = ⟨t.toArray⟩ := by
  apply ByteArray.ext
  simp
  rw [List.take_of_length_le (by omega)]
theorem bdrew (w : World) (n : Nat) : Below w.heap.size w (w.drewN n) := ⟨rfl, rfl, rfl, Nat.le_refl _, fun _ _ => rfl⟩
set_option maxRecDepth 100000 in
theorem cutI_hit (h t : List UInt8) (hh : (46 : UInt8) ∉ h) (hl : h.length + t.length < 9223372036854775807) (w : World) :
    Calls Tryd.prog 26 #[.string ⟨(h ++ 46 :: t).toArray⟩, .string ⟨#[46]⟩] w (RetV (.tuple #[.string ⟨h.toArray⟩, .string ⟨t.toArray⟩, .bool true]) w) := by
  have hx := Tryd.stringslite_Index_one ⟨(h ++ 46 :: t).toArray⟩ 46
  rw [show Lib.indexByte (⟨(h ++ 46 :: t).toArray⟩ : ByteArray).data.toList 46 = (h.length : Int) from idx_hit h t 46 hh] at hx
  have e1 := ext_head h t 46
  have e2 := ext_tail h t 46
  have b1 : (0 : Int) ≤ h.length := by omega
  have b2 : (h.length : Int) ≤ h.length + (t.length + 1) := by omega
  have b3 : IntKind.i64.wrap ((h.length : Int) + 1) = (h.length : Int) + 1 := by rw [IntKind.wrap_i64]; omega
  have b4 : (0 : Int) ≤ (h.length : Int) + 1 := by omega
  have b5 : (h.length : Int) + 1 ≤ h.length + (t.length + 1) := by omega
  have b6 : ((h.length : Int) + 1).toNat = h.length + 1 := by omega
  go_enter Tryd.func26, Tryd.ntmps26
  go_wp2_with (go_at_call 33; refine (hx _).mono ?_; rintro e w' ⟨rfl, rfl⟩)
  go_quiet (fail)
  go_wp2_with fail
  go_ret3
  exact ⟨rfl, bdrew _ _⟩
theorem cutI_miss (l : List UInt8) (hh : (46 : UInt8) ∉ l) (w : World) :
    Calls Tryd.prog 26 #[.string ⟨l.toArray⟩, .string ⟨#[46]⟩] w (RetV (.tuple #[.string ⟨l.toArray⟩, .string ⟨#[]⟩, .bool false]) w) := by
  have hx := Tryd.stringslite_Index_one ⟨l.toArray⟩ 46
  rw [show Lib.indexByte (⟨l.toArray⟩ : ByteArray).data.toList 46 = -1 from idx_miss l 46 hh] at hx
  go_enter Tryd.func26, Tryd.ntmps26
  go_wp2_with (go_at_call 33; refine (hx _).mono ?_; rintro e w' ⟨rfl, rfl⟩)
  go_ret3
  exact .of_eq rfl rfl
theorem cut_hit (h t : List UInt8) (hh : (46 : UInt8) ∉ h) (hl : h.length + t.length < 9223372036854775807) (w : World) :
    Calls Tryd.prog 12 #[.string ⟨(h ++ 46 :: t).toArray⟩, .string ⟨#[46]⟩] w (RetV (.tuple #[.string ⟨h.toArray⟩, .string ⟨t.toArray⟩, .bool true]) w) := by
  have hx := cutI_hit h t hh hl
  go_enter Tryd.func12, Tryd.ntmps12
  go_wp2_with (go_at_call 26; refine (hx _).mono ?_; rintro e w' ⟨rfl, hb⟩)
  go_ret3
  exact ⟨rfl, hb⟩
theorem cut_miss (l : List UInt8) (hh : (46 : UInt8) ∉ l) (w : World) :
    Calls Tryd.prog 12 #[.string ⟨l.toArray⟩, .string ⟨#[46]⟩] w (RetV (.tuple #[.string ⟨l.toArray⟩, .string ⟨#[]⟩, .bool false]) w) := by
  have hx := cutI_miss l hh
  go_enter Tryd.func12, Tryd.ntmps12
  go_wp2_with (go_at_call 26; refine (hx _).mono ?_; rintro e w' ⟨rfl, hb⟩)
  go_ret3
  exact ⟨rfl, hb⟩
theorem trim_any (l : List UInt8) (hl : l.length ≤ 9223372036854775807) (w : World) :
    Calls Tryd.prog 27 #[.string ⟨l.toArray⟩, .string ⟨#[48, 49, 50, 51, 52, 53, 54, 55, 56, 57]⟩] w (RetV (.string ⟨(Lib.trimS l tenc).toArray⟩) w) :=
  Any.strings_Trim_laid Tryd.lays160 (by kernel_rfl) ⟨l.toArray⟩ ⟨#[48, 49, 50, 51, 52, 53, 54, 55, 56, 57]⟩ w hl (by decide) (ascii_of_all (by decide))
theorem dig_none_of {most : Nat} {l : List UInt8} (h : (decide (l ≠ []) && decide (l.length ≤ most) && decide (Lib.trimS l tenc = [])) = false) : (dig most l).isSome = false := by rw [dig_some, h]
theorem digits_any (l : List UInt8) (hl : l.length ≤ 9223372036854775807) (most : Nat) (w : World) :
    Calls Tryd.prog 13 #[.string ⟨l.toArray⟩, .int .i64 (most : Int)] w (RetV (.bool (dig most l).isSome) w) := by
  have ht := trim_any l hl
  cases l with
  | nil =>
    have H : Hid ((dig most []).isSome = false) := Lib.hid (by rw [dig_some]; rfl)
    go_enter Tryd.func13, Tryd.ntmps13
    go_wp2_with fail
    go_ret
    exact .of_eq (by rw [H.out]; rfl) rfl
  | cons c r =>
    by_cases hm : (r.length : Int) + 1 ≤ most
    · cases hT : Lib.trimS (c :: r) tenc with
      | nil =>
        rw [hT] at ht
        have H : Hid ((dig most (c :: r)).isSome = true) := Lib.hid (by rw [dig_some, hT]; simp; omega)
        clear hT
        go_enter Tryd.func13, Tryd.ntmps13
        go_wp2_with (go_at_call 27; refine (ht _).mono ?_; rintro e w' ⟨rfl, hb⟩)
        go_ret
        exact ⟨by rw [H.out]; rfl, hb⟩
      | cons d q =>
        rw [hT] at ht
        have H : Hid ((dig most (c :: r)).isSome = false) := Lib.hid (by rw [dig_some, hT]; simp)
        clear hT
        go_enter Tryd.func13, Tryd.ntmps13
        go_wp2_with (go_at_call 27; refine (ht _).mono ?_; rintro e w' ⟨rfl, hb⟩)
        go_ret
        exact ⟨by rw [H.out]; rfl, hb⟩
    · have H : Hid ((dig most (c :: r)).isSome = false) := Lib.hid (by rw [dig_some]; simp; omega)
      go_enter Tryd.func13, Tryd.ntmps13
      go_wp2_with fail
      go_ret
      exact .of_eq (by rw [H.out]; rfl) rfl
theorem dec_good {l : List UInt8} {n k c : Nat} {x : UInt8} (h : Lib.decFrom 0 (l.take k) = some n) (hx : l[k]? = some x) (hc : x.toNat = c) (h1 : 48 ≤ c) (h2 : c ≤ 57) : Lib.decFrom 0 (l.take (k + 1)) = some (n * 10 + (c - 48)) :=
  Lib.decFrom_take l k 0 n x (c - 48) h hx (by subst hc; unfold Lib.digitVal; rw [if_pos ⟨h1, h2⟩])
theorem dec_bound {l : List UInt8} {m k : Nat} (h : Lib.decFrom 0 (l.take k) = some m) (hk : k ≤ 9) : m ≤ 999999999 := by
  have h1 := Lib.decFrom_lt (l.take k) 0 m h
  have h2 : 10 ^ (l.take k).length ≤ 10 ^ 9 := Nat.pow_le_pow_right (by decide) (by simp; omega)
  have : (10 : Nat) ^ 9 = 1000000000 := by decide
  omega
theorem dec_bad {l : List UInt8} {n k c : Nat} {x : UInt8} (h : Lib.decFrom 0 (l.take k) = some n) (hx : l[k]? = some x) (hc : x.toNat = c) (h1 : ¬ (48 ≤ c ∧ c ≤ 57)) : Lib.decFrom 0 l = none := by
  have hlt : k < l.length := (List.getElem?_eq_some_iff.1 hx).1
  have e : l = l.take k ++ x :: l.drop (k + 1) := by
    rw [← (List.getElem?_eq_some_iff.1 hx).2]
    simp
  rw [e, decFrom_append, h]
  subst hc
  simp only [Option.bind_some, Lib.decFrom, Lib.digitVal, if_neg h1]
set_option maxRecDepth 100000 in
theorem digitsR_any (l : List UInt8) (hl : l.length ≤ 9223372036854775807) (most : Nat) (hm9 : most ≤ 9) (w : World) :
    Calls Tryd.prog 16 #[.string ⟨l.toArray⟩, .int .i64 (most : Int)] w (RetV (.tuple #[.int .i64 ((dig most l).getD 0 : Nat), .bool (dig most l).isSome]) w) := by
  by_cases hm : 0 < l.length ∧ l.length ≤ most
  · have hne : l.isEmpty = false := by cases l <;> simp_all
    have hq : ¬ most < l.length := by omega
    have Hl : Hid (l.length ≤ 9) := Lib.hid (by omega)
    have Hd : Hid (dig most l = Lib.decFrom 0 l) := Lib.hid (by unfold dig; rw [if_neg]; rintro (rfl | h) <;> simp_all)
    clear hm hm9
    go_enter Tryd.func16, Tryd.ntmps16
    go_wp2_with fail
    go_loop [6, 7] (fun a j => ∃ n k : Nat, a = .int .i64 (n : Int) ∧ j = .int .i64 (k : Int) ∧ k ≤ l.length ∧ (n : Int) ≤ 999999999 ∧ Hid (Lib.decFrom 0 (l.take k) = some n)) (fun _ j => l.length - (intOf j).toNat)
    case atStart => exact ⟨0, 0, rfl, rfl, by omega, by decide, Lib.hid rfl⟩
    case round =>
      obtain ⟨n, k, rfl, rfl, hk, hn, Hn⟩ := hrel
      by_cases hlt : k < l.length
      · obtain ⟨x, hx⟩ : ∃ x, (⟨l.toArray⟩ : ByteArray)[k]'hlt = x := ⟨_, rfl⟩
        have Hx : Hid (l[k]? = some x) := Lib.hid (by rw [← hx, List.getElem?_eq_getElem hlt]; rfl)
        obtain ⟨c, hc⟩ : ∃ c : Nat, (x.toNat : Int) = (c : Int) := ⟨x.toNat, rfl⟩
        have Hc : Hid (x.toNat = c) := Lib.hid (by omega)
        by_cases hdg : 48 ≤ c ∧ c ≤ 57
        · obtain ⟨hd1, hd2⟩ := hdg
          have hd3 : ¬ ((c : Int) < 48) := by omega
          have hd4 : ¬ (57 < (c : Int)) := by omega
          have Hn2 := Lib.hid (dec_good Hn.out Hx.out Hc.out hd1 hd2)
          have Hb2 : Hid (n * 10 + (c - 48) ≤ 999999999) := Lib.hid (dec_bound Hn2.out (by have := Hl.out; omega))
          go_wp2_with fail
          exact ⟨⟨n * 10 + (c - 48), k + 1, by have := Hb2.out; go_num, by go_num, by omega, by have := Hb2.out; omega, Hn2⟩, by simp [intOf]; omega⟩
        · have Hbad := Lib.hid (dec_bad Hn.out Hx.out Hc.out hdg)
          have Hf1 : Hid ((dig most l).isSome = false) := Lib.hid (by rw [Hd.out, Hbad.out]; rfl)
          have Hf2 : Hid ((dig most l).getD 0 = 0) := Lib.hid (by rw [Hd.out, Hbad.out]; rfl)
          by_cases hlo : (c : Int) < 48
          · go_wp2_with fail
            go_ret2
            exact .of_eq (by rw [Hf1.out, Hf2.out]; rfl) rfl
          · have hhi : 57 < (c : Int) := by omega
            go_wp2_with fail
            go_ret2
            exact .of_eq (by rw [Hf1.out, Hf2.out]; rfl) rfl
      · have Hn3 : Hid (Lib.decFrom 0 l = some n) := Lib.hid (by have := Hn.out; rwa [List.take_of_length_le (by omega)] at this)
        have Hf1 : Hid ((dig most l).isSome = true) := Lib.hid (by rw [Hd.out, Hn3.out]; rfl)
        have Hf2 : Hid ((dig most l).getD 0 = n) := Lib.hid (by rw [Hd.out, Hn3.out]; rfl)
        go_wp2_with fail
        go_ret2
        exact .of_eq (by rw [Hf1.out, Hf2.out]; rfl) rfl
  · have Hn : Hid (dig most l = none) := Lib.hid (by unfold dig; rw [if_pos]; rcases Nat.eq_zero_or_pos l.length with h | h; exact .inl (List.eq_nil_of_length_eq_zero h); exact .inr (by omega))
    have Hf1 : Hid ((dig most l).isSome = false) := Lib.hid (by rw [Hn.out]; rfl)
    have Hf2 : Hid ((dig most l).getD 0 = 0) := Lib.hid (by rw [Hn.out]; rfl)
    cases l with
    | nil =>
      clear hm
      go_enter Tryd.func16, Tryd.ntmps16
      go_wp2_with fail
      go_ret2
      exact .of_eq (by rw [Hf1.out, Hf2.out]; rfl) rfl
    | cons a r =>
      have hq : most < r.length + 1 := by simp at hm; omega
      clear hm
      go_enter Tryd.func16, Tryd.ntmps16
      go_wp2_with fail
      go_ret2
      exact .of_eq (by rw [Hf1.out, Hf2.out]; rfl) rfl
end Go.Proofs.YtflmlkaiahpnmaaDoor
