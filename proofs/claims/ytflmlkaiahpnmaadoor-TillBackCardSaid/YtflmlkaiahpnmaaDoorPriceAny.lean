/- Both prices of any text. -/
import Derived.Test.YtflmlkaiahpnmaaDoorPriceR
import Derived.Test.YtflmlkaiahpnmaaDoorPrintS
import Derived.Lib.AtoiErrMem
namespace Go.Proofs.YtflmlkaiahpnmaaDoor
open Go.RowKit Go.Fl

theorem word_pos {b : Nat} (hb : 0 < b) (hb2 : b < 9007199254740992) : 0 < Ieee.double.nearest false b 0 := by
  obtain ⟨h1, h2⟩ := ofNat_exact hb2
  rcases Nat.eq_zero_or_pos (Ieee.double.nearest false b 0) with h | h
  · rw [h] at h2
    have h3 : V 0 = 0 := by rw [V_eq]; rw [show sig 0 = 0 from rfl, Nat.zero_mul]
    rw [h3] at h2
    have := Nat.mul_pos hb (Nat.two_pow_pos ((0 : Int) + 1074).toNat)
    omega
  · exact h
theorem quo_ok {a b : Nat} (ha : a < 9007199254740992) (hb : 0 < b) (hb2 : b < 9007199254740992) : Ieee.double.div (Ieee.double.nearest false a 0) (Ieee.double.nearest false b 0) = some (quo a b) ∧ quo a b ≤ 9218868437227405312 := by
  obtain ⟨x, hx, hl⟩ := div_some (ofNat_exact ha).1 (ofNat_exact hb2).1 (word_pos hb hb2)
  unfold quo
  rw [hx]
  exact ⟨rfl, hl⟩
def resL (o : Option Nat) : Value := match o with | some p => good p | none => bad
theorem dig_all {most n : Nat} {l : List UInt8} (h : dig most l = some n) : ∀ x, x ∈ l → 48 ≤ x.toNat ∧ x.toNat ≤ 57 := by
  have h1 := dig_lt h
  unfold dig at h
  split at h
  · cases h
  · have h2 := decFrom_isSome l 0
    rw [h] at h2
    intro x hx
    have h3 := (List.all_eq_true.1 h2.symm) x hx
    rw [tenc_iff] at h3
    exact of_decide_eq_true h3
theorem dig_from {most n : Nat} {l : List UInt8} (h : dig most l = some n) : Lib.decFrom 0 l = some n := by
  unfold dig at h
  split at h
  · cases h
  · exact h
theorem parse_ok {l : List UInt8} {N : Nat} (hd : Lib.decFrom 0 l = some N) (hl : l ≠ []) (h18 : l.length ≤ 18) (w : World) :
    Calls Tryd.prog 14 #[.string ⟨l.toArray⟩, .int .i64 10, .int .i64 64] w (RetV (.tuple #[.int .u64 (N : Int), .nilIface]) w) := by
  refine (Tryd.strconv_ParseUint_10_at64_ok ⟨l.toArray⟩ (by simp [ByteArray.size]; omega) N ?_ w).mono ?_
  · show Lib.parseUintB 64 l = .ok N
    rw [Lib.parseUintB_64, Lib.parseMag_short l h18]
    unfold Lib.decNat
    rw [if_neg (by simpa using hl), hd]
    rfl
  · rintro e w' ⟨rfl, rfl | rfl⟩
    · exact ⟨rfl, Below.refl _ _⟩
    · exact ⟨rfl, Lib.bytesWorld_below _ _ _⟩
theorem conv_u64 (n : Nat) (w : World) : (convert 24 39 (.int .u64 (n : Int))).run Tryd.prog w = .ok (.float .f64 (Ieee.double.nearest false n 0)) w := by
  rw [← floatOfInt_nat]
  exact run_convert_int_float w 24 39 .u64 .f64 n (by rw [Tryd.underlying24]; rfl) Tryd.underlying39
theorem digB {l : List UInt8} {most : Nat} {o : Option Nat} (h : dig most l = o) (hl : l.length ≤ 9223372036854775807) (w : World) : Calls Tryd.prog 13 #[.string ⟨l.toArray⟩, .int .i64 (most : Int)] w (RetV (.bool o.isSome) w) := by
  have := digits_any l hl most w
  rwa [h] at this
theorem head_cases {h : List UInt8} {n : Nat} (hd : dig 9 h = some n) : (∃ y r, h = 48 :: y :: r) ∨ h = [48] ∨ ∃ x r, h = x :: r ∧ x ≠ 48 := by
  have h1 := (dig_lt hd).2.2
  cases h with
  | nil => exact absurd rfl h1
  | cons x r =>
    by_cases hx : x = 48
    · subst hx
      cases r with
      | nil => exact .inr (.inl rfl)
      | cons y r => exact .inl ⟨y, r, rfl⟩
    · exact .inr (.inr ⟨x, r, rfl, hx⟩)
theorem priceL_none {h t : List UInt8} {pt : Bool} (hd : dig 9 h = none) : priceL h t pt = none := by unfold priceL; rw [hd]; rfl
theorem priceL_lead {y : UInt8} {r t : List UInt8} {pt : Bool} : priceL (48 :: y :: r) t pt = none := by
  unfold priceL
  cases dig 9 (48 :: y :: r) with
  | none => rfl
  | some n => simp only [Option.bind_some]; rw [if_pos ⟨by simp, rfl⟩]
theorem head_fine {h : List UInt8} (hh : h = [48] ∨ ∃ x r, h = x :: r ∧ x ≠ 48) : ¬ (1 < h.length ∧ h.head? = some 48) := by
  rcases hh with rfl | ⟨x, r, rfl, hx⟩
  · simp
  · rintro ⟨_, h2⟩
    exact hx (Option.some.inj h2)
theorem priceL_tail {h t : List UInt8} {n : Nat} (hd : dig 9 h = some n) (hh : h = [48] ∨ ∃ x r, h = x :: r ∧ x ≠ 48) : priceL h t true = (dig 6 t).map fun k => quo (n * 10 ^ t.length + k) (10 ^ t.length) := by
  unfold priceL
  rw [hd]
  simp only [Option.bind_some]
  rw [if_neg (head_fine hh)]
  rfl
theorem priceL_whole {h t : List UInt8} {n : Nat} (hd : dig 9 h = some n) (hh : h = [48] ∨ ∃ x r, h = x :: r ∧ x ≠ 48) : priceL h t false = some (quo n 1) := by
  unfold priceL
  rw [hd]
  simp only [Option.bind_some]
  rw [if_neg (head_fine hh)]
  rfl
theorem whole_lt {h : List UInt8} {n : Nat} (hd : dig 9 h = some n) : n ≤ 999999999 := by
  obtain ⟨h1, h2, _⟩ := dig_lt hd
  have h3 : 10 ^ h.length ≤ 10 ^ 9 := Nat.pow_le_pow_right (by decide) h2
  have : (10 : Nat) ^ 9 = 1000000000 := by decide
  omega
theorem part_lt {t : List UInt8} {k : Nat} (hd : dig 6 t = some k) : k ≤ 999999 ∧ t.length ≤ 6 := by
  obtain ⟨h1, h2, _⟩ := dig_lt hd
  have h3 : 10 ^ t.length ≤ 10 ^ 6 := Nat.pow_le_pow_right (by decide) h2
  have : (10 : Nat) ^ 6 = 1000000 := by decide
  omega
theorem num_lt {n k : Nat} {t : List UInt8} (hn : n ≤ 999999999) (hk : k ≤ 999999) (ht : t.length ≤ 6) : n * 10 ^ t.length + k < 9007199254740992 ∧ 0 < 10 ^ t.length ∧ 10 ^ t.length < 9007199254740992 := by
  have h1 := pow6 ht
  have h2 : n * 10 ^ t.length ≤ 999999999 * 1000000 := Nat.mul_le_mul hn h1
  have h3 : 0 < 10 ^ t.length := Nat.pow_pos (by decide)
  omega
theorem price_core (s : ByteArray) (h t : List UInt8) (pt : Bool) (hc : CutTo s h t pt) (hpt : pt = false → t = []) (hl : h.length ≤ 9223372036854775807) (hlt : t.length ≤ 9223372036854775807) (w : World) :
    Calls Tryd.prog 6 #[.string s] w (RetV (resL (priceL h t pt)) w) := by
  cases hd : dig 9 h with
  | none =>
    rw [priceL_none hd]
    exact price_bad1 s h t pt hc (digB hd hl) w
  | some n =>
    rcases head_cases hd with ⟨y, r, rfl⟩ | hh
    · rw [priceL_lead]
      exact price_bad2 s y r t pt hc (digB hd hl) w
    · have hn := whole_lt hd
      cases pt with
      | false =>
        obtain rfl := hpt rfl
        rw [priceL_whole hd hh]
        obtain ⟨q1, q2⟩ := quo_ok (a := n) (b := 1) (by omega) (by decide) (by decide)
        refine price_ok s h [] false n _ _ hh hc (digB hd hl) (fun e => by cases e) (dig_lt hd).2.1 (by decide) (fun j hj => absurd hj (by simp)) ?_ (conv_u64 n) ?_ (not_nan q2) w
        · rw [List.append_nil]
          exact parse_ok (dig_from hd) (dig_lt hd).2.2 (by have := (dig_lt hd).2.1; omega)
        · intro W
          refine run_float_arith W .quo 39 .f64 _ _ _ ?_
          rw [pw_nat _ (by decide)]
          exact q1
      | true =>
        rw [priceL_tail hd hh]
        cases hd2 : dig 6 t with
        | none => exact price_bad3 s h t hh hc (digB hd hl) (digB hd2 hlt) w
        | some k =>
          obtain ⟨hk, ht6⟩ := part_lt hd2
          obtain ⟨z1, z2, z3⟩ := num_lt hn hk ht6
          obtain ⟨q1, q2⟩ := quo_ok z1 z2 z3
          refine price_ok s h t true (n * 10 ^ t.length + k) _ _ hh hc (digB hd hl) (fun _ => digB hd2 hlt) (dig_lt hd).2.1 ht6 (fun j hj => ?_) ?_ (conv_u64 _) ?_ (not_nan q2) w
          · have := (dig_all hd2 t[j] (List.getElem_mem hj)).2
            show (t[j]).toNat < 128
            omega
          · refine parse_ok ?_ (fun e => (dig_lt hd).2.2 (List.append_eq_nil_iff.1 e).1) (by rw [List.length_append]; have := (dig_lt hd).2.1; omega)
            rw [decFrom_append, dig_from hd]
            exact decFrom_shift t n k (dig_from hd2)
          · intro W
            refine run_float_arith W .quo 39 .f64 _ _ _ ?_
            rw [pw_nat _ (by omega)]
            exact q1
theorem digRB {l : List UInt8} {most : Nat} {o : Option Nat} (h : dig most l = o) (hl : l.length ≤ 9223372036854775807) (hm : most ≤ 9) : DigR l (most : Int) (o.getD 0) o.isSome := fun w => by
  have := digitsR_any l hl most hm w
  rwa [h] at this
theorem quoR {n b : Nat} (hn : n < 9007199254740992) (hb : 0 < b) (hb2 : b < 9007199254740992) : QuoR n b (quo n b) := by
  obtain ⟨q1, q2⟩ := quo_ok hn hb hb2
  exact ⟨_, _, conv_back n, conv_back b, fun W => run_float_arith W .quo 39 .f64 _ _ _ q1, not_nan q2⟩
theorem headOk {h : List UInt8} (hh : h = [48] ∨ ∃ x r, h = x :: r ∧ x ≠ 48) : HeadOk h := by
  rcases hh with rfl | hh
  · exact .inl (by decide)
  · exact .inr hh
theorem tail_core (h t : List UInt8) (pt : Bool) (hpt : pt = false ↔ t = []) (hl : h.length ≤ 9223372036854775807) (hlt : t.length ≤ 9223372036854775807) : Tail h t (resL (priceL h t pt)) := by
  cases hd : dig 9 h with
  | none =>
    rw [priceL_none hd]
    exact .bad1 (digRB hd hl (by decide)) rfl
  | some n =>
    rcases head_cases hd with ⟨y, r, rfl⟩ | hh
    · rw [priceL_lead]
      exact .bad2 y r n rfl (digRB hd hl (by decide)) rfl
    · have hn := whole_lt hd
      cases pt with
      | false =>
        rw [priceL_whole hd hh]
        exact .good2 n _ (headOk hh) (digRB hd hl (by decide)) (hpt.1 rfl) (quoR (by omega) (by decide) (by decide)) rfl
      | true =>
        have ht : t ≠ [] := fun e => by have := hpt.2 e; cases this
        rw [priceL_tail hd hh]
        cases hd2 : dig 6 t with
        | none => exact .bad3 n (headOk hh) (digRB hd hl (by decide)) ht (digRB hd2 hlt (by decide)) rfl
        | some k =>
          obtain ⟨hk, ht6⟩ := part_lt hd2
          obtain ⟨z1, z2, z3⟩ := num_lt hn hk ht6
          exact .good1 n k _ (headOk hh) (digRB hd hl (by decide)) ht (digRB hd2 hlt (by decide)) hn hk ht6 (quoR z1 z2 z3) rfl
theorem not_mem {h : List UInt8} (hh : (46 : UInt8) ∉ h) : ∀ x, x ∈ h → x ≠ 46 := fun _ hx e => hh (e ▸ hx)
/-- Behind a point. -/
theorem both_hit (h t : List UInt8) (hh : (46 : UInt8) ∉ h) (hl : h.length + t.length ≤ 9223372036854775806) :
    (∀ w, Calls Tryd.prog 6 #[.string ⟨(h ++ 46 :: t).toArray⟩] w (RetV (resL (priceL h t true)) w)) ∧ (∀ w, Calls Tryd.prog 7 #[.string ⟨(h ++ 46 :: t).toArray⟩] w (RetV (resL (priceL h t true)) w)) := by
  refine ⟨fun w => price_core _ h t true (cut_hit h t hh (by omega)) (fun e => by cases e) (by omega) (by omega) w, fun w => ?_⟩
  by_cases ht : t = []
  · subst ht
    have e : priceL h [] true = none := by
      cases hd : dig 9 h with
      | none => exact priceL_none hd
      | some n =>
        rcases head_cases hd with ⟨y, r, rfl⟩ | hx
        · exact priceL_lead
        · rw [priceL_tail hd hx]; rfl
    rw [e]
    exact priceR_hit_nil h (not_mem hh) (by simpa using hl) w
  · exact priceR_hit h t (not_mem hh) ht hl _ (tail_core h t true (by simp [ht]) (by omega) (by omega)) w
/-- Without one. -/
theorem both_miss (h : List UInt8) (hh : (46 : UInt8) ∉ h) (hl : h.length ≤ 9223372036854775807) :
    (∀ w, Calls Tryd.prog 6 #[.string ⟨h.toArray⟩] w (RetV (resL (priceL h [] false)) w)) ∧ (∀ w, Calls Tryd.prog 7 #[.string ⟨h.toArray⟩] w (RetV (resL (priceL h [] false)) w)) :=
  ⟨fun w => price_core _ h [] false (cut_miss h hh) (fun _ => rfl) (by omega) (by decide) w,
   fun w => priceR_miss h (not_mem hh) hl _ (tail_core h [] false (by simp) (by omega) (by decide)) w⟩
theorem split46 : ∀ l : List UInt8, (46 : UInt8) ∉ l ∨ ∃ h t, l = h ++ 46 :: t ∧ (46 : UInt8) ∉ h
  | [] => .inl (by simp)
  | c :: r => by
    by_cases hc : c = 46
    · subst hc
      exact .inr ⟨[], r, rfl, by simp⟩
    · rcases split46 r with h | ⟨h, t, rfl, hh⟩
      · exact .inl (by simp [h]; exact fun e => hc e.symm)
      · exact .inr ⟨c :: h, t, rfl, by simp [hh]; exact fun e => hc e.symm⟩
/-- Of whatever text both say the same. -/
theorem both_price (l : List UInt8) (hl : l.length ≤ 9223372036854775807) : ∃ o : Option Nat,
    (∀ w, Calls Tryd.prog 6 #[.string ⟨l.toArray⟩] w (RetV (resL o) w)) ∧ (∀ w, Calls Tryd.prog 7 #[.string ⟨l.toArray⟩] w (RetV (resL o) w)) := by
  rcases split46 l with h | ⟨h, t, rfl, hh⟩
  · exact ⟨_, both_miss l h hl⟩
  · exact ⟨_, both_hit h t hh (by simp at hl; omega)⟩
end Go.Proofs.YtflmlkaiahpnmaaDoor
