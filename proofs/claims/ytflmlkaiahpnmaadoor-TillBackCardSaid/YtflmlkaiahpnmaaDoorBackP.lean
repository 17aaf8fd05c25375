/- Plain: a price of two digits behind the point, printed, is the text that it was read from. -/
import Derived.Test.YtflmlkaiahpnmaaDoorDg
namespace Go.Fl
open Go Ieee

def d8 (n : Nat) : UInt8 := UInt8.ofNat (48 + n)
theorem d8_nat {n : Nat} (h : n < 10) : (d8 n).toNat = 48 + n := by unfold d8; rw [UInt8.toNat_ofNat']; omega
theorem dec_big {n : Nat} (h : ¬ n < 10) : Lib.decDigits n = Lib.decDigits (n / 10) ++ [d8 (n % 10)] := by
  conv => lhs; rw [Lib.decDigits, dif_neg h]
  rfl
theorem dec_small {n : Nat} (h : n < 10) : Lib.decDigits n = [d8 n] := Lib.decDigits_one h
theorem from_one (acc : Nat) {n : Nat} (h : n < 10) : Lib.decFrom acc [d8 n] = some (acc * 10 + n) := by
  have := d8_nat h
  simp only [Lib.decFrom, Lib.digitVal, this]
  rw [if_pos (by omega)]
  simp
theorem from_dec : ∀ (k n : Nat), n < 10 ^ k → Lib.decFrom 0 (Lib.decDigits n) = some n
  | 0, n, h => by
    obtain rfl : n = 0 := by simpa using h
    rw [dec_small (by decide), from_one 0 (by decide)]
  | k + 1, n, h => by
    by_cases hn : n < 10
    · rw [dec_small hn, from_one 0 hn]; simp
    · rw [dec_big hn, decFrom_append, from_dec k (n / 10) (by rw [Nat.pow_succ] at h; omega)]
      simp only [Option.bind_some]
      rw [from_one _ (Nat.mod_lt _ (by decide))]
      congr 1
      omega
theorem len_dec : ∀ (k n : Nat), n < 10 ^ (k + 1) → (Lib.decDigits n).length ≤ k + 1
  | 0, n, h => by rw [dec_small (by simpa using h)]; simp
  | k + 1, n, h => by
    by_cases hn : n < 10
    · rw [dec_small hn]; simp
    · rw [dec_big hn, List.length_append]
      have := len_dec k (n / 10) (by rw [Nat.pow_succ] at h; omega)
      simpa using this
theorem head_dec : ∀ (k n : Nat), n < 10 ^ k → 0 < n → ∃ x r, Lib.decDigits n = x :: r ∧ x ≠ 48
  | 0, n, h, h0 => by simp at h; omega
  | k + 1, n, h, h0 => by
    by_cases hn : n < 10
    · rw [dec_small hn]
      refine ⟨_, _, rfl, fun e => ?_⟩
      have := d8_nat hn
      rw [e] at this
      simp at this
      omega
    · obtain ⟨x, r, e, hx⟩ := head_dec k (n / 10) (by rw [Nat.pow_succ] at h; omega) (by omega)
      rw [dec_big hn, e]
      exact ⟨x, r ++ [d8 (n % 10)], rfl, hx⟩
theorem no_point : ∀ (k n : Nat), n < 10 ^ k → (46 : UInt8) ∉ Lib.decDigits n
  | 0, n, h => by
    obtain rfl : n = 0 := by simpa using h
    decide +kernel
  | k + 1, n, h => by
    have hd : ∀ m, m < 10 → (46 : UInt8) ∉ [d8 m] := fun m hm e => by
      have h1 : (46 : UInt8) = d8 m := by simpa using e
      have := d8_nat hm
      rw [← h1] at this
      simp at this
      omega
    by_cases hn : n < 10
    · rw [dec_small hn]
      exact hd n hn
    · rw [dec_big hn]
      intro e
      rcases List.mem_append.1 e with e | e
      · exact no_point k (n / 10) (by rw [Nat.pow_succ] at h; omega) e
      · exact hd _ (Nat.mod_lt _ (by decide)) e
/-- The text of a whole number and hundredths. -/
def two (W H : Nat) : List UInt8 := Lib.decDigits W ++ 46 :: [d8 (H / 10), d8 (H % 10)]
theorem price_two {W H : Nat} (hW : W < 1000000000) (hH : H < 100) : priceL (Lib.decDigits W) [d8 (H / 10), d8 (H % 10)] true = some (quo (W * 100 + H) 100) := by
  have h1 : dig 9 (Lib.decDigits W) = some W := by
    unfold dig
    have hl := len_dec 8 W (by simpa using hW)
    rw [if_neg, from_dec 9 W (by simpa using hW)]
    rintro (e | e)
    · by_cases hn : W < 10
      · rw [dec_small hn] at e; cases e
      · rw [dec_big hn] at e; simp at e
    · omega
  have h2 : dig 6 [d8 (H / 10), d8 (H % 10)] = some H := by
    unfold dig
    rw [if_neg (by simp)]
    have e : [d8 (H / 10), d8 (H % 10)] = [d8 (H / 10)] ++ [d8 (H % 10)] := rfl
    rw [e, decFrom_append, from_one 0 (by omega)]
    simp only [Option.bind_some]
    rw [from_one _ (by omega)]
    congr 1
    omega
  unfold priceL
  rw [h1]
  simp only [Option.bind_some]
  rw [if_neg, if_pos trivial, h2]
  · rfl
  · rintro ⟨hl, hh⟩
    rcases Nat.eq_zero_or_pos W with h0 | h0
    · subst h0
      rw [dec_small (by decide)] at hl
      simp at hl
    · obtain ⟨x, r, e, hx⟩ := head_dec 9 W (by simpa using hW) h0
      rw [e] at hh
      exact hx (Option.some.inj hh)
theorem dots_two {W H : Nat} (hH : H < 100) : dots (pad (Lib.decDigits (W * 100 + H))) = two W H := by
  have key : ∀ (a : List UInt8) (x y : UInt8), 1 ≤ a.length → dots (pad (a ++ [x, y])) = a ++ 46 :: [x, y] := by
    intro a x y ha
    rw [pad_done (by simp; omega)]
    unfold dots
    simp
  unfold two
  rcases Nat.eq_zero_or_pos W with h0 | h0
  · subst h0
    rw [Nat.zero_mul, Nat.zero_add, dec_small (show 0 < 10 by decide)]
    by_cases h1 : H < 10
    · rw [dec_small h1, show H / 10 = 0 by omega, show H % 10 = H by omega]
      rfl
    · rw [dec_big h1, dec_small (show H / 10 < 10 by omega)]
      rfl
  · have e : Lib.decDigits (W * 100 + H) = Lib.decDigits W ++ [d8 (H / 10), d8 (H % 10)] := by
      rw [dec_big (by omega), dec_big (show ¬ (W * 100 + H) / 10 < 10 by omega)]
      rw [show (W * 100 + H) / 10 / 10 = W by omega, show (W * 100 + H) / 10 % 10 = H / 10 by omega, show (W * 100 + H) % 10 = H % 10 by omega]
      simp
    rw [e]
    exact key _ _ _ (by obtain ⟨x, r, e, _⟩ := head_dec W W (Nat.lt_pow_self (by decide)) h0; rw [e]; simp)
theorem print_two {W H : Nat} (hW : W < 1000000000) (hH : H < 100) : prt (quo (W * 100 + H) 100) = two W H ∧ quo (W * 100 + H) 100 < 9223372036854775808 := by
  have h100 : double.nearest false 100 0 = 4636737291354636288 := by decide +kernel
  rcases Nat.eq_zero_or_pos (W * 100 + H) with h0 | h0
  · obtain ⟨rfl, rfl⟩ : W = 0 ∧ H = 0 := by omega
    decide +kernel
  · obtain ⟨p, x, h1, h2, h3, h4, h5⟩ := back_round (A := W * 100 + H) (by omega) (by omega)
    have hq : quo (W * 100 + H) 100 = p := by unfold quo; rw [h100, h1]; rfl
    rw [hq]
    have hm : p % 9223372036854775808 = p := by omega
    have hx : hund p = x := by unfold hund; rw [h3]; rfl
    refine ⟨?_, by omega⟩
    unfold prt
    rw [if_neg (by rw [isNaN_iff]; simp; omega), hm, if_neg (by omega), hx, if_pos h4, h5, dots_two hH]
    unfold sgn
    rw [if_neg (by omega)]
    rfl
end Go.Fl
