/- Plain: four letters at once; 'or' and 'and' of small numbers. -/
import Derived.Test.YtpdedfpacklnoaaGreatDoorTkN
import Derived.Laws.BitsAllLaws
namespace Go.Proofs.YtpdedfpacklnoaaGreatDoor
open Go.RowKit Go.BL Go.Ct Go.Sl

/-- The number of the first letters, up to four. -/
def numL (t : List Nat) : Nat → Nat
  | 0 => 0
  | i + 1 => numL t i * 64 + (if i < min t.length 4 then vlt (t.getD i 0) else 0)
theorem vlt_64 {c : Nat} (h : ¬ vlt c < 64) : vlt c = 64 := by have := vlt_le c; omega
theorem bytes_bad : ∀ {t : List Nat} {j : Nat}, j < min t.length 4 → ¬ vlt (t.getD j 0) < 64 → bytesL t = none
  | [], j, hj, _ => by simp at hj
  | [a], _, _, _ => rfl
  | [a, b], j, hj, h => by
    have h := vlt_64 h
    simp only [bytesL]
    rcases j with _ | _ | j
    · exact if_pos (Or.inl h)
    · exact if_pos (Or.inr (Or.inl h))
    · simp at hj; omega
  | [a, b, c], j, hj, h => by
    have h := vlt_64 h
    simp only [bytesL]
    rcases j with _ | _ | _ | j
    · exact if_pos (Or.inl h)
    · exact if_pos (Or.inr (Or.inl h))
    · exact if_pos (Or.inr (Or.inr (Or.inl h)))
    · simp at hj; omega
  | a :: b :: c :: d :: r, j, hj, h => by
    have h := vlt_64 h
    simp only [bytesL]
    rcases j with _ | _ | _ | _ | j
    · exact if_pos (Or.inl h)
    · exact if_pos (Or.inr (Or.inl h))
    · exact if_pos (Or.inr (Or.inr (Or.inl h)))
    · exact if_pos (Or.inr (Or.inr (Or.inr h)))
    · omega
theorem bytes_one {t : List Nat} (h : min t.length 4 = 1) : bytesL t = none := by
  match t, h with
  | [a], _ => rfl
  | [], h => simp at h
  | a :: b :: r, h => simp at h <;> omega
theorem bytes_two {t : List Nat} (h : min t.length 4 = 2) (hv : ∀ j, j < 2 → vlt (t.getD j 0) < 64) : bytesL t = if numL t 4 % 65536 ≠ 0 then none else (bytesL (t.drop 2)).map ([numL t 4 / 65536] ++ ·) := by
  match t, h with
  | [a, b], _ =>
    have h0 : vlt a < 64 := hv 0 (by decide)
    have h1 : vlt b < 64 := hv 1 (by decide)
    have hn : numL [a, b] 4 = vlt a * 262144 + vlt b * 4096 := by simp [numL]; omega
    rw [hn]
    simp only [bytesL]
    by_cases h2 : vlt b % 16 ≠ 0
    · rw [if_pos (Or.inr (Or.inr h2)), if_pos (by omega)]
    · rw [if_neg (by omega), if_neg (by omega)]
      simp [bytesL]; omega
  | [], h => simp at h
  | [a], h => simp at h
  | a :: b :: c :: r, h => simp at h <;> omega
theorem bytes_three {t : List Nat} (h : min t.length 4 = 3) (hv : ∀ j, j < 3 → vlt (t.getD j 0) < 64) : bytesL t = if numL t 4 % 256 ≠ 0 then none else (bytesL (t.drop 3)).map ([numL t 4 / 65536, numL t 4 / 256 % 256] ++ ·) := by
  match t, h with
  | [a, b, c], _ =>
    have h0 : vlt a < 64 := hv 0 (by decide)
    have h1 : vlt b < 64 := hv 1 (by decide)
    have h2 : vlt c < 64 := hv 2 (by decide)
    have hn : numL [a, b, c] 4 = vlt a * 262144 + vlt b * 4096 + vlt c * 64 := by simp [numL]; omega
    rw [hn]
    simp only [bytesL]
    by_cases h3 : vlt c % 4 ≠ 0
    · rw [if_pos (Or.inr (Or.inr (Or.inr h3))), if_pos (by omega)]
    · rw [if_neg (by omega), if_neg (by omega)]
      simp [bytesL]; omega
  | [], h => simp at h
  | [a], h => simp at h
  | [a, b], h => simp at h
  | a :: b :: c :: d :: r, h => simp at h <;> omega
theorem bytes_four {t : List Nat} (h : min t.length 4 = 4) (hv : ∀ j, j < 4 → vlt (t.getD j 0) < 64) : bytesL t = (bytesL (t.drop 4)).map ([numL t 4 / 65536, numL t 4 / 256 % 256, numL t 4 % 256] ++ ·) := by
  match t, h with
  | a :: b :: c :: d :: r, _ =>
    have h0 : vlt a < 64 := hv 0 (by decide)
    have h1 : vlt b < 64 := hv 1 (by decide)
    have h2 : vlt c < 64 := hv 2 (by decide)
    have h3 : vlt d < 64 := hv 3 (by decide)
    have hm : min (r.length + 1 + 1 + 1 + 1) 4 = 4 := by omega
    have hn : numL (a :: b :: c :: d :: r) 4 = vlt a * 262144 + vlt b * 4096 + vlt c * 64 + vlt d := by simp [numL, hm]; omega
    rw [hn]
    simp only [bytesL]
    rw [if_neg (by omega)]
    simp only [List.drop_succ_cons, List.drop_zero]
    congr 1
    funext x
    simp only [List.cons_append, List.nil_append, List.cons.injEq, and_true]
    refine ⟨by omega, by omega, by omega⟩
  | [], h => simp at h
  | [a], h => simp at h
  | [a, b], h => simp at h
  | [a, b, c], h => simp at h
theorem or_i64 (a b : Nat) (ha : a < 4294967296) (hb : b < 4294967296) : bits .or .i64 (a : Int) (b : Int) = ((a ||| b : Nat) : Int) := by
  have hx : a ||| b < 2 ^ 32 := Nat.or_lt_two_pow (by omega) (by omega)
  have h1 : (BitVec.ofInt 64 (a : Int)).toNat = a := by
    rw [BitVec.ofInt_natCast, BitVec.toNat_ofNat]; exact Nat.mod_eq_of_lt (by omega)
  have h2 : (BitVec.ofInt 64 (b : Int)).toNat = b := by
    rw [BitVec.ofInt_natCast, BitVec.toNat_ofNat]; exact Nat.mod_eq_of_lt (by omega)
  show IntKind.i64.wrap ((BitVec.ofInt 64 (a : Int) ||| BitVec.ofInt 64 (b : Int)).toNat : Int) = _
  rw [BitVec.toNat_or, h1, h2, IntKind.wrap_i64]
  omega
theorem and_i64 (a b : Nat) (ha : a < 4294967296) (hb : b < 4294967296) : bits .and .i64 (a : Int) (b : Int) = ((a &&& b : Nat) : Int) := by
  have hx : a &&& b < 2 ^ 32 := Nat.and_lt_two_pow _ (by omega)
  have h1 : (BitVec.ofInt 64 (a : Int)).toNat = a := by
    rw [BitVec.ofInt_natCast, BitVec.toNat_ofNat]; exact Nat.mod_eq_of_lt (by omega)
  have h2 : (BitVec.ofInt 64 (b : Int)).toNat = b := by
    rw [BitVec.ofInt_natCast, BitVec.toNat_ofNat]; exact Nat.mod_eq_of_lt (by omega)
  show IntKind.i64.wrap ((BitVec.ofInt 64 (a : Int) &&& BitVec.ofInt 64 (b : Int)).toNat : Int) = _
  rw [BitVec.toNat_and, h1, h2, IntKind.wrap_i64]
  omega
theorem or_add (X v : Nat) (hX : X * 64 < 16777216) (hv : v < 64) : bits .or .i64 ((X : Int) * 64) (v : Int) = ((X * 64 + v : Nat) : Int) := by
  have h := or_i64 (X * 64) v (by omega) (by omega)
  rw [nat_join 6 (X * 64) v (by omega) (by omega)] at h
  rw [← h]; norm_cast
theorem and_low (X : Nat) (hX : X < 16777216) : bits .and .i64 (X : Int) 0 = 0 ∧ bits .and .i64 (X : Int) 255 = ((X % 256 : Nat) : Int) ∧ bits .and .i64 (X : Int) 65535 = ((X % 65536 : Nat) : Int) := by
  refine ⟨?_, ?_, ?_⟩
  · have := and_i64 X 0 (by omega) (by decide); simpa using this
  · have := and_i64 X 255 (by omega) (by decide); rw [show X &&& 255 = X % 256 from Nat.and_two_pow_sub_one_eq_mod X 8] at this; exact this
  · have := and_i64 X 65535 (by omega) (by decide); rw [show X &&& 65535 = X % 65536 from Nat.and_two_pow_sub_one_eq_mod X 16] at this; exact this
end Go.Proofs.YtpdedfpacklnoaaGreatDoor
