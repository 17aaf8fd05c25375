/- The number at the beginning of bytes: plain, no program. -/
import Derived.Laws.BitsAllLaws
import Derived.Laws.Bits64
namespace Go.Wr
/-- A number's reading: what is wrong, or the number and how many bytes it takes. -/
inductive Got where
  | bad (e : Nat)
  | got (n k : Nat)
/-- From the i-th byte on, n being read so far. -/
def num : List Nat → Nat → Nat → Got
  | [], _, _ => .bad 2
  | x :: l, i, n => if i = 8 ∧ 128 ≤ x then .bad 5 else if x < 128 then (if 0 < i ∧ x = 0 then .bad 10 else .got (n + x * 128 ^ i) (i + 1)) else num l (i + 1) (n + x % 128 * 128 ^ i)
theorem num_nil (i n : Nat) : num [] i n = .bad 2 := rfl
theorem num_range {x : Nat} {l : List Nat} {n : Nat} (h : 128 ≤ x) : num (x :: l) 8 n = .bad 5 := by simp [num, h]
theorem num_form {l : List Nat} {i n : Nat} (h : 0 < i) : num (0 :: l) i n = .bad 10 := by simp [num, h]
theorem num_end {x : Nat} {l : List Nat} {i n : Nat} (h : x < 128) (h0 : ¬ (0 < i ∧ x = 0)) : num (x :: l) i n = .got (n + x * 128 ^ i) (i + 1) := by
  rw [num, if_neg (by omega), if_pos h, if_neg h0]
theorem num_more {x : Nat} {l : List Nat} {i n : Nat} (h : 128 ≤ x) (hi : i ≠ 8) : num (x :: l) i n = num l (i + 1) (n + x % 128 * 128 ^ i) := by
  rw [num, if_neg (by omega), if_neg (by omega)]
theorem num_bad : ∀ (l : List Nat) (i n e : Nat), num l i n = .bad e → e ≠ 0
  | [], _, _, e, h => by simp [num] at h; omega
  | x :: l, i, n, e, h => by
    rw [num] at h
    split at h
    · injection h with h; omega
    · split at h
      · split at h
        · injection h with h; omega
        · cases h
      · exact num_bad l _ _ e h
theorem num_pos : ∀ (l : List Nat) (i n m k : Nat), num l i n = .got m k → i < k
  | [], _, _, _, _, h => by simp [num] at h
  | x :: l, i, n, m, k, h => by
    rw [num] at h
    split at h
    · cases h
    · split at h
      · split at h
        · cases h
        · injection h with _ h; omega
      · have := num_pos l _ _ _ _ h; omega
theorem num_le : ∀ (l : List Nat) (i n m k : Nat), num l i n = .got m k → k ≤ i + l.length
  | [], _, _, _, _, h => by simp [num] at h
  | x :: l, i, n, m, k, h => by
    rw [num] at h
    split at h
    · cases h
    · split at h
      · split at h
        · cases h
        · injection h with _ h; simp; omega
      · have := num_le l _ _ _ _ h; simp; omega
/-- What a reader's call gives: the value, the error, where it stands then. -/
def uintAt (bs : List Nat) (i : Nat) : Nat × Nat × Nat := match num (bs.drop i) 0 0 with
  | .bad c => (0, c, i)
  | .got n k => (n, 0, i + k)
def byteAt (bs : List Nat) (i : Nat) : Nat × Nat × Nat := if i < bs.length then (bs.getD i 0, 0, i + 1) else (0, 2, i)
def textAt (bs : List Nat) (i : Nat) (most : Int) : List Nat × Nat × Nat := match num (bs.drop i) 0 0 with
  | .bad c => ([], c, i)
  | .got n k => if max most 0 < (n : Int) then ([], 4, i) else if bs.length - (i + k) < n then ([], 2, i) else ((bs.drop (i + k)).take n, 0, i + k + n)
/-- Bytes as a text. -/
def bstr (T : List Nat) : ByteArray := ⟨(T.map UInt8.ofNat).toArray⟩
end Go.Wr
