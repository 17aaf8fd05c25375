/- Plain: digits, prices of texts. -/
import Derived.Test.YtflmlkaiahpnmaaDoorPl
import Derived.Lib.AtoiTie
import Derived.Lib.ParseIntBCases
import Derived.Lib.SlTrimSet
namespace Go.Fl
open Go Ieee

def tenc : List UInt8 := [48, 49, 50, 51, 52, 53, 54, 55, 56, 57]
set_option maxRecDepth 100000 in
theorem tenc_iff (c : UInt8) : tenc.contains c = decide (48 ≤ c.toNat ∧ c.toNat ≤ 57) := by
  have : ∀ n, n < 256 → tenc.contains (UInt8.ofNat n) = decide (48 ≤ n ∧ n ≤ 57) := by decide
  have h := this c.toNat c.toNat_lt
  simpa using h
theorem decFrom_isSome : ∀ (l : List UInt8) (acc : Nat), (Lib.decFrom acc l).isSome = l.all (tenc.contains ·)
  | [], acc => rfl
  | c :: r, acc => by
    rw [List.all_cons, tenc_iff]
    by_cases hd : 48 ≤ c.toNat ∧ c.toNat ≤ 57
    · rw [decide_eq_true hd, Bool.true_and, ← decFrom_isSome r (acc * 10 + (c.toNat - 48))]
      simp only [Lib.decFrom, Lib.digitVal, if_pos hd]
    · rw [decide_eq_false hd, Bool.false_and]
      simp only [Lib.decFrom, Lib.digitVal, if_neg hd]
      rfl
theorem dw_nil {p : UInt8 → Bool} : ∀ {l : List UInt8}, l.dropWhile p = [] ↔ ∀ x, x ∈ l → p x = true
  | [] => by simp
  | c :: r => by
    rw [List.dropWhile_cons]
    by_cases h : p c = true
    · rw [if_pos h, dw_nil]
      simp [h]
    · rw [if_neg h]
      simp [h]
theorem trim_nil (l : List UInt8) : (Lib.trimS l tenc = []) ↔ l.all (tenc.contains ·) = true := by
  unfold Lib.trimS Lib.trimLeftS Lib.trimRightS
  constructor
  · intro h
    rw [dw_nil] at h
    by_cases hx : (l.reverse.dropWhile (tenc.contains ·)) = []
    · rw [dw_nil] at hx
      rw [List.all_eq_true]
      exact fun x hx' => hx x (List.mem_reverse.2 hx')
    · exfalso
      have h1 := List.head_dropWhile_not (tenc.contains ·) hx
      have h2 := h _ (List.mem_reverse.2 (List.head_mem hx))
      rw [h2] at h1
      cases h1
  · intro h
    rw [List.all_eq_true] at h
    have : l.reverse.dropWhile (tenc.contains ·) = [] := by
      rw [dw_nil]
      exact fun x hx => h x (List.mem_reverse.1 hx)
    rw [this]; rfl
/-- The number of digits; none: they are none, or too many. -/
def dig (most : Nat) (l : List UInt8) : Option Nat := if l = [] ∨ most < l.length then none else Lib.decFrom 0 l
theorem dig_some {most : Nat} {l : List UInt8} : (dig most l).isSome = (decide (l ≠ []) && decide (l.length ≤ most) && decide (Lib.trimS l tenc = [])) := by
  unfold dig
  by_cases h1 : l = []
  · subst h1; simp
  · by_cases h2 : most < l.length
    · rw [if_pos (.inr h2)]
      simp
      omega
    · rw [if_neg (by simp [h1]; omega), decFrom_isSome]
      rw [decide_eq_true h1, decide_eq_true (by omega : l.length ≤ most), Bool.true_and, Bool.true_and]
      rw [Bool.eq_iff_iff, decide_eq_true_eq, trim_nil]
theorem decFrom_append : ∀ (a b : List UInt8) (acc : Nat), Lib.decFrom acc (a ++ b) = (Lib.decFrom acc a).bind fun n => Lib.decFrom n b
  | [], b, acc => rfl
  | c :: r, b, acc => by
    rw [List.cons_append]
    by_cases hd : 48 ≤ c.toNat ∧ c.toNat ≤ 57
    · simp only [Lib.decFrom, Lib.digitVal, if_pos hd]
      exact decFrom_append r b _
    · simp only [Lib.decFrom, Lib.digitVal, if_neg hd]
      rfl
theorem decFrom_shift : ∀ (l : List UInt8) (acc n : Nat), Lib.decFrom 0 l = some n → Lib.decFrom acc l = some (acc * 10 ^ l.length + n)
  | l, acc, n => by
    have key : ∀ (l : List UInt8) (a b : Nat), Lib.decFrom (a + b) l = (Lib.decFrom b l).map (a * 10 ^ l.length + ·) := by
      intro l
      induction l with
      | nil => intro a b; simp [Lib.decFrom]
      | cons c r ih =>
        intro a b
        by_cases hd : 48 ≤ c.toNat ∧ c.toNat ≤ 57
        · simp only [Lib.decFrom, Lib.digitVal, if_pos hd]
          rw [show (a + b) * 10 + (c.toNat - 48) = a * 10 + (b * 10 + (c.toNat - 48)) by rw [Nat.add_mul]; omega, ih, List.length_cons, Nat.pow_succ]
          rw [Nat.mul_assoc, Nat.mul_comm 10]
        · simp only [Lib.decFrom, Lib.digitVal, if_neg hd]
          rfl
    intro h
    have := key l acc 0
    rw [Nat.add_zero, h] at this
    simpa using this
theorem dig_lt {most n : Nat} {l : List UInt8} (h : dig most l = some n) : n < 10 ^ l.length ∧ l.length ≤ most ∧ l ≠ [] := by
  unfold dig at h
  split at h
  · cases h
  · rename_i hl
    have := Lib.decFrom_lt l 0 n h
    refine ⟨by omega, by omega, fun h => hl (.inl h)⟩
/-- A number of so many parts. -/
def quo (a b : Nat) : Nat := (double.div (double.nearest false a 0) (double.nearest false b 0)).getD 0
/-- The price of a head and a tail, if there is a point. -/
def priceL (h t : List UInt8) (pt : Bool) : Option Nat :=
  (dig 9 h).bind fun n =>
    if 1 < h.length ∧ h.head? = some 48 then none else
    if pt then (dig 6 t).map fun k => quo (n * 10 ^ t.length + k) (10 ^ t.length) else some (quo n 1)
end Go.Fl
