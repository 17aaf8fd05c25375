/- Plain laws on float64 words with the infinity; what a price's print is, as a list of bytes. No program. -/
import Derived.Test.YtflmlkaiahpnmaaDoorBk
import Derived.Lib.ItoaNum
namespace Go.Fl
open Go Ieee

theorem read_inf : double.read 9218868437227405312 = .infinity false := by decide
theorem order_le {a b : Nat} (ha : a ≤ 9218868437227405312) (hb : b < 9218868437227405312) : double.order a b = some (compare a b) := by
  rcases Nat.lt_or_ge a 9218868437227405312 with h | h
  · exact order_pos h hb
  · obtain rfl : a = 9218868437227405312 := by omega
    unfold Format.order
    rw [read_inf, read_pos hb, Nat.compare_eq_gt.2 hb]
    rfl
theorem mul_some {a b : Nat} (ha : a < 9218868437227405312) (hb : b < 9218868437227405312) : ∃ x, double.mul a b = some x ∧ x ≤ 9218868437227405312 := by
  refine ⟨double.nearest false (sig a * sig b) (plc a + plc b), ?_, nearest_le _ _⟩
  unfold Format.mul
  rw [read_pos ha, read_pos hb]
  rfl
theorem sig_pos {b : Nat} (h : 0 < b) : sig b ≠ 0 := by unfold sig; split <;> omega
theorem div_some {a b : Nat} (ha : a < 9218868437227405312) (hb : b < 9218868437227405312) (h0 : 0 < b) : ∃ x, double.div a b = some x ∧ x ≤ 9218868437227405312 := by
  unfold Format.div
  rw [read_pos ha, read_pos hb, quotient_num (sig_pos h0)]
  exact ⟨_, rfl, nearest_le _ _⟩
theorem not_nan {x : Nat} (h : x ≤ 9218868437227405312) : isNaN x = false := by rw [isNaN_iff]; simp; omega
theorem top_bit (r : Nat) (h : r < 9223372036854775808) : r ^^^ 2 ^ 63 = 2 ^ 63 + r := by
  apply Nat.eq_of_testBit_eq
  intro i
  rw [Nat.testBit_xor, Nat.testBit_two_pow]
  rcases Nat.lt_trichotomy i 63 with hi | hi | hi
  · rw [Nat.testBit_two_pow_add_gt hi]
    rw [decide_eq_false (show ¬ 63 = i by omega)]; simp
  · subst hi
    rw [Nat.testBit_two_pow_add_eq]
    simp
  · have h1 : 2 ^ 63 + r < 2 ^ i := Nat.lt_of_lt_of_le (show 2 ^ 63 + r < 2 ^ 64 by omega) (Nat.pow_le_pow_right (by decide) (by omega))
    rw [Nat.testBit_lt_two_pow h1, Nat.testBit_lt_two_pow (show r < 2 ^ i by omega), decide_eq_false (show ¬ 63 = i by omega)]
    rfl
theorem neg_low {r : Nat} (h : r < 9223372036854775808) : Op.negFloat .f64 r = 9223372036854775808 + r := top_bit r h
theorem neg_high {r : Nat} (h : r < 9223372036854775808) : Op.negFloat .f64 (9223372036854775808 + r) = r := by
  have := top_bit r h
  show (2 ^ 63 + r) ^^^ 2 ^ 63 = r
  rw [← this, Nat.xor_assoc, Nat.xor_self, Nat.xor_zero]
theorem order_neg {r : Nat} (h : r ≤ 9218868437227405312) : (double.order (9223372036854775808 + r) 9218868437227405311 == some .gt) = false := by
  rcases Nat.lt_or_ge r 9218868437227405312 with h1 | h1
  · have e1 : (9223372036854775808 + r) % 9223372036854775808 = r := by omega
    have e2 : (9223372036854775808 + r) / 9223372036854775808 = 1 := by omega
    have hr := read_finite (9223372036854775808 + r) (by omega)
    rw [e1, e2] at hr
    unfold Format.order
    rw [hr, read_pos (show 9218868437227405311 < 9218868437227405312 by decide)]
    simp only [Datum.order, beq_eq_false_iff_ne, ne_eq, Option.some.injEq]
    intro hc
    rw [Int.compare_eq_gt] at hc
    have k1 : ∀ m u, signed (1 % 2 == 1) m u ≤ 0 := fun m u => Int.neg_nonpos_of_nonneg (Int.natCast_nonneg (m <<< u))
    have k2 : ∀ m u, 0 ≤ signed false m u := fun m u => Int.natCast_nonneg (m <<< u)
    have := k1 (sig r) (plc r - min (plc r) (plc 9218868437227405311)).toNat
    have := k2 (sig 9218868437227405311) (plc 9218868437227405311 - min (plc r) (plc 9218868437227405311)).toNat
    omega
  · obtain rfl : r = 9218868437227405312 := by omega
    decide
theorem order_max {r : Nat} (h : r ≤ 9218868437227405312) : (double.order r 9218868437227405311 == some .gt) = (r == 9218868437227405312) := by
  rw [order_le h (by decide)]
  rcases Nat.lt_or_ge r 9218868437227405312 with h1 | h1
  · rw [show (r == 9218868437227405312) = false from by simp; omega]
    rcases Nat.lt_or_ge r 9218868437227405311 with h2 | h2
    · rw [Nat.compare_eq_lt.2 h2]; rfl
    · obtain rfl : r = 9218868437227405311 := by omega
      rw [Nat.compare_eq_eq.2 rfl]; rfl
  · obtain rfl : r = 9218868437227405312 := by omega
    rw [Nat.compare_eq_gt.2 (by decide)]; rfl
/-- 100, as a float. -/
def C : Nat := 4636737291354636288
def hund (r : Nat) : Nat := (double.mul r 4636737291354636288).getD 0
theorem hund_eq {r : Nat} (h : r < 9218868437227405312) : double.mul r 4636737291354636288 = some (hund r) ∧ hund r ≤ 9218868437227405312 := by
  obtain ⟨x, hx, hl⟩ := mul_some h (show 4636737291354636288 < 9218868437227405312 by decide)
  unfold hund
  rw [hx]
  exact ⟨rfl, hl⟩
/-- At least three digits. -/
def pad (l : List UInt8) : List UInt8 := List.replicate (3 - l.length) 48 ++ l
/-- A point before the last two. -/
def dots (l : List UInt8) : List UInt8 := l.take (l.length - 2) ++ 46 :: l.drop (l.length - 2)
def sgn (b : Nat) : List UInt8 := if 9223372036854775808 ≤ b then [45] else []
def prt (b : Nat) : List UInt8 :=
  if isNaN b then [110, 97, 110] else
  if b % 9223372036854775808 = 9218868437227405312 then sgn b ++ [105, 110, 102] else
  if hund (b % 9223372036854775808) < 4845873199050653696 then sgn b ++ dots (pad (Lib.decDigits (rnd (hund (b % 9223372036854775808))))) else [98, 105, 103]
theorem pad_length (l : List UInt8) : 3 ≤ (pad l).length := by unfold pad; simp; omega
theorem pad_done {l : List UInt8} (h : 3 ≤ l.length) : pad l = l := by unfold pad; rw [show 3 - l.length = 0 by omega]; rfl
theorem pad_step {l : List UInt8} (h : l.length < 3) : pad (48 :: l) = pad l := by
  unfold pad
  rw [List.length_cons, show 3 - l.length = (3 - (l.length + 1)) + 1 by omega, List.replicate_succ']
  simp
/-- The digits of a number that are still to come, ahead of those that stand. -/
def more (n : Nat) (t : List UInt8) : List UInt8 := if 0 < n then Lib.decDigits n ++ t else t
theorem more_step {n : Nat} (h : 0 < n) (t : List UInt8) : more (n / 10) (UInt8.ofNat (48 + n % 10) :: t) = more n t := by
  unfold more
  rw [if_pos h]
  by_cases h2 : n < 10
  · rw [if_neg (by omega), Lib.decDigits_one h2, Nat.mod_eq_of_lt h2]; rfl
  · rw [if_pos (by omega)]
    conv => rhs; rw [Lib.decDigits, dif_neg h2]
    simp
theorem pad_more {n : Nat} : pad (more n []) = pad (Lib.decDigits n) := by
  unfold more
  by_cases h : 0 < n
  · rw [if_pos h, List.append_nil]
  · obtain rfl : n = 0 := by omega
    rw [if_neg h, Lib.decDigits_one (by decide)]
    rfl
end Go.Fl
