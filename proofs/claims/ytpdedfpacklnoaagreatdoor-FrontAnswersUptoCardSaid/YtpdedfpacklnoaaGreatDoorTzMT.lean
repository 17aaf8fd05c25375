/- Plain laws on float64 words: what an operation gives up to which NaN it is; multiplication by one, subtraction of zero and of itself; sums and products of numbe Plain laws on float64 words that are no -/
import Derived.Laws.FloatArith
import Derived.Deep.Draws
import Derived.Laws.NewFold
import Derived.Lib.ItoaNum
import Derived.Lib.AtoiTie
import Derived.Lib.ParseIntBCases
import Derived.Lib.SlTrimSet
namespace Go.Fl
set_option maxRecDepth 100000
open Go Ieee

/-- A word's meaning up to which NaN it is: none for a NaN, else the word. -/
def isNaN (b : Nat) : Bool := (FloatKind.f64.format.read b).isNaN
/-- What the operation leaves: the value, how many draws. -/
def res (op : BinOp) (w : World) (x y : Nat) : Nat :=
 match floatBits op .f64 x y with
 | some r => r
 | none => (Question.nanBits .f64 x y).cut (w.tape w.drawn (.nanBits .f64 x y))
theorem isNaN_iff (b : Nat) : isNaN b = decide (9218868437227405312 < b % 9223372036854775808) := by
 show (Ieee.Format.read Ieee.double b).isNaN = _
 unfold Ieee.Format.read
 have e1 : Ieee.double.signWeight = 9223372036854775808 := by decide
 have e2 : Ieee.double.binade = 4503599627370496 := by decide
 have e3 : Ieee.double.infRung = 9218868437227405312 := by decide
 simp only [e1, e2, e3]
 generalize b % 9223372036854775808 = r
 by_cases h1 : r < 4503599627370496
 ·rw [if_pos h1]; simp [Ieee.Datum.isNaN]; omega
 ·rw [if_neg h1]
  by_cases h2 : r < 9218868437227405312
  ·rw [if_pos h2]; simp [Ieee.Datum.isNaN]; omega
  ·rw [if_neg h2]
   by_cases h3 : r = 9218868437227405312
   ·rw [if_pos h3]; simp [Ieee.Datum.isNaN]; omega
   ·rw [if_neg h3]; simp [Ieee.Datum.isNaN]; omega
theorem read_cases (b : Nat) : (FloatKind.f64.format.read b).isNaN = true ↔ ∃ s t, FloatKind.f64.format.read b = .nan s t := by
 cases FloatKind.f64.format.read b <;> simp [Ieee.Datum.isNaN]

/-- The bits that 'bits' hands back. -/
def word (c : Option Nat) : Nat := c.getD 0x7ff8000000000001

theorem order_self (b : Nat) : (FloatKind.f64.format.order b b == some .eq) = !isNaN b := by
 unfold isNaN Ieee.Format.order
 cases FloatKind.f64.format.read b <;> simp [Ieee.Datum.order, Ieee.Datum.isNaN]
theorem order_self' (b : Nat) : (FloatKind.f64.format.order b b != some .eq) = isNaN b := by
 rw [bne, order_self]; simp

theorem d_sw : double.signWeight = 9223372036854775808 := by decide
theorem d_bin : double.binade = 4503599627370496 := by decide
theorem d_inf : double.infRung = 9218868437227405312 := by decide
theorem d_least : double.leastPlace = -1074 := by decide
theorem d_frac : double.fractionBits = 52 := rfl

/-- A rung's significand and place. -/
def sig (r : Nat) : Nat := if r < 4503599627370496 then r else 4503599627370496 + r % 4503599627370496
def plc (r : Nat) : Int := if r < 4503599627370496 then -1074 else -1074 + (r / 4503599627370496 - 1 : Nat)

theorem read_finite (b : Nat) (h : b % 9223372036854775808 < 9218868437227405312) :
  double.read b = .number (b / 9223372036854775808 % 2 == 1) (sig (b % 9223372036854775808)) (plc (b % 9223372036854775808)) := by
 unfold Format.read sig plc
 simp only [d_sw, d_bin, d_inf, d_least]
 by_cases h1 : b % 9223372036854775808 < 4503599627370496
 ·simp [h1]
 ·rw [if_neg h1, if_pos h, if_neg h1, if_neg h1]

theorem plc_ge (r : Nat) : -1074 ≤ plc r := by unfold plc; split <;> omega

theorem log2_shift (m k : Nat) (hm : m ≠ 0) : (m <<< k).log2 = m.log2 + k := by
 rw [Nat.shiftLeft_eq]
 have h1 : m * 2 ^ k ≠ 0 := Nat.mul_ne_zero hm (Nat.pos_iff_ne_zero.1 (Nat.two_pow_pos k))
 rw [Nat.log2_eq_iff h1]
 have h2 := Nat.log2_self_le hm
 have h3 := Nat.lt_log2_self (n := m)
 constructor
 ·rw [Nat.pow_add]; exact Nat.mul_le_mul_right _ h2
 ·rw [show m.log2 + k + 1 = (m.log2 + 1) + k by omega, Nat.pow_add]
  exact Nat.mul_lt_mul_of_pos_right h3 (Nat.two_pow_pos k)

theorem cut_exact (neg : Bool) (m k : Nat) (hm : m ≠ 0) : Toward.even.cut neg (m <<< k) k = m := by
 unfold Toward.cut
 simp only [log2_shift m k hm]
 rw [Nat.min_eq_left (by omega)]
 have e1 : (m <<< k) / (1 <<< k) = m := by
  rw [Nat.shiftLeft_eq, Nat.shiftLeft_eq, Nat.one_mul]; exact Nat.mul_div_cancel _ (Nat.two_pow_pos k)
 have e2 : (m <<< k) % (1 <<< k) = 0 := by
  rw [Nat.shiftLeft_eq, Nat.shiftLeft_eq, Nat.one_mul]; exact Nat.mul_mod_left _ _
 rw [e1, e2]
 have : (1 <<< k) ≠ 0 := by rw [Nat.shiftLeft_eq, Nat.one_mul]; exact Nat.pos_iff_ne_zero.1 (Nat.two_pow_pos k)
 simp [this]

theorem log2_sub (m : Nat) (hm : m ≠ 0) (h : m < 4503599627370496) : m.log2 < 52 := (Nat.log2_lt hm).2 (by simpa using h)
theorem log2_nor (m : Nat) (h1 : 4503599627370496 ≤ m) (h2 : m < 9007199254740992) : m.log2 = 52 := by
 rw [Nat.log2_eq_iff (by omega)]; omega

theorem nearest_shift (neg : Bool) (r k : Nat) (hr : r < 9218868437227405312) :
  double.nearest neg (sig r <<< k) (plc r - k) = double.word neg r := by
 unfold Format.nearest
 by_cases hm : sig r = 0
 ·rw [hm, Nat.zero_shiftLeft, if_pos rfl]
  have : r = 0 := by unfold sig at hm; split at hm <;> omega
  rw [this]
 ·have hs : sig r <<< k ≠ 0 := by rw [Nat.shiftLeft_eq]; exact Nat.mul_ne_zero hm (Nat.pos_iff_ne_zero.1 (Nat.two_pow_pos k))
  rw [if_neg hs]
  simp only [log2_shift _ k hm, d_frac, d_least, d_bin, d_inf]
  have hlast : max (plc r - k + ((sig r).log2 + k : Nat) - (52 : Nat)) (-1074) = plc r := by
   unfold plc
   by_cases h1 : r < 4503599627370496
   ·rw [if_pos h1]
    have e : sig r = r := by unfold sig; rw [if_pos h1]
    have := log2_sub r (by rw [← e]; exact hm) h1
    rw [e]; omega
   ·rw [if_neg h1]
    have e : (sig r).log2 = 52 := by
     unfold sig; rw [if_neg h1]; exact log2_nor _ (by omega) (by omega)
    rw [e]; omega
  rw [hlast]
  have e1 : (plc r - k - plc r).toNat = 0 := by omega
  have e2 : (plc r - (plc r - (k : Int))).toNat = k := by omega
  rw [e1, e2, Nat.shiftLeft_zero, cut_exact neg _ k hm]
  congr 1
  unfold plc sig
  by_cases h1 : r < 4503599627370496
  ·rw [if_pos h1, if_pos h1]; omega
  ·rw [if_neg h1, if_neg h1]; omega

theorem word_self (b : Nat) (hb : b < 18446744073709551616) : double.word (b / 9223372036854775808 % 2 == 1) (b % 9223372036854775808) = b := by
 unfold Format.word
 rw [d_sw]
 by_cases h : b / 9223372036854775808 % 2 = 1
 ·simp [h]; omega
 ·simp [h]; omega

theorem mul_one (b : Nat) (hb : b < 18446744073709551616) (h : b % 9223372036854775808 < 9218868437227405312) : double.mul b 4607182418800017408 = some b := by
 unfold Format.mul
 have e1 : double.read 4607182418800017408 = .number false 4503599627370496 (-52) := by decide
 rw [e1, read_finite b h]
 simp only [Datum.product, Bool.xor_false, Option.map_some, Format.write]
 have e2 : sig (b % 9223372036854775808) * 4503599627370496 = sig (b % 9223372036854775808) <<< 52 := by rw [Nat.shiftLeft_eq]
 have e3 : plc (b % 9223372036854775808) + -52 = plc (b % 9223372036854775808) - (52 : Nat) := by omega
 rw [e2, e3, nearest_shift _ _ _ h, word_self b hb]

theorem sub_self (b : Nat) (h : b % 9223372036854775808 < 9218868437227405312) : double.sub b b = some 0 := by
 unfold Format.sub
 rw [read_finite b h]
 generalize (b / 9223372036854775808 % 2 == 1) = s
 have e : ∀ m u, signed s m u + signed (!s) m u = 0 := by intro m u; cases s <;> simp [signed] <;> omega
 simp only [Datum.opposite, Datum.sum, Option.map_some, e, if_pos, Int.natAbs_zero, Bool.and_not_self]
 rfl

theorem nearest_le (m : Nat) (p : Int) : double.nearest false m p ≤ 9218868437227405312 := by
 unfold Format.nearest
 split
 ·simp [Format.word]
 ·simp only [Format.word, d_inf, d_bin, Bool.false_eq_true, if_false]
  exact Nat.min_le_right _ _

end Go.Fl
namespace Go.Fl
set_option maxRecDepth 100000
open Go Ieee

/-- A finite word's number, in units of 2^-1074. -/
def V (r : Nat) : Nat := sig r * 2 ^ (plc r + 1074).toNat
theorem plcN (r : Nat) : (plc r + 1074).toNat = r / 4503599627370496 - 1 := by
 unfold plc
 split
 ·have : r / 4503599627370496 = 0 := Nat.div_eq_of_lt (by assumption)
  omega
 ·omega
theorem V_eq (r : Nat) : V r = sig r * 2 ^ (r / 4503599627370496 - 1) := by unfold V; rw [plcN]
theorem sig_lt (r : Nat) : sig r < 9007199254740992 := by unfold sig; split <;> omega
theorem sig_ge {r : Nat} (h : 4503599627370496 ≤ r) : 4503599627370496 ≤ sig r := by unfold sig; rw [if_neg (by omega)]; omega
theorem V_lt {a b : Nat} (h : a < b) : V a < V b := by
 rw [V_eq, V_eq]
 by_cases he : a / 4503599627370496 = b / 4503599627370496
 ·rw [he]
  refine Nat.mul_lt_mul_of_pos_right ?_ (Nat.two_pow_pos _)
  unfold sig
  split <;> split <;> omega
 ·have hlt : a / 4503599627370496 < b / 4503599627370496 := Nat.lt_of_le_of_ne (Nat.div_le_div_right (Nat.le_of_lt h)) he
  have hb : 4503599627370496 ≤ sig b := sig_ge (by omega)
  have h2 : 4503599627370496 * 2 ^ (b / 4503599627370496 - 1) ≤ sig b * 2 ^ (b / 4503599627370496 - 1) := Nat.mul_le_mul_right _ hb
  refine Nat.lt_of_lt_of_le ?_ h2
  by_cases ha : a < 4503599627370496
  ·have e : a / 4503599627370496 - 1 = 0 := by omega
   have es : sig a = a := by unfold sig; rw [if_pos ha]
   rw [e, es, Nat.pow_zero, Nat.mul_one]
   have := Nat.two_pow_pos (b / 4503599627370496 - 1)
   exact Nat.lt_of_lt_of_le ha (Nat.le_mul_of_pos_right _ this)
  ·have h3 : sig a * 2 ^ (a / 4503599627370496 - 1) < 9007199254740992 * 2 ^ (a / 4503599627370496 - 1) := Nat.mul_lt_mul_of_pos_right (sig_lt a) (Nat.two_pow_pos _)
   refine Nat.lt_of_lt_of_le h3 ?_
   have h4 : 9007199254740992 * 2 ^ (a / 4503599627370496 - 1) = 4503599627370496 * 2 ^ (a / 4503599627370496 - 1 + 1) := by rw [Nat.pow_succ]; omega
   rw [h4]
   exact Nat.mul_le_mul_left _ (Nat.pow_le_pow_right (by decide) (by omega))
theorem V_le_iff {a b : Nat} : V a ≤ V b ↔ a ≤ b := by
 constructor
 ·intro h
  rcases Nat.lt_or_ge b a with h' | h'
  ·have := V_lt h'; omega
  ·exact h'
 ·intro h
  rcases Nat.eq_or_lt_of_le h with rfl | h'
  ·exact Nat.le_refl _
  ·exact Nat.le_of_lt (V_lt h')
theorem V_inj {a b : Nat} (h : V a = V b) : a = b := Nat.le_antisymm (V_le_iff.1 (Nat.le_of_eq h)) (V_le_iff.1 (Nat.le_of_eq h.symm))
theorem read_pos {r : Nat} (h : r < 9218868437227405312) : double.read r = .number false (sig r) (plc r) := by
 have e1 : r % 9223372036854775808 = r := by omega
 have e2 : r / 9223372036854775808 = 0 := by omega
 have := read_finite r (by omega)
 rw [e1, e2] at this
 exact this
/-- The order of two finite words that are not below nought. -/
theorem order_pos {a b : Nat} (ha : a < 9218868437227405312) (hb : b < 9218868437227405312) : double.order a b = some (compare a b) := by
 unfold Format.order
 rw [read_pos ha, read_pos hb]
 have hA := plc_ge a
 have hB := plc_ge b
 simp only [Datum.order, Option.some.injEq]
 have key : ∀ (m : Nat) (p base : Int), base ≤ p → -1074 ≤ base → signed false m (p - base).toNat * (2 : Int) ^ (base + 1074).toNat = ((m * 2 ^ (p + 1074).toNat : Nat) : Int) := by
  intro m p base h1 h2
  have e : (p + 1074).toNat = (p - base).toNat + (base + 1074).toNat := by omega
  show ((m <<< (p - base).toNat : Nat) : Int) * _ = _
  rw [Nat.shiftLeft_eq, e, Nat.pow_add, ← Nat.mul_assoc]
  simp
 have k1 := key (sig a) (plc a) (min (plc a) (plc b)) (by omega) (by omega)
 have k2 := key (sig b) (plc b) (min (plc a) (plc b)) (by omega) (by omega)
 have hpos : (0 : Int) < (2 : Int) ^ (min (plc a) (plc b) + 1074).toNat := Int.pow_pos (by decide)
 generalize signed false (sig a) (plc a - min (plc a) (plc b)).toNat = x at *
 generalize signed false (sig b) (plc b - min (plc a) (plc b)).toNat = y at *
 generalize (2 : Int) ^ (min (plc a) (plc b) + 1074).toNat = z at *
 have k1' : x * z = ((V a : Nat) : Int) := k1
 have k2' : y * z = ((V b : Nat) : Int) := k2
 rcases Nat.lt_trichotomy a b with h | h | h
 ·have hv := V_lt h
  rw [Nat.compare_eq_lt.2 h, Int.compare_eq_lt.2]
  exact Int.lt_of_mul_lt_mul_right (by rw [k1', k2']; omega) (Int.le_of_lt hpos)
 ·subst h
  have : x = y := Int.eq_of_mul_eq_mul_right (by omega) (k1'.trans k2'.symm)
  rw [this, Nat.compare_eq_eq.2 rfl, Int.compare_eq_eq.2 rfl]
 ·have hv := V_lt h
  rw [Nat.compare_eq_gt.2 h, Int.compare_eq_gt.2]
  exact Int.lt_of_mul_lt_mul_right (by rw [k1', k2']; omega) (Int.le_of_lt hpos)
theorem V_parts {e s : Nat} (hs : s < 9007199254740992) (h : e = 0 ∨ 4503599627370496 ≤ s) : V (e * 4503599627370496 + s) = s * 2 ^ e := by
 rw [V_eq]
 by_cases hlow : s < 4503599627370496
 ·obtain rfl : e = 0 := by omega
  have e1 : (0 * 4503599627370496 + s) = s := by omega
  rw [e1]
  have : s / 4503599627370496 - 1 = 0 := by omega
  rw [this]
  unfold sig; rw [if_pos hlow]
 ·have e1 : (e * 4503599627370496 + s) / 4503599627370496 - 1 = e := by omega
  rw [e1]
  have e2 : sig (e * 4503599627370496 + s) = s := by
   unfold sig; rw [if_neg (by omega)]; omega
  rw [e2]
theorem cut_drop (neg : Bool) (m k : Nat) (hm : m ≠ 0) (c : Nat) (hc : c ≤ k) : Toward.even.cut neg (m <<< k) c = m <<< (k - c) := by
 have e : m <<< k = (m <<< (k - c)) <<< c := by rw [← Nat.shiftLeft_add]; congr 1; omega
 rw [e]
 exact cut_exact neg _ c (by rw [Nat.shiftLeft_eq]; exact Nat.mul_ne_zero hm (Nat.pos_iff_ne_zero.1 (Nat.two_pow_pos _)))
theorem cut_zero (neg : Bool) (m : Nat) : Toward.even.cut neg m 0 = m := by
 unfold Toward.cut
 simp [Nat.mod_one]
theorem nearest_of {mag : Nat} {p last : Int} {e kept : Nat} (hm : mag ≠ 0) (hl : max (p + mag.log2 - 52) (-1074) = last) (he : last + 1074 = e)
  (hk : Toward.even.cut false (mag <<< (p - last).toNat) (last - p).toNat = kept) (hb : e * 4503599627370496 + kept ≤ 9218868437227405312) :
  double.nearest false mag p = e * 4503599627370496 + kept := by
 unfold Format.nearest
 rw [if_neg hm]
 simp only [d_frac, d_least, d_bin, d_inf]
 have e0 : max (p + (mag.log2 : Int) - ((52 : Nat) : Int)) (-1074) = last := hl
 rw [e0, hk, show (last - -1074).toNat = e by omega, Nat.min_eq_left hb]
 rfl
theorem rung_lt {e K : Nat} (h : e ≤ 1974) (hk : K < 9007199254740992) : e * 4503599627370496 + K < 9218868437227405312 := by
 have h4 : e * 4503599627370496 ≤ 1974 * 4503599627370496 := Nat.mul_le_mul_right _ h
 omega
theorem nearest_exact {t j : Nat} {q : Int} (ht : t ≠ 0) (ht2 : t < 9007199254740992) (hq : -1074 ≤ q) (hq2 : q ≤ 900) :
  double.nearest false (t <<< j) (q - j) < 9218868437227405312 ∧ V (double.nearest false (t <<< j) (q - j)) = t * 2 ^ (q + 1074).toNat := by
 have hL : t.log2 ≤ 52 := by
  have := (Nat.log2_lt ht).2 (show t < 2 ^ 53 by omega)
  omega
 have hlo := Nat.log2_self_le ht
 have hhi := Nat.lt_log2_self (n := t)
 have hs : t <<< j ≠ 0 := by rw [Nat.shiftLeft_eq]; exact Nat.mul_ne_zero ht (Nat.pos_iff_ne_zero.1 (Nat.two_pow_pos j))
 obtain ⟨last, hlast⟩ : ∃ last : Int, max (q + t.log2 - 52) (-1074) = last := ⟨_, rfl⟩
 have e0 : max (q - j + ((t <<< j).log2 : Int) - 52) (-1074) = last := by rw [log2_shift t j ht, ← hlast]; omega
 obtain ⟨d, hd⟩ : ∃ d : Nat, q - last = d := ⟨(q - last).toNat, by omega⟩
 obtain ⟨e, he⟩ : ∃ e : Nat, last + 1074 = e := ⟨(last + 1074).toNat, by omega⟩
 have hkept : Toward.even.cut false ((t <<< j) <<< (q - j - last).toNat) (last - (q - j)).toNat = t <<< d := by
  by_cases hc : last ≤ q - j
  ·have e1 : (q - j - last).toNat = d - j := by omega
   have e2 : (last - (q - j)).toNat = 0 := by omega
   rw [e1, e2, cut_zero, ← Nat.shiftLeft_add]
   congr 1; omega
  ·have e1 : (q - j - last).toNat = 0 := by omega
   have e2 : (last - (q - j)).toNat = j - d := by omega
   rw [e1, e2, Nat.shiftLeft_zero, cut_drop false t j ht (j - d) (by omega)]
   congr 1; omega
 have hdL : d ≤ 52 - t.log2 := by omega
 have hE : e ≤ 1974 := by omega
 have hk1 : t <<< d < 9007199254740992 := by
  rw [Nat.shiftLeft_eq]
  have h1 : t * 2 ^ d < 2 ^ (t.log2 + 1) * 2 ^ d := Nat.mul_lt_mul_of_pos_right hhi (Nat.two_pow_pos d)
  rw [← Nat.pow_add] at h1
  exact Nat.lt_of_lt_of_le h1 (Nat.le_trans (Nat.pow_le_pow_right (by decide) (show t.log2 + 1 + d ≤ 53 by omega)) (by decide))
 have hk2 : e = 0 ∨ 4503599627370496 ≤ t <<< d := by
  by_cases hz : e = 0
  ·exact .inl hz
  ·right
   rw [Nat.shiftLeft_eq]
   have h1 : 2 ^ t.log2 * 2 ^ d ≤ t * 2 ^ d := Nat.mul_le_mul_right _ hlo
   rw [← Nat.pow_add, show t.log2 + d = 52 by omega] at h1
   exact h1
 have hr : double.nearest false (t <<< j) (q - j) = e * 4503599627370496 + t <<< d := by
  refine nearest_of hs e0 he hkept ?_
  exact Nat.le_of_lt (rung_lt hE hk1)
 rw [hr]
 refine ⟨rung_lt hE hk1, ?_⟩
 rw [V_parts hk1 hk2, Nat.shiftLeft_eq, Nat.mul_assoc, ← Nat.pow_add]
 have hde : d + e = (q + 1074).toNat := by omega
 rw [hde]
/-- A whole number below 2^53 as a float. -/
theorem ofNat_exact {n : Nat} (h : n < 9007199254740992) : double.nearest false n 0 < 9218868437227405312 ∧ V (double.nearest false n 0) = n * 2 ^ ((0 : Int) + 1074).toNat := by
 by_cases h0 : n = 0
 ·subst h0
  have e : double.nearest false 0 0 = 0 := rfl
  rw [e]
  refine ⟨by omega, ?_⟩
  rw [Nat.zero_mul, V_eq]
  have : sig 0 = 0 := rfl
  rw [this, Nat.zero_mul]
 ·have h1 := nearest_exact (t := n) (j := 0) (q := 0) h0 h (by omega) (by omega)
  rw [Nat.shiftLeft_zero] at h1
  exact h1
/-- A difference that is exact. -/
theorem sub_exact {a b t : Nat} {q : Int} (ha : a < 9218868437227405312) (hb : b < 9218868437227405312) (ht : t < 9007199254740992) (hq : -1074 ≤ q) (hq2 : q ≤ 900) (hbase : min (plc a) (plc b) ≤ q)
  (hv : V a = V b + t * 2 ^ (q + 1074).toNat) : ∃ y, double.sub a b = some y ∧ y < 9218868437227405312 ∧ V y = t * 2 ^ (q + 1074).toNat := by
 unfold Format.sub
 rw [read_pos ha, read_pos hb]
 have hA := plc_ge a
 have hB := plc_ge b
 simp only [Datum.opposite, Datum.sum, Option.map_some, Bool.not_false]
 obtain ⟨base, hbs⟩ : ∃ base, min (plc a) (plc b) = base := ⟨_, rfl⟩
 rw [hbs]
 have key : ∀ (m : Nat) (p : Int), base ≤ p → m * 2 ^ (p + 1074).toNat = (m <<< (p - base).toNat) * 2 ^ (base + 1074).toNat := by
  intro m p h1
  have e : (p + 1074).toNat = (p - base).toNat + (base + 1074).toNat := by omega
  rw [Nat.shiftLeft_eq, e, Nat.pow_add, Nat.mul_assoc]
 have k1 : V a = (sig a <<< (plc a - base).toNat) * 2 ^ (base + 1074).toNat := key _ _ (by omega)
 have k2 : V b = (sig b <<< (plc b - base).toNat) * 2 ^ (base + 1074).toNat := key _ _ (by omega)
 have k3 : t * 2 ^ (q + 1074).toNat = (t <<< (q - base).toNat) * 2 ^ (base + 1074).toNat := key _ _ (by omega)
 rw [k1, k2, k3, ← Nat.add_mul] at hv
 have hs := Nat.eq_of_mul_eq_mul_right (Nat.two_pow_pos _) hv
 clear k1 k2 k3 hv key
 have htot : signed false (sig a) (plc a - base).toNat + signed true (sig b) (plc b - base).toNat = ((t <<< (q - base).toNat : Nat) : Int) := by
  show ((sig a <<< (plc a - base).toNat : Nat) : Int) + -((sig b <<< (plc b - base).toNat : Nat) : Int) = _
  rw [hs]
  generalize sig b <<< (plc b - base).toNat = B
  generalize t <<< (q - base).toNat = T
  omega
 rw [htot, Int.natAbs_natCast]
 refine ⟨_, rfl, ?_⟩
 by_cases h0 : t = 0
 ·subst h0
  rw [Nat.zero_shiftLeft]
  have e : double.write (.number (if ((0 : Nat) : Int) = 0 then (false && true) else decide (((0 : Nat) : Int) < 0)) 0 base) = 0 := rfl
  rw [e]
  refine ⟨by omega, ?_⟩
  rw [Nat.zero_mul, V_eq]
  have : sig 0 = 0 := rfl
  rw [this, Nat.zero_mul]
 ·have hpos : t <<< (q - base).toNat ≠ 0 := by rw [Nat.shiftLeft_eq]; exact Nat.mul_ne_zero h0 (Nat.pos_iff_ne_zero.1 (Nat.two_pow_pos _))
  have e1 : (if ((t <<< (q - base).toNat : Nat) : Int) = 0 then (false && true) else decide (((t <<< (q - base).toNat : Nat) : Int) < 0)) = false := by
   generalize t <<< (q - base).toNat = K at *
   rw [if_neg (by omega)]
   simp
  rw [e1]
  show double.nearest false _ base < _ ∧ V (double.nearest false _ base) = _
  have e2 : base = q - ((q - base).toNat : Int) := by omega
  have h1 := nearest_exact (t := t) (j := (q - base).toNat) (q := q) h0 ht hq hq2
  rw [← e2] at h1
  exact h1
theorem cut_even_eq (m k : Nat) : Toward.even.cut false m k = m / 2 ^ k + (if 2 ^ k < 2 * (m % 2 ^ k) ∨ (2 ^ k = 2 * (m % 2 ^ k) ∧ m / 2 ^ k % 2 = 1) then 1 else 0) := by
 unfold Toward.cut
 by_cases hk : k ≤ m.log2 + 2
 ·rw [Nat.min_eq_left hk]
  simp only [Nat.one_shiftLeft]
  congr 1
  by_cases h : 2 ^ k < 2 * (m % 2 ^ k) ∨ (2 ^ k = 2 * (m % 2 ^ k) ∧ m / 2 ^ k % 2 = 1)
  ·rw [if_pos h]
   rcases h with h | ⟨h1, h2⟩
   ·simp [h]
   ·simp [← h1, h2]
  ·rw [if_neg h]
   have h1 : ¬ 2 ^ k < 2 * (m % 2 ^ k) := fun e => h (.inl e)
   have h2 : ¬ (2 ^ k = 2 * (m % 2 ^ k) ∧ m / 2 ^ k % 2 = 1) := fun e => h (.inr e)
   simp only [h1, decide_false, Bool.false_or]
   by_cases h3 : 2 ^ k = 2 * (m % 2 ^ k)
   ·have h4 : ¬ m / 2 ^ k % 2 = 1 := fun e => h2 ⟨h3, e⟩
    simp [h4]
   ·simp [h3]
 ·rw [Nat.min_eq_right (by omega)]
  simp only [Nat.one_shiftLeft]
  have hlt := Nat.lt_log2_self (n := m)
  have hg : 2 ^ (m.log2 + 2) = 2 * 2 ^ (m.log2 + 1) := by rw [show m.log2 + 2 = (m.log2 + 1) + 1 by omega, Nat.pow_succ]; omega
  have hk2 : 2 ^ (m.log2 + 2) ≤ 2 ^ k := Nat.pow_le_pow_right (by decide) (by omega)
  rw [Nat.div_eq_of_lt (show m < 2 ^ (m.log2 + 2) by omega), Nat.mod_eq_of_lt (show m < 2 ^ (m.log2 + 2) by omega), Nat.div_eq_of_lt (show m < 2 ^ k by omega), Nat.mod_eq_of_lt (show m < 2 ^ k by omega)]
  rw [if_neg (by omega)]
  have h1 : ¬ 2 ^ (m.log2 + 2) < 2 * m := by omega
  have h2 : ¬ 2 ^ (m.log2 + 2) = 2 * m := by omega
  simp [h1]
theorem cut_zero_eq (s : Bool) (m k : Nat) : Toward.zero.cut s m k = m / 2 ^ k := by
 unfold Toward.cut
 by_cases hk : k ≤ m.log2 + 2
 ·rw [Nat.min_eq_left hk]
  simp [Nat.one_shiftLeft]
 ·rw [Nat.min_eq_right (by omega)]
  simp only [Nat.one_shiftLeft, Bool.toNat_false, Nat.add_zero]
  have hlt := Nat.lt_log2_self (n := m)
  have hg : 2 ^ (m.log2 + 2) = 2 * 2 ^ (m.log2 + 1) := by rw [show m.log2 + 2 = (m.log2 + 1) + 1 by omega, Nat.pow_succ]; omega
  have hk2 : 2 ^ (m.log2 + 2) ≤ 2 ^ k := Nat.pow_le_pow_right (by decide) (by omega)
  rw [Nat.div_eq_of_lt (show m < 2 ^ (m.log2 + 2) by omega), Nat.div_eq_of_lt (show m < 2 ^ k by omega)]
/-- Of a word below 2^53: how many of its digits stand behind the point. -/
def behind (r : Nat) : Nat := 1074 - (r / 4503599627370496 - 1)
/-- What stands ahead of the point, and the rest. -/
def tru (r : Nat) : Nat := sig r / 2 ^ behind r
def rem (r : Nat) : Nat := sig r % 2 ^ behind r
def rnd (r : Nat) : Nat := tru r + (if 2 ^ behind r < 2 * rem r ∨ (2 ^ behind r = 2 * rem r ∧ tru r % 2 = 1) then 1 else 0)
section
variable {r : Nat} (hr : r < 4845873199050653696)
include hr
theorem plc_small : plc r = -(behind r : Int) ∧ behind r ≤ 1074 := by
 have h := plcN r
 have h2 := plc_ge r
 have h3 : r / 4503599627370496 < 1076 := by omega
 unfold behind
 omega
omit hr in
theorem tru_lt : tru r < 9007199254740992 := Nat.lt_of_le_of_lt (Nat.div_le_self _ _) (sig_lt r)
omit hr in
theorem rnd_lt : rnd r < 9007199254740992 := by
 unfold rnd
 have h := tru_lt (r := r)
 by_cases hb : behind r = 0
 ·have h1 : rem r = 0 := by unfold rem; rw [hb, Nat.pow_zero]; omega
  rw [h1, hb, if_neg (by omega)]
  exact h
 ·have h1 : tru r ≤ 4503599627370496 := by
   unfold tru
   have h2 : 2 ≤ 2 ^ behind r := by
    have := Nat.pow_le_pow_right (n := 2) (by decide) (show 1 ≤ behind r by omega)
    omega
   have h3 : sig r / 2 ^ behind r ≤ sig r / 2 := Nat.div_le_div_left h2 (by decide)
   have := sig_lt r
   omega
  have : (if 2 ^ behind r < 2 * rem r ∨ (2 ^ behind r = 2 * rem r ∧ tru r % 2 = 1) then 1 else 0) ≤ 1 := by split <;> omega
  omega
theorem fin_small : r < 9218868437227405312 := by omega
theorem V_small : V r = sig r * 2 ^ (-(behind r : Int) + 1074).toNat := by
 unfold V
 rw [(plc_small hr).1]
/-- int(x). -/
theorem int_small : (double.read r).toInt .zero = some ((tru r : Nat) : Int) := by
 rw [read_pos (fin_small hr), (plc_small hr).1]
 unfold Datum.toInt Datum.integral
 have e1 : (-(behind r : Int)).toNat = 0 := by omega
 have e2 : (- -(behind r : Int)).toNat = behind r := by omega
 simp only [e1, e2, Nat.shiftLeft_zero, cut_zero_eq]
 show some (signed false (tru r) 0) = _
 show some (((tru r <<< 0 : Nat) : Int)) = _
 rw [Nat.shiftLeft_zero]
/-- math.RoundToEven(x). -/
theorem even_small : (double.read r).integral .even = .number false (rnd r) 0 := by
 rw [read_pos (fin_small hr), (plc_small hr).1]
 unfold Datum.integral
 have e1 : (-(behind r : Int)).toNat = 0 := by omega
 have e2 : (- -(behind r : Int)).toNat = behind r := by omega
 simp only [e1, e2, Nat.shiftLeft_zero, cut_even_eq]
 rfl
/-- x - float64(int(x)). -/
theorem rest_small : ∃ y, double.sub r (double.nearest false (tru r) 0) = some y ∧ y < 9218868437227405312 ∧ V y = rem r * 2 ^ (-(behind r : Int) + 1074).toNat := by
 obtain ⟨h1, h2⟩ := ofNat_exact (tru_lt)
 obtain ⟨hp, hb⟩ := plc_small hr
 refine sub_exact (fin_small hr) h1 (Nat.lt_of_le_of_lt (Nat.mod_le _ _) (sig_lt r)) (by omega) (by omega) (by rw [hp]; omega) ?_
 rw [V_small hr, h2]
 have e : ((0 : Int) + 1074).toNat = behind r + (-(behind r : Int) + 1074).toNat := by omega
 rw [e, Nat.pow_add, ← Nat.mul_assoc, ← Nat.add_mul]
 congr 1
 unfold tru rem
 rw [Nat.mul_comm (sig r / 2 ^ behind r)]
 exact (Nat.div_add_mod _ _).symm
end
theorem V_half : ∃ E : Nat, E = 1021 ∧ V 4602678819172646912 = 2 ^ 52 * 2 ^ E := by
 refine ⟨4602678819172646912 / 4503599627370496 - 1, by decide, ?_⟩
 rw [V_eq]
 have : sig 4602678819172646912 = 2 ^ 52 := by decide
 rw [this]
/-- The rest against a half. -/
theorem half_cmp {r y : Nat} (hr : r < 4845873199050653696) (hy : V y = rem r * 2 ^ (-(behind r : Int) + 1074).toNat) :
  (4602678819172646912 < y ↔ 2 ^ behind r < 2 * rem r) ∧ (y = 4602678819172646912 ↔ 2 ^ behind r = 2 * rem r) := by
 obtain ⟨hp, hb⟩ := plc_small hr
 obtain ⟨u, hu⟩ : ∃ u, 2 ^ (-(behind r : Int) + 1074).toNat = u := ⟨_, rfl⟩
 have hu0 : 0 < u := by rw [← hu]; exact Nat.two_pow_pos _
 have hH : 2 * V 4602678819172646912 = 2 ^ behind r * u := by
  obtain ⟨E, hE, hv⟩ := V_half
  rw [hv, ← hu, ← Nat.pow_add, ← Nat.pow_add, ← Nat.pow_succ']
  have e : (52 + E).succ = behind r + (-(behind r : Int) + 1074).toNat := by omega
  rw [e]
 rw [hu] at hy
 constructor
 ·constructor
  ·intro h
   have := V_lt h
   have h2 : 2 ^ behind r * u < 2 * rem r * u := by rw [← hH, Nat.mul_assoc, ← hy]; omega
   exact Nat.lt_of_mul_lt_mul_right h2
  ·intro h
   have h2 : 2 ^ behind r * u < 2 * rem r * u := Nat.mul_lt_mul_of_pos_right h hu0
   rw [← hH, Nat.mul_assoc, ← hy] at h2
   rcases Nat.lt_or_ge 4602678819172646912 y with h3 | h3
   ·exact h3
   ·have := V_le_iff.2 h3; omega
 ·constructor
  ·intro h
   subst h
   have h2 : 2 ^ behind r * u = 2 * rem r * u := by rw [← hH, Nat.mul_assoc, ← hy]
   exact Nat.eq_of_mul_eq_mul_right hu0 h2
  ·intro h
   have h2 : 2 ^ behind r * u = 2 * rem r * u := by rw [h]
   rw [← hH, Nat.mul_assoc, ← hy] at h2
   exact V_inj (by omega)
/-- A word below 2^53. -/
theorem small_of_V {r : Nat} (h : V r < 9007199254740992 * 2 ^ ((0 : Int) + 1074).toNat) : r < 4845873199050653696 := by
 rcases Nat.lt_or_ge r 4845873199050653696 with h' | h'
 ·exact h'
 ·have h1 := V_le_iff.2 h'
  have h2 : V 4845873199050653696 = 9007199254740992 * 2 ^ ((0 : Int) + 1074).toNat := by
   rw [V_eq]
   have e1 : sig 4845873199050653696 = 4503599627370496 := by decide
   have e2 : ((0 : Int) + 1074).toNat + 1 = 4845873199050653696 / 4503599627370496 - 1 := by decide
   rw [e1, ← e2, Nat.pow_succ]; omega
  omega
/-- A whole number, made a float, is that number. -/
theorem tru_ofNat {N : Nat} (h : N < 9007199254740992) : double.nearest false N 0 < 4845873199050653696 ∧ tru (double.nearest false N 0) = N := by
 obtain ⟨h1, h2⟩ := ofNat_exact h
 have hs := small_of_V (r := double.nearest false N 0) (by rw [h2]; exact Nat.mul_lt_mul_of_pos_right h (Nat.two_pow_pos _))
 refine ⟨hs, ?_⟩
 obtain ⟨hp, hb⟩ := plc_small hs
 rw [V_small hs] at h2
 have e : ((0 : Int) + 1074).toNat = behind (double.nearest false N 0) + (-(behind (double.nearest false N 0) : Int) + 1074).toNat := by omega
 rw [e, Nat.pow_add, ← Nat.mul_assoc] at h2
 have h3 := Nat.eq_of_mul_eq_mul_right (Nat.two_pow_pos _) h2
 unfold tru
 rw [h3, Nat.mul_div_cancel _ (Nat.two_pow_pos _)]
end Go.Fl
namespace Go.Fl
set_option maxRecDepth 100000
open Go Ieee

theorem quotient_num {digits m n : Nat} {i j : Int} {s t : Bool} (hn : n ≠ 0) : Datum.quotient digits (.number s m i) (.number t n j) =
  some (.number (s ^^ t) (2 * (m <<< (digits + n.log2 - m.log2) / n) + (m <<< (digits + n.log2 - m.log2) % n != 0).toNat) (i - j - ((digits + n.log2 - m.log2 : Nat) : Int) - 1)) := by
 simp only [Datum.quotient, if_neg hn]
end Go.Fl
namespace Go.Fl
set_option maxRecDepth 100000
open Go Ieee

theorem read_inf : double.read 9218868437227405312 = .infinity false := by decide
theorem order_le {a b : Nat} (ha : a ≤ 9218868437227405312) (hb : b < 9218868437227405312) : double.order a b = some (compare a b) := by
 rcases Nat.lt_or_ge a 9218868437227405312 with h | h
 ·exact order_pos h hb
 ·obtain rfl : a = 9218868437227405312 := by omega
  unfold Format.order
  rw [read_inf, read_pos hb, Nat.compare_eq_gt.2 hb]
  rfl
theorem mul_some {a b : Nat} (ha : a < 9218868437227405312) (hb : b < 9218868437227405312) : ∃ x, double.mul a b = some x ∧ x ≤ 9218868437227405312 := by
 refine ⟨double.nearest false (sig a * sig b) (plc a + plc b), ?_, nearest_le _ _⟩
 unfold Format.mul
 rw [read_pos ha, read_pos hb]
 rfl
theorem sig_pos {b : Nat} (h : 0 < b) : sig b ≠ 0 := by unfold sig; split <;> omega
theorem div_some {a b : Nat} (ha : a < 9218868437227405312) (hb : b < 9218868437227405312) (h0 : 0 < b) : ∃ x, double.div a b = some x ∧ x ≤ 9218868437227405312 := by
 unfold Format.div
 rw [read_pos ha, read_pos hb, quotient_num (sig_pos h0)]
 exact ⟨_, rfl, nearest_le _ _⟩
theorem not_nan {x : Nat} (h : x ≤ 9218868437227405312) : isNaN x = false := by rw [isNaN_iff]; simp; omega
theorem top_bit (r : Nat) (h : r < 9223372036854775808) : r ^^^ 2 ^ 63 = 2 ^ 63 + r := by
 apply Nat.eq_of_testBit_eq
 intro i
 rw [Nat.testBit_xor, Nat.testBit_two_pow]
 rcases Nat.lt_trichotomy i 63 with hi | hi | hi
 ·rw [Nat.testBit_two_pow_add_gt hi]
  rw [decide_eq_false (show ¬ 63 = i by omega)]; simp
 ·subst hi
  rw [Nat.testBit_two_pow_add_eq]
  simp
 ·have h1 : 2 ^ 63 + r < 2 ^ i := Nat.lt_of_lt_of_le (show 2 ^ 63 + r < 2 ^ 64 by omega) (Nat.pow_le_pow_right (by decide) (by omega))
  rw [Nat.testBit_lt_two_pow h1, Nat.testBit_lt_two_pow (show r < 2 ^ i by omega), decide_eq_false (show ¬ 63 = i by omega)]
  rfl
theorem neg_low {r : Nat} (h : r < 9223372036854775808) : Op.negFloat .f64 r = 9223372036854775808 + r := top_bit r h
theorem neg_high {r : Nat} (h : r < 9223372036854775808) : Op.negFloat .f64 (9223372036854775808 + r) = r := by
 have := top_bit r h
 show (2 ^ 63 + r) ^^^ 2 ^ 63 = r
 rw [← this, Nat.xor_assoc, Nat.xor_self, Nat.xor_zero]
theorem order_neg {r : Nat} (h : r ≤ 9218868437227405312) : (double.order (9223372036854775808 + r) 9218868437227405311 == some .gt) = false := by
 rcases Nat.lt_or_ge r 9218868437227405312 with h1 | h1
 ·have e1 : (9223372036854775808 + r) % 9223372036854775808 = r := by omega
  have e2 : (9223372036854775808 + r) / 9223372036854775808 = 1 := by omega
  have hr := read_finite (9223372036854775808 + r) (by omega)
  rw [e1, e2] at hr
  unfold Format.order
  rw [hr, read_pos (show 9218868437227405311 < 9218868437227405312 by decide)]
  simp only [Datum.order, beq_eq_false_iff_ne, ne_eq, Option.some.injEq]
  intro hc
  rw [Int.compare_eq_gt] at hc
  have k1 : ∀ m u, signed (1 % 2 == 1) m u ≤ 0 := fun m u => Int.neg_nonpos_of_nonneg (Int.natCast_nonneg (m <<< u))
  have k2 : ∀ m u, 0 ≤ signed false m u := fun m u => Int.natCast_nonneg (m <<< u)
  have := k1 (sig r) (plc r - min (plc r) (plc 9218868437227405311)).toNat
  have := k2 (sig 9218868437227405311) (plc 9218868437227405311 - min (plc r) (plc 9218868437227405311)).toNat
  omega
 ·obtain rfl : r = 9218868437227405312 := by omega
  decide
theorem order_max {r : Nat} (h : r ≤ 9218868437227405312) : (double.order r 9218868437227405311 == some .gt) = (r == 9218868437227405312) := by
 rw [order_le h (by decide)]
 rcases Nat.lt_or_ge r 9218868437227405312 with h1 | h1
 ·rw [show (r == 9218868437227405312) = false from by simp; omega]
  rcases Nat.lt_or_ge r 9218868437227405311 with h2 | h2
  ·rw [Nat.compare_eq_lt.2 h2]; rfl
  ·obtain rfl : r = 9218868437227405311 := by omega
   rw [Nat.compare_eq_eq.2 rfl]; rfl
 ·obtain rfl : r = 9218868437227405312 := by omega
  rw [Nat.compare_eq_gt.2 (by decide)]; rfl
/-- 100, as a float. -/
def C : Nat := 4636737291354636288
def hund (r : Nat) : Nat := (double.mul r 4636737291354636288).getD 0
theorem hund_eq {r : Nat} (h : r < 9218868437227405312) : double.mul r 4636737291354636288 = some (hund r) ∧ hund r ≤ 9218868437227405312 := by
 obtain ⟨x, hx, hl⟩ := mul_some h (show 4636737291354636288 < 9218868437227405312 by decide)
 unfold hund
 rw [hx]
 exact ⟨rfl, hl⟩
/-- At least three digits. -/
def pad (l : List UInt8) : List UInt8 := List.replicate (3 - l.length) 48 ++ l
/-- A point before the last two. -/
def dots (l : List UInt8) : List UInt8 := l.take (l.length - 2) ++ 46 :: l.drop (l.length - 2)
def sgn (b : Nat) : List UInt8 := if 9223372036854775808 ≤ b then [45] else []
def prt (b : Nat) : List UInt8 :=
 if isNaN b then [110, 97, 110] else
 if b % 9223372036854775808 = 9218868437227405312 then sgn b ++ [105, 110, 102] else
 if hund (b % 9223372036854775808) < 4845873199050653696 then sgn b ++ dots (pad (Lib.decDigits (rnd (hund (b % 9223372036854775808))))) else [98, 105, 103]
theorem pad_done {l : List UInt8} (h : 3 ≤ l.length) : pad l = l := by unfold pad; rw [show 3 - l.length = 0 by omega]; rfl
theorem pad_step {l : List UInt8} (h : l.length < 3) : pad (48 :: l) = pad l := by
 unfold pad
 rw [List.length_cons, show 3 - l.length = (3 - (l.length + 1)) + 1 by omega, List.replicate_succ']
 simp
/-- The digits of a number that are still to come, ahead of those that stand. -/
def more (n : Nat) (t : List UInt8) : List UInt8 := if 0 < n then Lib.decDigits n ++ t else t
theorem more_step {n : Nat} (h : 0 < n) (t : List UInt8) : more (n / 10) (UInt8.ofNat (48 + n % 10) :: t) = more n t := by
 unfold more
 rw [if_pos h]
 by_cases h2 : n < 10
 ·rw [if_neg (by omega), Lib.decDigits_one h2, Nat.mod_eq_of_lt h2]; rfl
 ·rw [if_pos (by omega)]
  conv => rhs; rw [Lib.decDigits, dif_neg h2]
  simp
theorem pad_more {n : Nat} : pad (more n []) = pad (Lib.decDigits n) := by
 unfold more
 by_cases h : 0 < n
 ·rw [if_pos h, List.append_nil]
 ·obtain rfl : n = 0 := by omega
  rw [if_neg h, Lib.decDigits_one (by decide)]
  rfl
end Go.Fl
namespace Go.Fl
set_option maxRecDepth 100000
open Go Ieee

def tenc : List UInt8 := [48, 49, 50, 51, 52, 53, 54, 55, 56, 57]
set_option maxRecDepth 100000 in
theorem tenc_iff (c : UInt8) : tenc.contains c = decide (48 ≤ c.toNat ∧ c.toNat ≤ 57) := by
 have : ∀ n, n < 256 → tenc.contains (UInt8.ofNat n) = decide (48 ≤ n ∧ n ≤ 57) := by decide
 have h := this c.toNat c.toNat_lt
 simpa using h
theorem decFrom_isSome : ∀ (l : List UInt8) (acc : Nat), (Lib.decFrom acc l).isSome = l.all (tenc.contains ·)
 | [], acc => rfl
 | c :: r, acc => by
  rw [List.all_cons, tenc_iff]
  by_cases hd : 48 ≤ c.toNat ∧ c.toNat ≤ 57
  ·rw [decide_eq_true hd, Bool.true_and, ← decFrom_isSome r (acc * 10 + (c.toNat - 48))]
   simp only [Lib.decFrom, Lib.digitVal, if_pos hd]
  ·rw [decide_eq_false hd, Bool.false_and]
   simp only [Lib.decFrom, Lib.digitVal, if_neg hd]
   rfl
theorem dw_nil {p : UInt8 → Bool} : ∀ {l : List UInt8}, l.dropWhile p = [] ↔ ∀ x, x ∈ l → p x = true
 | [] => by simp
 | c :: r => by
  rw [List.dropWhile_cons]
  by_cases h : p c = true
  ·rw [if_pos h, dw_nil]
   simp [h]
  ·rw [if_neg h]
   simp [h]
theorem trim_nil (l : List UInt8) : (Lib.trimS l tenc = []) ↔ l.all (tenc.contains ·) = true := by
 unfold Lib.trimS Lib.trimLeftS Lib.trimRightS
 constructor
 ·intro h
  rw [dw_nil] at h
  by_cases hx : (l.reverse.dropWhile (tenc.contains ·)) = []
  ·rw [dw_nil] at hx
   rw [List.all_eq_true]
   exact fun x hx' => hx x (List.mem_reverse.2 hx')
  ·exfalso
   have h1 := List.head_dropWhile_not (tenc.contains ·) hx
   have h2 := h _ (List.mem_reverse.2 (List.head_mem hx))
   rw [h2] at h1
   cases h1
 ·intro h
  rw [List.all_eq_true] at h
  have : l.reverse.dropWhile (tenc.contains ·) = [] := by
   rw [dw_nil]
   exact fun x hx => h x (List.mem_reverse.1 hx)
  rw [this]; rfl
/-- The number of digits; none: they are none, or too many. -/
def dig (most : Nat) (l : List UInt8) : Option Nat := if l = [] ∨ most < l.length then none else Lib.decFrom 0 l
theorem dig_some {most : Nat} {l : List UInt8} : (dig most l).isSome = (decide (l ≠ []) && decide (l.length ≤ most) && decide (Lib.trimS l tenc = [])) := by
 unfold dig
 by_cases h1 : l = []
 ·subst h1; simp
 ·by_cases h2 : most < l.length
  ·rw [if_pos (.inr h2)]
   simp
   omega
  ·rw [if_neg (by simp [h1]; omega), decFrom_isSome]
   rw [decide_eq_true h1, decide_eq_true (by omega : l.length ≤ most), Bool.true_and, Bool.true_and]
   rw [Bool.eq_iff_iff, decide_eq_true_eq, trim_nil]
theorem decFrom_append : ∀ (a b : List UInt8) (acc : Nat), Lib.decFrom acc (a ++ b) = (Lib.decFrom acc a).bind fun n => Lib.decFrom n b
 | [], b, acc => rfl
 | c :: r, b, acc => by
  rw [List.cons_append]
  by_cases hd : 48 ≤ c.toNat ∧ c.toNat ≤ 57
  ·simp only [Lib.decFrom, Lib.digitVal, if_pos hd]
   exact decFrom_append r b _
  ·simp only [Lib.decFrom, Lib.digitVal, if_neg hd]
   rfl
theorem decFrom_shift : ∀ (l : List UInt8) (acc n : Nat), Lib.decFrom 0 l = some n → Lib.decFrom acc l = some (acc * 10 ^ l.length + n)
 | l, acc, n => by
  have key : ∀ (l : List UInt8) (a b : Nat), Lib.decFrom (a + b) l = (Lib.decFrom b l).map (a * 10 ^ l.length + ·) := by
   intro l
   induction l with
   | nil => intro a b; simp [Lib.decFrom]
   | cons c r ih =>
    intro a b
    by_cases hd : 48 ≤ c.toNat ∧ c.toNat ≤ 57
    ·simp only [Lib.decFrom, Lib.digitVal, if_pos hd]
     rw [show (a + b) * 10 + (c.toNat - 48) = a * 10 + (b * 10 + (c.toNat - 48)) by rw [Nat.add_mul]; omega, ih, List.length_cons, Nat.pow_succ]
     rw [Nat.mul_assoc, Nat.mul_comm 10]
    ·simp only [Lib.decFrom, Lib.digitVal, if_neg hd]
     rfl
  intro h
  have := key l acc 0
  rw [Nat.add_zero, h] at this
  simpa using this
theorem dig_lt {most n : Nat} {l : List UInt8} (h : dig most l = some n) : n < 10 ^ l.length ∧ l.length ≤ most ∧ l ≠ [] := by
 unfold dig at h
 split at h
 ·cases h
 ·rename_i hl
  have := Lib.decFrom_lt l 0 n h
  refine ⟨by omega, by omega, fun h => hl (.inl h)⟩
/-- A number of so many parts. -/
def quo (a b : Nat) : Nat := (double.div (double.nearest false a 0) (double.nearest false b 0)).getD 0
/-- The price of a head and a tail, if there is a point. -/
def priceL (h t : List UInt8) (pt : Bool) : Option Nat :=
 (dig 9 h).bind fun n =>
  if 1 < h.length ∧ h.head? = some 48 then none else
  if pt then (dig 6 t).map fun k => quo (n * 10 ^ t.length + k) (10 ^ t.length) else some (quo n 1)
end Go.Fl
namespace Go.Fl
set_option maxRecDepth 100000
open Go Ieee

def d8 (n : Nat) : UInt8 := UInt8.ofNat (48 + n)
theorem d8_nat {n : Nat} (h : n < 10) : (d8 n).toNat = 48 + n := by unfold d8; rw [UInt8.toNat_ofNat']; omega
theorem from_one (acc : Nat) {n : Nat} (h : n < 10) : Lib.decFrom acc [d8 n] = some (acc * 10 + n) := by
 have := d8_nat h
 simp only [Lib.decFrom, Lib.digitVal, this]
 rw [if_pos (by omega)]
 simp
end Go.Fl
