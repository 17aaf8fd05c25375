/- Plain laws on float64 words: what an operation gives up to which NaN it is; multiplication by one, subtraction of zero and of itself; sums and products of numbers not below nought. No program here; no condition. -/
import Derived.Laws.FloatArith
import Derived.Deep.Draws
import Derived.Laws.NewFold
namespace Go.Fl
open Go Ieee

/-- A word's meaning up to which NaN it is: none for a NaN, else the word. -/
def isNaN (b : Nat) : Bool := (FloatKind.f64.format.read b).isNaN
def canon (b : Nat) : Option Nat := if isNaN b then none else some b

/-- The operation on words up to NaNs. -/
def opc (op : BinOp) (x y : Option Nat) : Option Nat :=
  match x, y with
  | some a, some b => (floatBits op .f64 a b).bind canon
  | _, _ => none

/-- What the operation leaves: the value, how many draws. -/
def res (op : BinOp) (w : World) (x y : Nat) : Nat :=
  match floatBits op .f64 x y with
  | some r => r
  | none => (Question.nanBits .f64 x y).cut (w.tape w.drawn (.nanBits .f64 x y))
def cnt (op : BinOp) (x y : Nat) : Nat := match floatBits op .f64 x y with | some _ => 0 | none => 1

theorem isNaN_iff (b : Nat) : isNaN b = decide (9218868437227405312 < b % 9223372036854775808) := by
  show (Ieee.Format.read Ieee.double b).isNaN = _
  unfold Ieee.Format.read
  have e1 : Ieee.double.signWeight = 9223372036854775808 := by decide
  have e2 : Ieee.double.binade = 4503599627370496 := by decide
  have e3 : Ieee.double.infRung = 9218868437227405312 := by decide
  simp only [e1, e2, e3]
  generalize b % 9223372036854775808 = r
  by_cases h1 : r < 4503599627370496
  · rw [if_pos h1]; simp [Ieee.Datum.isNaN]; omega
  · rw [if_neg h1]
    by_cases h2 : r < 9218868437227405312
    · rw [if_pos h2]; simp [Ieee.Datum.isNaN]; omega
    · rw [if_neg h2]
      by_cases h3 : r = 9218868437227405312
      · rw [if_pos h3]; simp [Ieee.Datum.isNaN]; omega
      · rw [if_neg h3]; simp [Ieee.Datum.isNaN]; omega
theorem isNaN_cut (x y t : Nat) : isNaN ((Question.nanBits .f64 x y).cut t) = true := by
  rw [isNaN_iff]
  have e : (Question.nanBits .f64 x y).cut t = (t % 2) * 9223372036854775808 + 9218868437227405312 + 1 + (t / 2) % 4503599627370495 := rfl
  rw [e]
  have h2 := Nat.mod_lt (t / 2) (show 0 < 4503599627370495 by decide)
  have h1 := Nat.mod_lt t (show 0 < 2 by decide)
  simp only [decide_eq_true_eq]
  generalize (t / 2) % 4503599627370495 = u at *
  generalize t % 2 = a at *
  rcases (show a = 0 ∨ a = 1 by omega) with rfl | rfl <;> omega

theorem read_cases (b : Nat) : (FloatKind.f64.format.read b).isNaN = true ↔ ∃ s t, FloatKind.f64.format.read b = .nan s t := by
  cases FloatKind.f64.format.read b <;> simp [Ieee.Datum.isNaN]

theorem floatBits_nan_left {op : BinOp} {x y : Nat} (h : isNaN x = true) : floatBits op .f64 x y = none := by
  obtain ⟨s, t, e⟩ := (read_cases x).1 h
  cases op <;> simp [floatBits, Ieee.Format.add, Ieee.Format.sub, Ieee.Format.mul, Ieee.Format.div, e, Ieee.Datum.sum, Ieee.Datum.product, Ieee.Datum.quotient]
theorem floatBits_nan_right {op : BinOp} {x y : Nat} (h : isNaN y = true) : floatBits op .f64 x y = none := by
  obtain ⟨s, t, e⟩ := (read_cases y).1 h
  cases op <;> simp only [floatBits, Ieee.Format.add, Ieee.Format.sub, Ieee.Format.mul, Ieee.Format.div, e, Ieee.Datum.opposite]
  all_goals cases FloatKind.f64.format.read x <;> simp [Ieee.Datum.sum, Ieee.Datum.product, Ieee.Datum.quotient]

theorem canon_res (op : BinOp) (w : World) (x y : Nat) : canon (res op w x y) = opc op (canon x) (canon y) := by
  unfold res
  by_cases hx : isNaN x = true
  · rw [floatBits_nan_left hx]
    simp [canon, isNaN_cut, hx, opc]
  · by_cases hy : isNaN y = true
    · rw [floatBits_nan_right hy]
      simp [canon, isNaN_cut, hy, opc]
    · have ex : canon x = some x := by simp [canon, hx]
      have ey : canon y = some y := by simp [canon, hy]
      rw [ex, ey]
      simp only [opc]
      cases h : floatBits op .f64 x y with
      | none => simp [canon, isNaN_cut]
      | some r => simp

theorem run_fl {P : Program} (w : World) (op : BinOp) (hop : op = .add ∨ op = .sub ∨ op = .mul ∨ op = .quo) (t : TypeId) (x y : Nat) :
    (binOp op t (.float .f64 x) (.float .f64 y)).run P w = .ok (.float .f64 (res op w x y)) (w.drewN (cnt op x y)) := by
  unfold res cnt
  cases h : floatBits op .f64 x y with
  | some r => simp only; rw [run_float_arith w op t .f64 x y r h]; rfl
  | none =>
    simp only
    rcases hop with rfl | rfl | rfl | rfl
    all_goals
      simp only [floatBits] at h
      simp [binOp, Op.floatArith, h, Question.forced, World.drew_is_drewN]

/-- The bits that 'bits' hands back. -/
def word (c : Option Nat) : Nat := c.getD 0x7ff8000000000001

theorem order_self (b : Nat) : (FloatKind.f64.format.order b b == some .eq) = !isNaN b := by
  unfold isNaN Ieee.Format.order
  cases FloatKind.f64.format.read b <;> simp [Ieee.Datum.order, Ieee.Datum.isNaN]
theorem order_self' (b : Nat) : (FloatKind.f64.format.order b b != some .eq) = isNaN b := by
  rw [bne, order_self]; simp

theorem word_canon (b : Nat) : (if isNaN b then 0x7ff8000000000001 else b) = word (canon b) := by
  unfold word canon; cases isNaN b <;> rfl

theorem d_sw : double.signWeight = 9223372036854775808 := by decide
theorem d_bin : double.binade = 4503599627370496 := by decide
theorem d_inf : double.infRung = 9218868437227405312 := by decide
theorem d_least : double.leastPlace = -1074 := by decide
theorem d_frac : double.fractionBits = 52 := rfl

/-- A rung's significand and place. -/
def sig (r : Nat) : Nat := if r < 4503599627370496 then r else 4503599627370496 + r % 4503599627370496
def plc (r : Nat) : Int := if r < 4503599627370496 then -1074 else -1074 + (r / 4503599627370496 - 1 : Nat)

theorem read_finite (b : Nat) (h : b % 9223372036854775808 < 9218868437227405312) :
    double.read b = .number (b / 9223372036854775808 % 2 == 1) (sig (b % 9223372036854775808)) (plc (b % 9223372036854775808)) := by
  unfold Format.read sig plc
  simp only [d_sw, d_bin, d_inf, d_least]
  by_cases h1 : b % 9223372036854775808 < 4503599627370496
  · simp [h1]
  · rw [if_neg h1, if_pos h, if_neg h1, if_neg h1]

theorem plc_ge (r : Nat) : -1074 ≤ plc r := by unfold plc; split <;> omega

theorem log2_shift (m k : Nat) (hm : m ≠ 0) : (m <<< k).log2 = m.log2 + k := by
  rw [Nat.shiftLeft_eq]
  have h1 : m * 2 ^ k ≠ 0 := Nat.mul_ne_zero hm (Nat.pos_iff_ne_zero.1 (Nat.two_pow_pos k))
  rw [Nat.log2_eq_iff h1]
  have h2 := Nat.log2_self_le hm
  have h3 := Nat.lt_log2_self (n := m)
  constructor
  · rw [Nat.pow_add]; exact Nat.mul_le_mul_right _ h2
  · rw [show m.log2 + k + 1 = (m.log2 + 1) + k by omega, Nat.pow_add]
    exact Nat.mul_lt_mul_of_pos_right h3 (Nat.two_pow_pos k)

theorem cut_exact (neg : Bool) (m k : Nat) (hm : m ≠ 0) : Toward.even.cut neg (m <<< k) k = m := by
  unfold Toward.cut
  simp only [log2_shift m k hm]
  rw [Nat.min_eq_left (by omega)]
  have e1 : (m <<< k) / (1 <<< k) = m := by
    rw [Nat.shiftLeft_eq, Nat.shiftLeft_eq, Nat.one_mul]; exact Nat.mul_div_cancel _ (Nat.two_pow_pos k)
  have e2 : (m <<< k) % (1 <<< k) = 0 := by
    rw [Nat.shiftLeft_eq, Nat.shiftLeft_eq, Nat.one_mul]; exact Nat.mul_mod_left _ _
  rw [e1, e2]
  have : (1 <<< k) ≠ 0 := by rw [Nat.shiftLeft_eq, Nat.one_mul]; exact Nat.pos_iff_ne_zero.1 (Nat.two_pow_pos k)
  simp [this]

theorem log2_sub (m : Nat) (hm : m ≠ 0) (h : m < 4503599627370496) : m.log2 < 52 := (Nat.log2_lt hm).2 (by simpa using h)
theorem log2_nor (m : Nat) (h1 : 4503599627370496 ≤ m) (h2 : m < 9007199254740992) : m.log2 = 52 := by
  rw [Nat.log2_eq_iff (by omega)]; omega

theorem nearest_shift (neg : Bool) (r k : Nat) (hr : r < 9218868437227405312) :
    double.nearest neg (sig r <<< k) (plc r - k) = double.word neg r := by
  unfold Format.nearest
  by_cases hm : sig r = 0
  · rw [hm, Nat.zero_shiftLeft, if_pos rfl]
    have : r = 0 := by unfold sig at hm; split at hm <;> omega
    rw [this]
  · have hs : sig r <<< k ≠ 0 := by rw [Nat.shiftLeft_eq]; exact Nat.mul_ne_zero hm (Nat.pos_iff_ne_zero.1 (Nat.two_pow_pos k))
    rw [if_neg hs]
    simp only [log2_shift _ k hm, d_frac, d_least, d_bin, d_inf]
    have hlast : max (plc r - k + ((sig r).log2 + k : Nat) - (52 : Nat)) (-1074) = plc r := by
      unfold plc
      by_cases h1 : r < 4503599627370496
      · rw [if_pos h1]
        have e : sig r = r := by unfold sig; rw [if_pos h1]
        have := log2_sub r (by rw [← e]; exact hm) h1
        rw [e]; omega
      · rw [if_neg h1]
        have e : (sig r).log2 = 52 := by
          unfold sig; rw [if_neg h1]; exact log2_nor _ (by omega) (by omega)
        rw [e]; omega
    rw [hlast]
    have e1 : (plc r - k - plc r).toNat = 0 := by omega
    have e2 : (plc r - (plc r - (k : Int))).toNat = k := by omega
    rw [e1, e2, Nat.shiftLeft_zero, cut_exact neg _ k hm]
    congr 1
    unfold plc sig
    by_cases h1 : r < 4503599627370496
    · rw [if_pos h1, if_pos h1]; omega
    · rw [if_neg h1, if_neg h1]; omega

theorem word_self (b : Nat) (hb : b < 18446744073709551616) : double.word (b / 9223372036854775808 % 2 == 1) (b % 9223372036854775808) = b := by
  unfold Format.word
  rw [d_sw]
  by_cases h : b / 9223372036854775808 % 2 = 1
  · simp [h]; omega
  · simp [h]; omega

theorem mul_one (b : Nat) (hb : b < 18446744073709551616) (h : b % 9223372036854775808 < 9218868437227405312) : double.mul b 4607182418800017408 = some b := by
  unfold Format.mul
  have e1 : double.read 4607182418800017408 = .number false 4503599627370496 (-52) := by decide
  rw [e1, read_finite b h]
  simp only [Datum.product, Bool.xor_false, Option.map_some, Format.write]
  have e2 : sig (b % 9223372036854775808) * 4503599627370496 = sig (b % 9223372036854775808) <<< 52 := by rw [Nat.shiftLeft_eq]
  have e3 : plc (b % 9223372036854775808) + -52 = plc (b % 9223372036854775808) - (52 : Nat) := by omega
  rw [e2, e3, nearest_shift _ _ _ h, word_self b hb]

theorem mul_zero (b : Nat) (h : b % 9223372036854775808 < 9218868437227405312) : double.mul b 0 = some (double.word (b / 9223372036854775808 % 2 == 1) 0) := by
  unfold Format.mul
  have e1 : double.read 0 = .number false 0 (-1074) := by decide
  rw [e1, read_finite b h]
  simp [Datum.product, Format.write, Format.nearest]

theorem sub_self (b : Nat) (h : b % 9223372036854775808 < 9218868437227405312) : double.sub b b = some 0 := by
  unfold Format.sub
  rw [read_finite b h]
  generalize (b / 9223372036854775808 % 2 == 1) = s
  have e : ∀ m u, signed s m u + signed (!s) m u = 0 := by intro m u; cases s <;> simp [signed] <;> omega
  simp only [Datum.opposite, Datum.sum, Option.map_some, e, if_pos, Int.natAbs_zero, Bool.and_not_self]
  rfl

theorem sub_zero (b : Nat) (hb : b < 18446744073709551616) (h : b % 9223372036854775808 < 9218868437227405312) :
    double.sub b (double.word (b / 9223372036854775808 % 2 == 1) 0) = some (if b = 9223372036854775808 then 0 else b) := by
  unfold Format.sub
  have er : ∀ s : Bool, double.read (double.word s 0) = .number s 0 (-1074) := by decide
  rw [er, read_finite b h]
  have hp := plc_ge (b % 9223372036854775808)
  have hw := word_self b hb
  generalize hs : (b / 9223372036854775808 % 2 == 1) = s at *
  generalize hr : b % 9223372036854775808 = r at *
  simp only [Datum.opposite, Datum.sum, Option.map_some]
  have hmin : min (plc r) (-1074) = -1074 := by omega
  rw [hmin]
  obtain ⟨k, hk⟩ : ∃ k : Nat, plc r = -1074 + k := ⟨(plc r + 1074).toNat, by omega⟩
  have ek : (plc r - -1074).toNat = k := by omega
  have ez : ∀ u, signed (!s) 0 u = 0 := by intro u; cases s <;> simp [signed]
  rw [ek, ez, Int.add_zero]
  by_cases h0 : r = 0
  · have hsig : sig r = 0 := by rw [h0]; rfl
    have e0 : signed s (sig r) k = 0 := by rw [hsig]; cases s <;> simp [signed]
    rw [e0]
    have : b = 0 ∨ b = 9223372036854775808 := by omega
    rcases this with rfl | rfl <;> simp [Format.write, Format.nearest, Format.word]
  · have hsig : sig r ≠ 0 := by unfold sig; split <;> omega
    have hpos : sig r <<< k ≠ 0 := by
      rw [Nat.shiftLeft_eq]; exact Nat.mul_ne_zero hsig (Nat.pos_iff_ne_zero.1 (Nat.two_pow_pos k))
    have hsg : signed s (sig r) k = if s then -((sig r <<< k : Nat) : Int) else ((sig r <<< k : Nat) : Int) := rfl
    have hfacts : ∀ n : Nat, n ≠ 0 → ∀ z : Int, z = (if s then -(n : Int) else (n : Int)) → z ≠ 0 ∧ z.natAbs = n ∧ decide (z < 0) = s := by
      intro n hn z hz
      cases s
      · simp at hz; subst hz; refine ⟨by omega, by omega, by simp⟩
      · simp at hz; subst hz; refine ⟨by omega, by omega, by simp; omega⟩
    obtain ⟨hsn, hab, hng⟩ := hfacts _ hpos _ hsg
    rw [if_neg hsn, hab, hng]
    have hb0 : b ≠ 9223372036854775808 := by omega
    rw [if_neg hb0]
    show some (double.nearest s (sig r <<< k) (-1074)) = _
    have e5 : (-1074 : Int) = plc r - k := by omega
    rw [e5, nearest_shift s r k (by omega), hw]


def canB (b : Nat) : Bool := decide (b ≤ 9218868437227405312) || b == 9223372036854775808

/-- What a word that is no NaN and not below nought reads as. -/
inductive NonNeg : Datum → Prop where
  | num (m : Nat) (p : Int) : NonNeg (.number false m p)
  | inf : NonNeg (.infinity false)
  | mz (p : Int) : NonNeg (.number true 0 p)

theorem nonNeg_read {b : Nat} (h : canB b = true) : NonNeg (double.read b) := by
  unfold canB at h
  simp only [Bool.or_eq_true, decide_eq_true_eq, beq_iff_eq] at h
  rcases h with h | rfl
  · unfold Format.read
    simp only [d_sw, d_bin, d_inf, d_least]
    have e1 : b / 9223372036854775808 % 2 = 0 := by omega
    have e2 : b % 9223372036854775808 = b := by omega
    simp only [e1, e2]
    by_cases h1 : b < 4503599627370496
    · rw [if_pos h1]; exact .num _ _
    · rw [if_neg h1]
      by_cases h2 : b < 9218868437227405312
      · rw [if_pos h2]; exact .num _ _
      · rw [if_neg h2, if_pos (by omega)]; exact .inf
  · have : double.read 9223372036854775808 = .number true 0 (-1074) := by decide
    rw [this]; exact .mz _

theorem nonNeg_read' {b : Nat} (h : b ≤ 9218868437227405312) : (∃ m p, double.read b = .number false m p) ∨ double.read b = .infinity false := by
  unfold Format.read
  simp only [d_sw, d_bin, d_inf, d_least]
  have e1 : b / 9223372036854775808 % 2 = 0 := by omega
  have e2 : b % 9223372036854775808 = b := by omega
  simp only [e1, e2]
  by_cases h1 : b < 4503599627370496
  · rw [if_pos h1]; exact .inl ⟨_, _, rfl⟩
  · rw [if_neg h1]
    by_cases h2 : b < 9218868437227405312
    · rw [if_pos h2]; exact .inl ⟨_, _, rfl⟩
    · rw [if_neg h2, if_pos (by omega)]; exact .inr rfl

theorem nearest_le (m : Nat) (p : Int) : double.nearest false m p ≤ 9218868437227405312 := by
  unfold Format.nearest
  split
  · simp [Format.word]
  · simp only [Format.word, d_inf, d_bin, Bool.false_eq_true, if_false]
    exact Nat.min_le_right _ _

theorem add_nonNeg {x y z : Nat} (hx : x ≤ 9218868437227405312) (hy : canB y = true) (h : double.add x y = some z) : z ≤ 9218868437227405312 := by
  unfold Format.add at h
  have hs : ∀ m u, signed false m u = ((m <<< u : Nat) : Int) := fun _ _ => rfl
  rcases nonNeg_read' hx with ⟨m, p, e⟩ | e
  · rw [e] at h
    cases hd : double.read y with
    | nan s t => have := nonNeg_read hy; rw [hd] at this; cases this
    | infinity s =>
      have := nonNeg_read hy; rw [hd] at this; cases this
      rw [hd] at h
      simp [Datum.sum, Format.write, Format.word, d_inf] at h
      omega
    | number s n q =>
      have := nonNeg_read hy
      rw [hd] at h this
      simp only [Datum.sum, Option.map_some, Option.some.injEq] at h
      generalize min p q = base at h
      have key : ∀ tot : Int, 0 ≤ tot → double.write (.number (if tot = 0 then (false && s) else decide (tot < 0)) tot.natAbs base) ≤ 9218868437227405312 := by
        intro tot ht
        have : (if tot = 0 then (false && s) else decide (tot < 0)) = false := by
          split
          · rfl
          · simp; omega
        rw [this]
        exact nearest_le _ _
      rw [← h]
      apply key
      rw [hs]
      have hp : ∀ a : Nat, (0 : Int) ≤ (a : Int) := fun a => Int.natCast_nonneg a
      cases this with
      | num => rw [hs]; exact Int.add_nonneg (hp _) (hp _)
      | mz =>
        have : signed true 0 (q - base).toNat = 0 := by simp [signed]
        rw [this, Int.add_zero]; exact hp _
  · rw [e] at h
    cases hd : double.read y with
    | nan s t => have := nonNeg_read hy; rw [hd] at this; cases this
    | infinity s =>
      have := nonNeg_read hy; rw [hd] at this; cases this
      rw [hd] at h
      simp [Datum.sum, Format.write, Format.word, d_inf] at h
      omega
    | number s n q =>
      rw [hd] at h
      simp [Datum.sum, Format.write, Format.word, d_inf] at h
      omega

theorem mul_nonNeg {x y z : Nat} (hx : x ≤ 9218868437227405312) (hy : canB y = true) (h : double.mul x y = some z) (hf : x < 9218868437227405312) : canB z = true := by
  unfold Format.mul at h
  have hle : ∀ z, z ≤ 9218868437227405312 → canB z = true := by intro z hz; unfold canB; simp [hz]
  rcases nonNeg_read' hx with ⟨m, p, e⟩ | e
  · rw [e] at h
    cases hd : double.read y with
    | nan s t => have := nonNeg_read hy; rw [hd] at this; cases this
    | infinity s =>
      have := nonNeg_read hy; rw [hd] at this h; cases this
      simp only [Datum.product, Bool.xor_false] at h
      split at h
      · cases h
      · simp only [Option.map_some, Format.write, Format.word, d_inf, Bool.false_eq_true, if_false, Option.some.injEq] at h
        exact hle _ (by omega)
    | number s n q =>
      have := nonNeg_read hy
      rw [hd] at h this
      simp only [Datum.product, Option.map_some, Option.some.injEq, Bool.false_xor, Format.write] at h
      cases this with
      | num => rw [← h]; exact hle _ (nearest_le _ _)
      | mz => rw [← h]; simp only [Nat.mul_zero, Format.nearest, if_true]; decide
  · exfalso
    unfold Format.read at e
    simp only [d_sw, d_bin, d_inf, d_least] at e
    have e2 : x % 9223372036854775808 = x := by omega
    rw [e2] at e
    split at e
    · cases e
    · cases e

theorem cut_le (n k d : Nat) (hd : d = min k (n.log2 + 2)) : Toward.even.cut false n k ≤ n / 2 ^ d + 1 := by
  unfold Toward.cut
  simp only [← hd, Nat.one_shiftLeft]
  have h1 : ∀ b : Bool, b.toNat ≤ 1 := by intro b; cases b <;> simp
  exact Nat.add_le_add_left (h1 _) _

theorem floatOfInt_nonNeg (n : Int) (h0 : 0 ≤ n) (h : n < 9223372036854775808) : floatOfInt .f64 n < 9218868437227405312 := by
  obtain ⟨m, rfl⟩ := Int.eq_ofNat_of_zero_le h0
  have e : decide (((m : Nat) : Int) < 0) = false := by simp
  show double.nearest (decide (((m : Nat) : Int) < 0)) (((m : Nat) : Int)).natAbs 0 < _
  rw [e, Int.natAbs_natCast]
  unfold Format.nearest
  split
  · simp [Format.word]
  · rename_i hm
    have hlog : m.log2 < 63 := (Nat.log2_lt hm).2 (by omega)
    have hlt := Nat.lt_log2_self (n := m)
    simp only [Format.word, d_inf, d_bin, d_least, Bool.false_eq_true, if_false]
    refine Nat.lt_of_le_of_lt (Nat.min_le_left _ _) ?_
    have e0 : max ((0 : Int) + (m.log2 : Int) - (double.fractionBits : Int)) (-1074) = (m.log2 : Int) - 52 := by
      have : (double.fractionBits : Int) = 52 := rfl
      omega
    rw [e0]
    have hb : ((m.log2 : Int) - 52 - -1074).toNat ≤ 1084 := by omega
    generalize ((m.log2 : Int) - 52 - -1074).toNat = a at *
    generalize hL : m.log2 = L at *
    have hk : Toward.even.cut false (m <<< ((0 : Int) - ((L : Int) - 52)).toNat) (((L : Int) - 52) - 0).toNat ≤ 9007199254740992 := by
      by_cases hl : L ≤ 52
      · have e1 : ((0 : Int) - ((L : Int) - 52)).toNat = 52 - L := by omega
        have e2 : (((L : Int) - 52) - 0).toNat = 0 := by omega
        rw [e1, e2]
        refine Nat.le_trans (cut_le _ _ 0 (by simp)) ?_
        rw [Nat.pow_zero, Nat.div_one, Nat.shiftLeft_eq]
        have : m * 2 ^ (52 - L) < 2 ^ (L + 1) * 2 ^ (52 - L) := Nat.mul_lt_mul_of_pos_right hlt (Nat.two_pow_pos _)
        rw [← Nat.pow_add, show L + 1 + (52 - L) = 53 by omega] at this
        omega
      · have e1 : ((0 : Int) - ((L : Int) - 52)).toNat = 0 := by omega
        have e2 : (((L : Int) - 52) - 0).toNat = L - 52 := by omega
        rw [e1, e2, Nat.shiftLeft_zero]
        refine Nat.le_trans (cut_le _ _ (L - 52) (by omega)) ?_
        have : m / 2 ^ (L - 52) < 2 ^ 53 := by
          rw [Nat.div_lt_iff_lt_mul (Nat.two_pow_pos _), ← Nat.pow_add, show 53 + (L - 52) = L + 1 by omega]
          exact hlt
        omega
    omega

theorem can_eq (b : Nat) (hb : b < 18446744073709551616) :
    (FloatKind.f64.format.order b 0 == some .gt || FloatKind.f64.format.order b 0 == some .eq) = canB b := by
  show (Datum.order (double.read b) (double.read 0) == some .gt || Datum.order (double.read b) (double.read 0) == some .eq) = canB b
  have e1 : double.read 0 = .number false 0 (-1074) := by decide
  rw [e1]
  unfold Format.read canB
  simp only [d_sw, d_bin, d_inf, d_least]
  have hz : ∀ u, signed false 0 u = 0 := by intro u; simp [signed]
  generalize hs : (b / 9223372036854775808 % 2 == 1) = s
  have hpos : ∀ m : Nat, m ≠ 0 → ∀ u : Nat, m <<< u ≠ 0 := fun m hm u => by
    rw [Nat.shiftLeft_eq]; exact Nat.mul_ne_zero hm (Nat.pos_iff_ne_zero.1 (Nat.two_pow_pos u))
  have key : ∀ (m : Nat) (p : Int), (Datum.order (.number s m p) (.number false 0 (-1074)) == some .gt || Datum.order (.number s m p) (.number false 0 (-1074)) == some .eq) = (!s || m == 0) := by
    intro m p
    simp only [Datum.order, hz]
    generalize (p - min p (-1074)).toNat = u
    by_cases hm : m = 0
    · subst hm; cases s <;> simp [signed]
    · have := hpos m hm u
      cases s
      · have h1 : compare (signed false m u) 0 = .gt := by
          rw [Int.compare_eq_gt]; simp only [signed, Bool.false_eq_true, if_false]; exact Int.natCast_pos.2 (Nat.pos_of_ne_zero this)
        simp [h1]
      · have h1 : compare (signed true m u) 0 = .lt := by
          rw [Int.compare_eq_lt]; simp only [signed, if_true]; exact Int.neg_neg_of_pos (Int.natCast_pos.2 (Nat.pos_of_ne_zero this))
        simp [h1, hm]
  by_cases h1 : b % 9223372036854775808 < 4503599627370496
  · rw [if_pos h1, key]
    cases s
    · have : b < 9223372036854775808 := by simp at hs; omega
      have : b ≤ 9218868437227405312 := by omega
      simp [this]
    · have hge : 9223372036854775808 ≤ b := by simp at hs; omega
      by_cases h0 : b % 9223372036854775808 = 0
      · have : b = 9223372036854775808 := by omega
        subst this; decide
      · have h2 : ¬ b ≤ 9218868437227405312 := by omega
        have h3 : (b == 9223372036854775808) = false := beq_eq_false_iff_ne.2 (by omega)
        have h4 : (b % 9223372036854775808 == 0) = false := beq_eq_false_iff_ne.2 (by omega)
        simp only [h4, h3, h2]; decide
  · rw [if_neg h1]
    by_cases h2 : b % 9223372036854775808 < 9218868437227405312
    · rw [if_pos h2, key]
      cases s
      · have : b < 9223372036854775808 := by simp at hs; omega
        have : b ≤ 9218868437227405312 := by omega
        simp [this]
      · have hge : 9223372036854775808 ≤ b := by simp at hs; omega
        have h4 : ¬ b ≤ 9218868437227405312 := by omega
        have h3 : (b == 9223372036854775808) = false := beq_eq_false_iff_ne.2 (by omega)
        have h5 : (4503599627370496 + b % 9223372036854775808 % 4503599627370496 == 0) = false := beq_eq_false_iff_ne.2 (by omega)
        simp only [h4, h3, h5]; decide
    · rw [if_neg h2]
      by_cases h3 : b % 9223372036854775808 = 9218868437227405312
      · rw [if_pos h3]
        cases s
        · have : b < 9223372036854775808 := by simp at hs; omega
          have : b ≤ 9218868437227405312 := by omega
          simp [Datum.order, this]
        · have hge : 9223372036854775808 ≤ b := by simp at hs; omega
          have h4 : ¬ b ≤ 9218868437227405312 := by omega
          have h5 : ¬ b = 9223372036854775808 := by omega
          simp [Datum.order, h4, h5]
      · rw [if_neg h3]
        have h4 : ¬ b ≤ 9218868437227405312 := by omega
        have h5 : ¬ b = 9223372036854775808 := by omega
        simp [Datum.order, h4, h5]
end Go.Fl
