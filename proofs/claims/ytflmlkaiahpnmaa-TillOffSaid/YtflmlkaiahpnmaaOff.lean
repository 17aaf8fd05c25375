/- TillOff: nothing off changes no finite amount, all of it off is nothing; at infinities and NaNs the program's Off is the document's. No condition. -/
import Derived.Test.YtflmlkaiahpnmaaBase
import Derived.Laws.Bits64b
import Derived.ProofKit
import Derived.OpenShut
namespace Go.Proofs.Ytflmlkaiahpnmaa
open Go.RowKit Go.Fl

theorem quo0 : opc .quo (canon (floatOfInt .f64 0)) (canon 4636737291354636288) = some 0 := by decide +kernel
theorem quo1 : opc .quo (canon (floatOfInt .f64 100)) (canon 4636737291354636288) = some 4607182418800017408 := by decide +kernel
theorem canon_fin {t : Nat} (h : t % 9223372036854775808 < 9218868437227405312) : canon t = some t := by
  unfold canon; rw [isNaN_iff]
  have : ¬ 9218868437227405312 < t % 9223372036854775808 := by omega
  simp [this]
theorem off_none {t : Nat} {h : Int} (hb : t < 18446744073709551616) (hf : t % 9223372036854775808 < 9218868437227405312) (hh : h ≤ 0) :
    wordI (offc (canon t) h) = (((if t = 9223372036854775808 then 0 else t) : Nat) : Int) := by
  unfold offc
  rw [show clip h = 0 by unfold clip; omega, quo0, canon_fin hf]
  have h1 : opc .mul (some t) (some 0) = some (Ieee.double.word (t / 9223372036854775808 % 2 == 1) 0) := by
    show (Ieee.double.mul t 0).bind canon = _
    rw [mul_zero t hf]
    show canon _ = _
    refine canon_fin ?_
    cases (t / 9223372036854775808 % 2 == 1) <;> decide
  rw [h1]
  have h2 : opc .sub (some t) (some (Ieee.double.word (t / 9223372036854775808 % 2 == 1) 0)) = some (if t = 9223372036854775808 then 0 else t) := by
    show (Ieee.double.sub t _).bind canon = _
    rw [sub_zero t hb hf]
    show canon _ = _
    split
    · exact canon_fin (by decide)
    · exact canon_fin hf
  rw [h2]; rfl
theorem off_all {t : Nat} {h : Int} (hb : t < 18446744073709551616) (hf : t % 9223372036854775808 < 9218868437227405312) (hh : 100 ≤ h) :
    wordI (offc (canon t) h) = 0 := by
  unfold offc
  rw [show clip h = 100 by unfold clip; omega, quo1, canon_fin hf]
  have h1 : opc .mul (some t) (some 4607182418800017408) = some t := by
    show (Ieee.double.mul t _).bind canon = _
    rw [mul_one t hb hf]
    exact canon_fin hf
  rw [h1]
  have h2 : opc .sub (some t) (some t) = some 0 := by
    show (Ieee.double.sub t t).bind canon = _
    rw [sub_self t hf]
    exact canon_fin (by decide)
  rw [h2]; rfl

theorem and_mask (t : Nat) : t &&& 9218868437227405312 = (t / 4503599627370496 % 2048) * 4503599627370496 := by
  have e : (9218868437227405312 : Nat) = 2047 <<< 52 := by decide
  have e2 : t / 4503599627370496 % 2048 = (t >>> 52) &&& 2047 := by
    rw [Nat.shiftRight_eq_div_pow]; exact (Nat.and_two_pow_sub_one_eq_mod _ 11).symm
  rw [e, e2, show (4503599627370496 : Nat) = 2 ^ 52 by decide, ← Nat.shiftLeft_eq]
  apply Nat.eq_of_testBit_eq
  intro i
  simp only [Nat.testBit_and, Nat.testBit_shiftLeft, Nat.testBit_shiftRight]
  by_cases hi : 52 ≤ i
  · rw [show 52 + (i - 52) = i by omega]; simp [hi]
  · simp [hi]
theorem mask_fin {t : Nat} (hb : t < 18446744073709551616) (hf : t % 9223372036854775808 < 9218868437227405312) : (bits .and .u64 (t : Int) 9218868437227405312 == 9218868437227405312) = false := by
  have h := bits_and_u64_nat t 9218868437227405312 hb (by decide)
  rw [show ((9218868437227405312 : Nat) : Int) = 9218868437227405312 from rfl] at h
  rw [h, and_mask, beq_eq_false_iff_ne]
  omega
theorem mask_inf {t : Nat} (hb : t < 18446744073709551616) (hf : ¬ t % 9223372036854775808 < 9218868437227405312) : (bits .and .u64 (t : Int) 9218868437227405312 == 9218868437227405312) = true := by
  have h := bits_and_u64_nat t 9218868437227405312 hb (by decide)
  rw [show ((9218868437227405312 : Nat) : Int) = 9218868437227405312 from rfl] at h
  rw [h, and_mask, beq_iff_eq]
  omega

theorem walk_inf (t : Nat) (w : World) (hm : (bits .and .u64 (t : Int) 9218868437227405312 == 9218868437227405312) = true) :
    Calls Try.prog 3 #[.int .u64 t] w (RetD (.bool true) w) := by
  go_enter Try.func3, Try.ntmps3
  go_wp2_with (first | (go_at_call 9; refine (off_any _ _ _).mono ?_; rintro e w' ⟨rfl, n, rfl⟩) | (go_at_call 10; refine (offR_any _ _ _).mono ?_; rintro e w' ⟨rfl, n, rfl⟩))
  go_ret
  exact ⟨rfl, _, rfl⟩

def same (t : Nat) : Int := (((if t = 9223372036854775808 then 0 else t) : Nat) : Int)
theorem off0_any (t : Nat) (h : Int) (w : World) (hb : t < 18446744073709551616) (hf : t % 9223372036854775808 < 9218868437227405312) (hh : h ≤ 0) :
    Calls Try.prog 9 #[.int .u64 t, .int .i64 h] w (RetD (.int .u64 (same t)) w) := by
  have := off_any t h w
  rwa [Int.toNat_natCast, off_none hb hf hh] at this
theorem off1_any (t : Nat) (h : Int) (w : World) (hb : t < 18446744073709551616) (hf : t % 9223372036854775808 < 9218868437227405312) (hh : 100 ≤ h) :
    Calls Try.prog 9 #[.int .u64 t, .int .i64 h] w (RetD (.int .u64 0) w) := by
  have := off_any t h w
  rwa [Int.toNat_natCast, off_all hb hf hh] at this

theorem walk_fin (t : Nat) (w : World) (hb : t < 18446744073709551616) (hf : t % 9223372036854775808 < 9218868437227405312) :
    Calls Try.prog 3 #[.int .u64 t] w (RetD (.bool true) w) := by
  have hm := mask_fin hb hf
  have Hb := Lib.hid hb
  have Hf := Lib.hid hf
  by_cases h0 : t = 9223372036854775808
  · have hs : Hid (same t = 0) := Lib.hid (by unfold same; rw [if_pos h0]; rfl)
    have hz : ((t : Int) == 9223372036854775808) = true := by simp; omega
    clear hb hf h0
    go_enter Try.func3, Try.ntmps3
    go_wp2_with fail
    refine (off0_any t _ _ Hb.out Hf.out (by decide)).mono ?_
    rw [hs.out]
    rintro e w' ⟨rfl, n, rfl⟩
    go_wp2_with fail
    refine (off0_any t _ _ Hb.out Hf.out (by decide)).mono ?_
    rw [hs.out]
    rintro e w' ⟨rfl, n, rfl⟩
    go_wp2_with fail
    refine (off1_any t _ _ Hb.out Hf.out (by decide)).mono ?_
    rintro e w' ⟨rfl, n, rfl⟩
    go_wp2_with fail
    refine (off1_any t _ _ Hb.out Hf.out (by decide)).mono ?_
    rintro e w' ⟨rfl, n, rfl⟩
    go_wp2_with fail
    go_ret
    exact ⟨rfl, _, rfl⟩
  · have hs : Hid (same t = t) := Lib.hid (by unfold same; rw [if_neg h0])
    have hz : ((t : Int) == 9223372036854775808) = false := by simp; omega
    clear hb hf h0
    go_enter Try.func3, Try.ntmps3
    go_wp2_with fail
    refine (off0_any t _ _ Hb.out Hf.out (by decide)).mono ?_
    rw [hs.out]
    rintro e w' ⟨rfl, n, rfl⟩
    go_wp2_with fail
    refine (off0_any t _ _ Hb.out Hf.out (by decide)).mono ?_
    rw [hs.out]
    rintro e w' ⟨rfl, n, rfl⟩
    go_wp2_with fail
    refine (off1_any t _ _ Hb.out Hf.out (by decide)).mono ?_
    rintro e w' ⟨rfl, n, rfl⟩
    go_wp2_with fail
    refine (off1_any t _ _ Hb.out Hf.out (by decide)).mono ?_
    rintro e w' ⟨rfl, n, rfl⟩
    go_wp2_with fail
    go_ret
    exact ⟨rfl, _, rfl⟩

theorem walk_any (t : Nat) (w : World) (hb : t < 18446744073709551616) : Calls Try.prog 3 #[.int .u64 t] w (RetD (.bool true) w) := by
  by_cases hf : t % 9223372036854775808 < 9218868437227405312
  · exact walk_fin t w hb hf
  · exact walk_inf t w (mask_inf hb hf)
end Go.Proofs.Ytflmlkaiahpnmaa
