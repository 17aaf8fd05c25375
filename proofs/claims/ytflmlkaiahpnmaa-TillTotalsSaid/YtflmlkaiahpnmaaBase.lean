/- Contracts of the small functions of till: float, bits, Off. -/
import Derived.Test.YtflmlkaiahpnmaaRows
import Derived.Test.YtflmlkaiahpnmaaFl
import Derived.WalkKit
import Derived.WalkLawsBesides
import Derived.Laws.Externs
import Derived.Lib.Hide
import Derived.Deep.Draws
namespace Go.Proofs.Ytflmlkaiahpnmaa
open Go.RowKit Go.Fl

theorem frombits (b : Int) (w : World) : (callFunc 39 #[.int .u64 b]).run Try.prog w = .ok (.value (.float .f64 b.toNat)) w :=
  (run_callFunc_extern Try.func39 (by kernel_rfl) (by kernel_rfl) (by kernel_rfl) (e := Extern.MathFloatBits.float64frombits) (by kernel_rfl) _ w).trans rfl
theorem tobits (b : Nat) (w : World) : (callFunc 41 #[.float .f64 b]).run Try.prog w = .ok (.value (.int .u64 b)) w :=
  (run_callFunc_extern Try.func41 (by kernel_rfl) (by kernel_rfl) (by kernel_rfl) (e := Extern.MathFloatBits.float64bits) (by kernel_rfl) _ w).trans rfl

theorem float_any (b : Int) (w : World) : Calls Try.prog 27 #[.int .u64 b] w fun e w' => e = .returned (.float .f64 b.toNat) ∧ w = w' := by
  have h := frombits
  go_enter Try.func27, Try.ntmps27
  go_wp2
  go_ret
  exact ⟨rfl, rfl⟩
theorem floatR_any (b : Int) (w : World) : Calls Try.prog 29 #[.int .u64 b] w fun e w' => e = .returned (.float .f64 b.toNat) ∧ w = w' := by
  have h := frombits
  go_enter Try.func29, Try.ntmps29
  go_wp2
  go_ret
  exact ⟨rfl, rfl⟩

def wordI (c : Option Nat) : Int := ((word c : Nat) : Int)
theorem wordI_nan {b : Nat} (h : isNaN b = true) : wordI (canon b) = 9221120237041090561 := by simp [wordI, canon, h, word]
theorem wordI_not {b : Nat} (h : isNaN b = false) : wordI (canon b) = b := by simp [wordI, canon, h, word]

theorem bits_any (b : Nat) (w : World) : Calls Try.prog 28 #[.float .f64 b] w fun e w' => e = .returned (.int .u64 (wordI (canon b))) ∧ w = w' := by
  have h := tobits
  cases hn : isNaN b
  · have ho : (FloatKind.f64.format.order b b != some .eq) = false := by rw [order_self', hn]
    have hw := Lib.hid (wordI_not hn)
    clear hn
    go_enter Try.func28, Try.ntmps28
    go_wp2
    go_ret
    exact ⟨by rw [hw.out]; rfl, rfl⟩
  · have ho : (FloatKind.f64.format.order b b != some .eq) = true := by rw [order_self', hn]
    have hw := Lib.hid (wordI_nan hn)
    clear hn
    go_enter Try.func28, Try.ntmps28
    go_wp2
    go_ret
    exact ⟨by rw [hw.out]; rfl, rfl⟩
theorem bitsR_any (b : Nat) (w : World) : Calls Try.prog 30 #[.float .f64 b] w fun e w' => e = .returned (.int .u64 (wordI (canon b))) ∧ w = w' := by
  have h := tobits
  cases hn : isNaN b
  · have ho : (FloatKind.f64.format.order b b != some .eq) = false := by rw [order_self', hn]
    have hw := Lib.hid (wordI_not hn)
    clear hn
    go_enter Try.func30, Try.ntmps30
    go_wp2
    go_ret
    exact ⟨by rw [hw.out]; rfl, rfl⟩
  · have ho : (FloatKind.f64.format.order b b != some .eq) = true := by rw [order_self', hn]
    have hw := Lib.hid (wordI_nan hn)
    clear hn
    go_enter Try.func30, Try.ntmps30
    go_wp2
    go_ret
    exact ⟨by rw [hw.out]; rfl, rfl⟩

theorem wf_u64_pos {x : Int} (h : (Lit.int .u64 x).wf = true) : 0 ≤ x := by
  simp [Lit.wf, IntKind.min, IntKind.max, IntKind.signed, IntKind.bits] at h; omega
theorem wf_u64_lt {x : Int} (h : (Lit.int .u64 x).wf = true) : x < 18446744073709551616 := by
  simp [Lit.wf, IntKind.min, IntKind.max, IntKind.signed, IntKind.bits] at h; omega
theorem wf_i64_ge {x : Int} (h : (Lit.int .i64 x).wf = true) : -9223372036854775808 ≤ x := by
  simp [Lit.wf, IntKind.min, IntKind.max, IntKind.signed, IntKind.bits] at h; omega
theorem wf_i64_le {x : Int} (h : (Lit.int .i64 x).wf = true) : x ≤ 9223372036854775807 := by
  simp [Lit.wf, IntKind.min, IntKind.max, IntKind.signed, IntKind.bits] at h; omega
theorem grown_drewN (w : World) (n : Nat) : Grown w (w.drewN n) :=
  ⟨⟨rfl, rfl, fun i hi => by simp [World.drewN]; split <;> simp_all⟩, fun _ => rfl, Nat.le_refl _⟩
/-- The call returns v; draws were made. -/
def RetD (v : Value) (w : World) (e : Ending) (w' : World) : Prop := e = .returned v ∧ ∃ n, w' = w.drewN n

def clip (h : Int) : Int := max 0 (min h 100)
/-- A total less so many hundredths, up to NaNs. -/
def offc (t : Option Nat) (h : Int) : Option Nat :=
  opc .sub t (opc .mul t (opc .quo (canon (floatOfInt .f64 (clip h))) (canon 4636737291354636288)))

theorem off_end {b : Nat} {h k : Int} {w1 w2 w3 : World} (hc : clip h = k) :
    Ending.returned (.int .u64 (wordI (canon (res .sub w3 b (res .mul w2 b (res .quo w1 (floatOfInt .f64 k) 4636737291354636288)))))) = .returned (.int .u64 (wordI (offc (canon b) h))) := by
  simp only [canon_res, offc, hc]
theorem off_any (b h : Int) (w : World) : Calls Try.prog 9 #[.int .u64 b, .int .i64 h] w (RetD (.int .u64 (wordI (offc (canon b.toNat) h))) w) := by
  have hq := fun w x y => run_fl (P := Try.prog) w .quo (by simp) 42 x y
  have hm := fun w x y => run_fl (P := Try.prog) w .mul (by simp) 42 x y
  have hs := fun w x y => run_fl (P := Try.prog) w .sub (by simp) 42 x y
  rcases (show h ≤ 0 ∨ (0 < h ∧ h < 100) ∨ h = 100 ∨ 100 < h by omega) with h1 | ⟨h1, h2⟩ | rfl | h1
  · have hc : Hid (clip h = 0) := Lib.hid (by unfold clip; omega)
    go_enter Try.func9, Try.ntmps9
    go_wp2_with (first | (go_at_call 27; refine (float_any _ _).mono ?_; rintro e w' ⟨rfl, rfl⟩) | (go_at_call 28; refine (bits_any _ _).mono ?_; rintro e w' ⟨rfl, rfl⟩))
    go_ret
    exact ⟨off_end hc.out, _, rfl⟩
  · have hc : Hid (clip h = h) := Lib.hid (by unfold clip; omega)
    go_enter Try.func9, Try.ntmps9
    go_wp2_with (first | (go_at_call 27; refine (float_any _ _).mono ?_; rintro e w' ⟨rfl, rfl⟩) | (go_at_call 28; refine (bits_any _ _).mono ?_; rintro e w' ⟨rfl, rfl⟩))
    go_ret
    exact ⟨off_end hc.out, _, rfl⟩
  · have hc : Hid (clip 100 = 100) := Lib.hid (by decide)
    go_enter Try.func9, Try.ntmps9
    go_wp2_with (first | (go_at_call 27; refine (float_any _ _).mono ?_; rintro e w' ⟨rfl, rfl⟩) | (go_at_call 28; refine (bits_any _ _).mono ?_; rintro e w' ⟨rfl, rfl⟩))
    go_ret
    exact ⟨off_end hc.out, _, rfl⟩
  · have hc : Hid (clip h = 100) := Lib.hid (by unfold clip; omega)
    go_enter Try.func9, Try.ntmps9
    go_wp2_with (first | (go_at_call 27; refine (float_any _ _).mono ?_; rintro e w' ⟨rfl, rfl⟩) | (go_at_call 28; refine (bits_any _ _).mono ?_; rintro e w' ⟨rfl, rfl⟩))
    go_ret
    exact ⟨off_end hc.out, _, rfl⟩
theorem offR_any (b h : Int) (w : World) : Calls Try.prog 10 #[.int .u64 b, .int .i64 h] w (RetD (.int .u64 (wordI (offc (canon b.toNat) h))) w) := by
  have hq := fun w x y => run_fl (P := Try.prog) w .quo (by simp) 42 x y
  have hm := fun w x y => run_fl (P := Try.prog) w .mul (by simp) 42 x y
  have hs := fun w x y => run_fl (P := Try.prog) w .sub (by simp) 42 x y
  rcases (show h ≤ 0 ∨ (0 < h ∧ h < 100) ∨ h = 100 ∨ 100 < h by omega) with h1 | ⟨h1, h2⟩ | rfl | h1
  · have hc : Hid (clip h = 0) := Lib.hid (by unfold clip; omega)
    go_enter Try.func10, Try.ntmps10
    go_wp2_with (first | (go_at_call 29; refine (floatR_any _ _).mono ?_; rintro e w' ⟨rfl, rfl⟩) | (go_at_call 30; refine (bitsR_any _ _).mono ?_; rintro e w' ⟨rfl, rfl⟩))
    go_ret
    exact ⟨off_end hc.out, _, rfl⟩
  · have hc : Hid (clip h = h) := Lib.hid (by unfold clip; omega)
    go_enter Try.func10, Try.ntmps10
    go_wp2_with (first | (go_at_call 29; refine (floatR_any _ _).mono ?_; rintro e w' ⟨rfl, rfl⟩) | (go_at_call 30; refine (bitsR_any _ _).mono ?_; rintro e w' ⟨rfl, rfl⟩))
    go_ret
    exact ⟨off_end hc.out, _, rfl⟩
  · have hc : Hid (clip 100 = 100) := Lib.hid (by decide)
    go_enter Try.func10, Try.ntmps10
    go_wp2_with (first | (go_at_call 29; refine (floatR_any _ _).mono ?_; rintro e w' ⟨rfl, rfl⟩) | (go_at_call 30; refine (bitsR_any _ _).mono ?_; rintro e w' ⟨rfl, rfl⟩))
    go_ret
    exact ⟨off_end hc.out, _, rfl⟩
  · have hc : Hid (clip h = 100) := Lib.hid (by unfold clip; omega)
    go_enter Try.func10, Try.ntmps10
    go_wp2_with (first | (go_at_call 29; refine (floatR_any _ _).mono ?_; rintro e w' ⟨rfl, rfl⟩) | (go_at_call 30; refine (bitsR_any _ _).mono ?_; rintro e w' ⟨rfl, rfl⟩))
    go_ret
    exact ⟨off_end hc.out, _, rfl⟩
end Go.Proofs.Ytflmlkaiahpnmaa
