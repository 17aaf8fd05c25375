/- Contracts of till's small functions over floats, and of package math's that they call. -/
import Derived.Test.YtflmlkaiahpnmaaDoorRows
import Derived.Test.YtflmlkaiahpnmaaDoorBk
import Derived.WalkKit
import Derived.WalkLawsBesides
import Derived.Laws.Externs
import Derived.Lib.Hide
import Derived.Deep.Draws
namespace Go.Proofs.YtflmlkaiahpnmaaDoor
open Go.RowKit Go.Fl

theorem frombits (b : Int) (w : World) : (callFunc 31 #[.int .u64 b]).run Tryd.prog w = .ok (.value (.float .f64 b.toNat)) w :=
  (run_callFunc_extern Tryd.func31 (by kernel_rfl) (by kernel_rfl) (by kernel_rfl) (e := Extern.MathFloatBits.float64frombits) (by kernel_rfl) _ w).trans rfl
theorem tobits (b : Nat) (w : World) : (callFunc 30 #[.float .f64 b]).run Tryd.prog w = .ok (.value (.int .u64 b)) w :=
  (run_callFunc_extern Tryd.func30 (by kernel_rfl) (by kernel_rfl) (by kernel_rfl) (e := Extern.MathFloatBits.float64bits) (by kernel_rfl) _ w).trans rfl
theorem even_run (r : Nat) (hr : r < 4845873199050653696) (w : World) : (callFunc 24 #[.float .f64 r]).run Tryd.prog w = .ok (.value (.float .f64 (Ieee.double.nearest false (rnd r) 0))) w := by
  refine (run_callFunc_extern Tryd.func24 (by kernel_rfl) (by kernel_rfl) (by kernel_rfl) (e := Extern.MathFloor.toIntegral "math.RoundToEven" .even) (by kernel_rfl) _ w).trans ?_
  have h1 : FloatKind.f64.decode r = .number false (sig r) (plc r) := read_pos (fin_small hr)
  have h2 : (Ieee.Datum.number false (sig r) (plc r)).integral .even = .number false (rnd r) 0 := by rw [← read_pos (fin_small hr)]; exact even_small hr
  have k : ∀ d, FloatKind.f64.decode r = d → d = .number false (sig r) (plc r) → Extern.MathFloor.toIntegral "math.RoundToEven" .even #[.float .f64 r] = pure (.float .f64 (FloatKind.f64.encode (d.integral .even))) := by
    intro d h3 h4
    change (match FloatKind.f64.decode r with | .nan s t => _ | d => pure (Value.float .f64 (FloatKind.f64.encode (d.integral .even)))) = _
    rw [h1, h4]
  rw [k _ rfl h1, h1, h2]
  rfl

theorem float_any (b : Int) (w : World) : Calls Tryd.prog 18 #[.int .u64 b] w fun e w' => e = .returned (.float .f64 b.toNat) ∧ w = w' := by
  have h := frombits
  go_enter Tryd.func18, Tryd.ntmps18
  go_wp2
  go_ret
  exact ⟨rfl, rfl⟩
theorem floatR_any (b : Int) (w : World) : Calls Tryd.prog 25 #[.int .u64 b] w fun e w' => e = .returned (.float .f64 b.toNat) ∧ w = w' := by
  have h := frombits
  go_enter Tryd.func25, Tryd.ntmps25
  go_wp2
  go_ret
  exact ⟨rfl, rfl⟩
theorem isNaN_any (b : Nat) (w : World) : Calls Tryd.prog 19 #[.float .f64 b] w fun e w' => e = .returned (.bool (isNaN b)) ∧ w = w' := by
  have ho : (FloatKind.f64.format.order b b != some .eq) = isNaN b := order_self' b
  go_enter Tryd.func19, Tryd.ntmps19
  go_wp2
  go_ret
  exact ⟨rfl, rfl⟩
theorem abs_nat (b : Nat) (hb : b < 18446744073709551616) : bits .andNot .u64 (b : Int) 9223372036854775808 = ((b % 9223372036854775808 : Nat) : Int) := by
  have h := u64_andNot_nat b 9223372036854775808 (by omega) (by omega)
  rw [show ((9223372036854775808 : Nat) : Int) = 9223372036854775808 from rfl] at h
  rw [h, show (18446744073709551615 - 9223372036854775808 : Nat) = 2 ^ 63 - 1 by decide, Nat.and_two_pow_sub_one_eq_mod]
theorem abs_any (b : Nat) (hb : b < 18446744073709551616) (w : World) : Calls Tryd.prog 22 #[.float .f64 b] w fun e w' => e = .returned (.float .f64 (b % 9223372036854775808)) ∧ w = w' := by
  have h := frombits
  have h2 := tobits
  have ha := abs_nat b hb
  go_enter Tryd.func22, Tryd.ntmps22
  go_wp2
  go_ret
  exact ⟨rfl, rfl⟩
theorem wrap_top (b : Nat) (hb : b < 18446744073709551616) : decide (wrap64 (b : Int) < 0) = decide (9223372036854775808 ≤ b) := by
  congr 1
  simp only [wrap64, eq_iff_iff]
  omega
theorem signbit_any (b : Nat) (hb : b < 18446744073709551616) (w : World) : Calls Tryd.prog 21 #[.float .f64 b] w fun e w' => e = .returned (.bool (decide (9223372036854775808 ≤ b))) ∧ w = w' := by
  have h2 := tobits
  have H := Lib.hid (wrap_top b hb)
  go_enter Tryd.func21, Tryd.ntmps21
  go_wp2
  go_ret
  exact ⟨congrArg (fun x => Ending.returned (.bool x)) H.out, rfl⟩
theorem neg_run (b : Nat) (w : World) : (Op.unary .neg (.float .f64 b)).run Tryd.prog w = .ok (.float .f64 (Op.negFloat .f64 b)) w := rfl
theorem isInf_pos (b : Nat) (w : World) : Calls Tryd.prog 20 #[.float .f64 b, .int .i64 1] w fun e w' => e = .returned (.bool (FloatKind.f64.format.order b 9218868437227405311 == some .gt)) ∧ w = w' := by
  go_enter Tryd.func20, Tryd.ntmps20
  go_wp2
  go_ret
  exact ⟨rfl, rfl⟩
theorem isInf_neg (b : Nat) (w : World) : Calls Tryd.prog 20 #[.float .f64 b, .int .i64 (-1)] w fun e w' => e = .returned (.bool (FloatKind.f64.format.order (Op.negFloat .f64 b) 9218868437227405311 == some .gt)) ∧ w = w' := by
  have h := neg_run
  go_enter Tryd.func20, Tryd.ntmps20
  go_wp2
  go_ret
  exact ⟨rfl, rfl⟩
theorem can_any (b : Int) (w : World) : Calls Tryd.prog 10 #[.int .u64 b] w fun e w' => e = .returned (.bool (FloatKind.f64.format.order b.toNat 0 == some .gt || FloatKind.f64.format.order b.toNat 0 == some .eq)) ∧ w = w' := by
  go_enter Tryd.func10, Tryd.ntmps10
  go_wp2_with (go_at_call 18; refine (float_any _ _).mono ?_; rintro e w' ⟨rfl, rfl⟩)
  go_ret
  exact ⟨rfl, rfl⟩
theorem canR_any (b : Int) (w : World) : Calls Tryd.prog 11 #[.int .u64 b] w fun e w' => e = .returned (.bool (decide (b ≤ 9218868437227405312) || (b == 9223372036854775808))) ∧ w = w' := by
  rcases Int.lt_or_le 9218868437227405312 b with h | h
  · by_cases h2 : b = 9223372036854775808
    · subst h2
      go_enter Tryd.func11, Tryd.ntmps11
      go_wp2
      go_ret
      exact ⟨rfl, rfl⟩
    · have e1 : Hid ((decide (b ≤ 9218868437227405312) || (b == 9223372036854775808)) = false) := Lib.hid (by simp; omega)
      go_enter Tryd.func11, Tryd.ntmps11
      go_wp2
      go_ret
      exact ⟨by rw [e1.out]; rfl, rfl⟩
  · have e1 : Hid ((decide (b ≤ 9218868437227405312) || (b == 9223372036854775808)) = true) := Lib.hid (by simp; omega)
    go_enter Tryd.func11, Tryd.ntmps11
    go_wp2
    go_ret
    exact ⟨by rw [e1.out]; rfl, rfl⟩
theorem bits_any (b : Nat) (hn : isNaN b = false) (w : World) : Calls Tryd.prog 15 #[.float .f64 b] w fun e w' => e = .returned (.int .u64 b) ∧ w = w' := by
  have h := tobits
  have ho : (FloatKind.f64.format.order b b != some .eq) = false := by rw [order_self', hn]
  have hm := isNaN_any b
  rw [hn] at hm
  clear hn
  go_enter Tryd.func15, Tryd.ntmps15
  go_wp2_with (go_at_call 19; refine (hm _).mono ?_; rintro e w' ⟨rfl, rfl⟩)
  go_ret
  exact ⟨rfl, rfl⟩
theorem bitsR_any (b : Nat) (hn : isNaN b = false) (w : World) : Calls Tryd.prog 17 #[.float .f64 b] w fun e w' => e = .returned (.int .u64 b) ∧ w = w' := by
  have h := tobits
  have ho : (FloatKind.f64.format.order b b != some .eq) = false := by rw [order_self', hn]
  clear hn
  go_enter Tryd.func17, Tryd.ntmps17
  go_wp2
  go_ret
  exact ⟨rfl, rfl⟩
end Go.Proofs.YtflmlkaiahpnmaaDoor
