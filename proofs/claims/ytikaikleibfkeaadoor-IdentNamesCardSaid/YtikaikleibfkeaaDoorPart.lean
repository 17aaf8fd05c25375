/- Contracts of log, shift, Partition and Start, one for each number of parts that there is, and one for the others. Written by program. -/
import Derived.Test.YtikaikleibfkeaaDoorMem
namespace Go.Proofs.YtikaikleibfkeaaDoor
open Go.RowKit

theorem ret_t2 {k : IntKind} {a b : Int} {v : Value} (h : a = b) : Ending.returned (.tuple #[.int k a, v]) = .returned (.tuple #[.int k b, v]) := by rw [h]
theorem log_0 (w : World) : Calls Tryd.prog 29 #[.int .i64 1] w fun e w' => e = .returned (.tuple #[.int .i64 0, .bool true]) ∧ w = w' := by
  go_enter Tryd.func29, Tryd.ntmps29
  go_wp2
  refine wp_loop_rounds 1 ?_
  rw [rounds_succ]
  go_wp2
  go_ret2
  exact ⟨rfl, rfl⟩
theorem shift_0 (w : World) : Calls Tryd.prog 32 #[.int .i64 1] w fun e w' => e = .returned (.int .i64 64) ∧ w = w' := by
  go_enter Tryd.func32, Tryd.ntmps32
  go_wp2
  refine wp_loop_rounds 1 ?_
  rw [rounds_succ]
  go_wp2
  go_ret
  exact ⟨rfl, rfl⟩
theorem log_1 (w : World) : Calls Tryd.prog 29 #[.int .i64 2] w fun e w' => e = .returned (.tuple #[.int .i64 1, .bool true]) ∧ w = w' := by
  go_enter Tryd.func29, Tryd.ntmps29
  go_wp2
  refine wp_loop_rounds 2 ?_
  rw [rounds_succ]
  go_wp2
  rw [rounds_succ]
  go_wp2
  go_ret2
  exact ⟨rfl, rfl⟩
theorem shift_1 (w : World) : Calls Tryd.prog 32 #[.int .i64 2] w fun e w' => e = .returned (.int .i64 63) ∧ w = w' := by
  go_enter Tryd.func32, Tryd.ntmps32
  go_wp2
  refine wp_loop_rounds 2 ?_
  rw [rounds_succ]
  go_wp2
  rw [rounds_succ]
  go_wp2
  go_ret
  exact ⟨rfl, rfl⟩
theorem log_2 (w : World) : Calls Tryd.prog 29 #[.int .i64 4] w fun e w' => e = .returned (.tuple #[.int .i64 2, .bool true]) ∧ w = w' := by
  go_enter Tryd.func29, Tryd.ntmps29
  go_wp2
  refine wp_loop_rounds 3 ?_
  rw [rounds_succ]
  go_wp2
  rw [rounds_succ]
  go_wp2
  rw [rounds_succ]
  go_wp2
  go_ret2
  exact ⟨rfl, rfl⟩
theorem shift_2 (w : World) : Calls Tryd.prog 32 #[.int .i64 4] w fun e w' => e = .returned (.int .i64 62) ∧ w = w' := by
  go_enter Tryd.func32, Tryd.ntmps32
  go_wp2
  refine wp_loop_rounds 3 ?_
  rw [rounds_succ]
  go_wp2
  rw [rounds_succ]
  go_wp2
  rw [rounds_succ]
  go_wp2
  go_ret
  exact ⟨rfl, rfl⟩
theorem log_3 (w : World) : Calls Tryd.prog 29 #[.int .i64 8] w fun e w' => e = .returned (.tuple #[.int .i64 3, .bool true]) ∧ w = w' := by
  go_enter Tryd.func29, Tryd.ntmps29
  go_wp2
  refine wp_loop_rounds 4 ?_
  rw [rounds_succ]
  go_wp2
  rw [rounds_succ]
  go_wp2
  rw [rounds_succ]
  go_wp2
  rw [rounds_succ]
  go_wp2
  go_ret2
  exact ⟨rfl, rfl⟩
theorem shift_3 (w : World) : Calls Tryd.prog 32 #[.int .i64 8] w fun e w' => e = .returned (.int .i64 61) ∧ w = w' := by
  go_enter Tryd.func32, Tryd.ntmps32
  go_wp2
  refine wp_loop_rounds 4 ?_
  rw [rounds_succ]
  go_wp2
  rw [rounds_succ]
  go_wp2
  rw [rounds_succ]
  go_wp2
  rw [rounds_succ]
  go_wp2
  go_ret
  exact ⟨rfl, rfl⟩
theorem log_4 (w : World) : Calls Tryd.prog 29 #[.int .i64 16] w fun e w' => e = .returned (.tuple #[.int .i64 4, .bool true]) ∧ w = w' := by
  go_enter Tryd.func29, Tryd.ntmps29
  go_wp2
  refine wp_loop_rounds 5 ?_
  rw [rounds_succ]
  go_wp2
  rw [rounds_succ]
  go_wp2
  rw [rounds_succ]
  go_wp2
  rw [rounds_succ]
  go_wp2
  rw [rounds_succ]
  go_wp2
  go_ret2
  exact ⟨rfl, rfl⟩
theorem shift_4 (w : World) : Calls Tryd.prog 32 #[.int .i64 16] w fun e w' => e = .returned (.int .i64 60) ∧ w = w' := by
  go_enter Tryd.func32, Tryd.ntmps32
  go_wp2
  refine wp_loop_rounds 5 ?_
  rw [rounds_succ]
  go_wp2
  rw [rounds_succ]
  go_wp2
  rw [rounds_succ]
  go_wp2
  rw [rounds_succ]
  go_wp2
  rw [rounds_succ]
  go_wp2
  go_ret
  exact ⟨rfl, rfl⟩
theorem log_5 (w : World) : Calls Tryd.prog 29 #[.int .i64 32] w fun e w' => e = .returned (.tuple #[.int .i64 5, .bool true]) ∧ w = w' := by
  go_enter Tryd.func29, Tryd.ntmps29
  go_wp2
  refine wp_loop_rounds 6 ?_
  rw [rounds_succ]
  go_wp2
  rw [rounds_succ]
  go_wp2
  rw [rounds_succ]
  go_wp2
  rw [rounds_succ]
  go_wp2
  rw [rounds_succ]
  go_wp2
  rw [rounds_succ]
  go_wp2
  go_ret2
  exact ⟨rfl, rfl⟩
theorem shift_5 (w : World) : Calls Tryd.prog 32 #[.int .i64 32] w fun e w' => e = .returned (.int .i64 59) ∧ w = w' := by
  go_enter Tryd.func32, Tryd.ntmps32
  go_wp2
  refine wp_loop_rounds 6 ?_
  rw [rounds_succ]
  go_wp2
  rw [rounds_succ]
  go_wp2
  rw [rounds_succ]
  go_wp2
  rw [rounds_succ]
  go_wp2
  rw [rounds_succ]
  go_wp2
  rw [rounds_succ]
  go_wp2
  go_ret
  exact ⟨rfl, rfl⟩
theorem log_6 (w : World) : Calls Tryd.prog 29 #[.int .i64 64] w fun e w' => e = .returned (.tuple #[.int .i64 6, .bool true]) ∧ w = w' := by
  go_enter Tryd.func29, Tryd.ntmps29
  go_wp2
  refine wp_loop_rounds 7 ?_
  rw [rounds_succ]
  go_wp2
  rw [rounds_succ]
  go_wp2
  rw [rounds_succ]
  go_wp2
  rw [rounds_succ]
  go_wp2
  rw [rounds_succ]
  go_wp2
  rw [rounds_succ]
  go_wp2
  rw [rounds_succ]
  go_wp2
  go_ret2
  exact ⟨rfl, rfl⟩
theorem shift_6 (w : World) : Calls Tryd.prog 32 #[.int .i64 64] w fun e w' => e = .returned (.int .i64 58) ∧ w = w' := by
  go_enter Tryd.func32, Tryd.ntmps32
  go_wp2
  refine wp_loop_rounds 7 ?_
  rw [rounds_succ]
  go_wp2
  rw [rounds_succ]
  go_wp2
  rw [rounds_succ]
  go_wp2
  rw [rounds_succ]
  go_wp2
  rw [rounds_succ]
  go_wp2
  rw [rounds_succ]
  go_wp2
  rw [rounds_succ]
  go_wp2
  go_ret
  exact ⟨rfl, rfl⟩
theorem log_no (p : Int) (w : World) (hp : p ≠ 1 ∧ p ≠ 2 ∧ p ≠ 4 ∧ p ≠ 8 ∧ p ≠ 16 ∧ p ≠ 32 ∧ p ≠ 64) : Calls Tryd.prog 29 #[.int .i64 p] w fun e w' => e = .returned (.tuple #[.int .i64 0, .bool false]) ∧ w = w' := by
  have n1 : (p == 1) = false := beq_eq_false_iff_ne.2 (by omega)
  have m1 : ((1 : Int) == p) = false := beq_eq_false_iff_ne.2 (by omega)
  have n2 : (p == 2) = false := beq_eq_false_iff_ne.2 (by omega)
  have m2 : ((2 : Int) == p) = false := beq_eq_false_iff_ne.2 (by omega)
  have n4 : (p == 4) = false := beq_eq_false_iff_ne.2 (by omega)
  have m4 : ((4 : Int) == p) = false := beq_eq_false_iff_ne.2 (by omega)
  have n8 : (p == 8) = false := beq_eq_false_iff_ne.2 (by omega)
  have m8 : ((8 : Int) == p) = false := beq_eq_false_iff_ne.2 (by omega)
  have n16 : (p == 16) = false := beq_eq_false_iff_ne.2 (by omega)
  have m16 : ((16 : Int) == p) = false := beq_eq_false_iff_ne.2 (by omega)
  have n32 : (p == 32) = false := beq_eq_false_iff_ne.2 (by omega)
  have m32 : ((32 : Int) == p) = false := beq_eq_false_iff_ne.2 (by omega)
  have n64 : (p == 64) = false := beq_eq_false_iff_ne.2 (by omega)
  have m64 : ((64 : Int) == p) = false := beq_eq_false_iff_ne.2 (by omega)
  clear hp
  go_enter Tryd.func29, Tryd.ntmps29
  go_wp2
  refine wp_loop_rounds 8 ?_
  rw [rounds_succ]
  go_wp2
  rw [rounds_succ]
  go_wp2
  rw [rounds_succ]
  go_wp2
  rw [rounds_succ]
  go_wp2
  rw [rounds_succ]
  go_wp2
  rw [rounds_succ]
  go_wp2
  rw [rounds_succ]
  go_wp2
  rw [rounds_succ]
  go_wp2
  go_ret2
  exact ⟨rfl, rfl⟩
theorem shift_no (p : Int) (w : World) (hp : p ≠ 1 ∧ p ≠ 2 ∧ p ≠ 4 ∧ p ≠ 8 ∧ p ≠ 16 ∧ p ≠ 32 ∧ p ≠ 64) : Calls Tryd.prog 32 #[.int .i64 p] w fun e w' => e = .returned (.int .i64 (-1)) ∧ w = w' := by
  have n1 : (p == 1) = false := beq_eq_false_iff_ne.2 (by omega)
  have m1 : ((1 : Int) == p) = false := beq_eq_false_iff_ne.2 (by omega)
  have n2 : (p == 2) = false := beq_eq_false_iff_ne.2 (by omega)
  have m2 : ((2 : Int) == p) = false := beq_eq_false_iff_ne.2 (by omega)
  have n4 : (p == 4) = false := beq_eq_false_iff_ne.2 (by omega)
  have m4 : ((4 : Int) == p) = false := beq_eq_false_iff_ne.2 (by omega)
  have n8 : (p == 8) = false := beq_eq_false_iff_ne.2 (by omega)
  have m8 : ((8 : Int) == p) = false := beq_eq_false_iff_ne.2 (by omega)
  have n16 : (p == 16) = false := beq_eq_false_iff_ne.2 (by omega)
  have m16 : ((16 : Int) == p) = false := beq_eq_false_iff_ne.2 (by omega)
  have n32 : (p == 32) = false := beq_eq_false_iff_ne.2 (by omega)
  have m32 : ((32 : Int) == p) = false := beq_eq_false_iff_ne.2 (by omega)
  have n64 : (p == 64) = false := beq_eq_false_iff_ne.2 (by omega)
  have m64 : ((64 : Int) == p) = false := beq_eq_false_iff_ne.2 (by omega)
  clear hp
  go_enter Tryd.func32, Tryd.ntmps32
  go_wp2
  refine wp_loop_rounds 8 ?_
  rw [rounds_succ]
  go_wp2
  rw [rounds_succ]
  go_wp2
  rw [rounds_succ]
  go_wp2
  rw [rounds_succ]
  go_wp2
  rw [rounds_succ]
  go_wp2
  rw [rounds_succ]
  go_wp2
  rw [rounds_succ]
  go_wp2
  rw [rounds_succ]
  go_wp2
  go_ret
  exact ⟨rfl, rfl⟩
theorem part_0 (b : Nat) (w : World) (_hb : b < 18446744073709551616) : Calls Tryd.prog 18 #[.int .u64 (b : Int), .int .i64 1] w fun e w' => e = .returned (.tuple #[.int .i64 0, .bool true]) ∧ w = w' := by
  go_enter Tryd.func18, Tryd.ntmps18
  go_wp2_with (go_at_call 29; refine (log_0 _).mono ?_; rintro e w' ⟨rfl, rfl⟩)
  go_ret2
  exact ⟨rfl, rfl⟩
theorem partR_0 (b : Nat) (w : World) (hb : b < 18446744073709551616) : Calls Tryd.prog 26 #[.int .u64 (b : Int), .int .i64 1] w fun e w' => e = .returned (.tuple #[.int .i64 0, .bool true]) ∧ w = w' := by
  go_enter Tryd.func26, Tryd.ntmps26
  go_wp2_with (go_at_call 32; refine (shift_0 _).mono ?_; rintro e w' ⟨rfl, rfl⟩)
  go_ret2
  exact ⟨ret_t2 (by omega), rfl⟩
theorem start_0 (x : Nat) (w : World) (hx : x < 1) : Calls Tryd.prog 27 #[.int .i64 (x : Int), .int .i64 1] w fun e w' => e = .returned (.tuple #[.int .u64 0, .bool true]) ∧ w = w' := by
  obtain rfl : x = 0 := by omega
  go_enter Tryd.func27, Tryd.ntmps27
  go_wp2_with (go_at_call 29; refine (log_0 _).mono ?_; rintro e w' ⟨rfl, rfl⟩)
  go_ret2
  exact ⟨rfl, rfl⟩
theorem startR_0 (x : Nat) (w : World) (hx : x < 1) : Calls Tryd.prog 28 #[.int .i64 (x : Int), .int .i64 1] w fun e w' => e = .returned (.tuple #[.int .u64 0, .bool true]) ∧ w = w' := by
  obtain rfl : x = 0 := by omega
  go_enter Tryd.func28, Tryd.ntmps28
  go_wp2_with (go_at_call 32; refine (shift_0 _).mono ?_; rintro e w' ⟨rfl, rfl⟩)
  go_ret2
  exact ⟨rfl, rfl⟩
theorem start_out_0 (x : Int) (w : World) (hx : x < 0 ∨ 1 ≤ x) : Calls Tryd.prog 27 #[.int .i64 x, .int .i64 1] w fun e w' => e = .returned (.tuple #[.int .u64 0, .bool false]) ∧ w = w' := by
  have h0 : (x == 0) = false := beq_eq_false_iff_ne.2 (by omega)
  rcases hx with h | h
  · go_enter Tryd.func27, Tryd.ntmps27
    go_wp2_with (go_at_call 29; refine (log_0 _).mono ?_; rintro e w' ⟨rfl, rfl⟩)
    go_ret2
    exact ⟨rfl, rfl⟩
  · go_enter Tryd.func27, Tryd.ntmps27
    go_wp2_with (go_at_call 29; refine (log_0 _).mono ?_; rintro e w' ⟨rfl, rfl⟩)
    go_ret2
    exact ⟨rfl, rfl⟩

theorem startR_out_0 (x : Int) (w : World) (hx : x < 0 ∨ 1 ≤ x) : Calls Tryd.prog 28 #[.int .i64 x, .int .i64 1] w fun e w' => e = .returned (.tuple #[.int .u64 0, .bool false]) ∧ w = w' := by
  have h0 : (x == 0) = false := beq_eq_false_iff_ne.2 (by omega)
  rcases hx with h | h
  · go_enter Tryd.func28, Tryd.ntmps28
    go_wp2_with (go_at_call 32; refine (shift_0 _).mono ?_; rintro e w' ⟨rfl, rfl⟩)
    go_ret2
    exact ⟨rfl, rfl⟩
  · go_enter Tryd.func28, Tryd.ntmps28
    go_wp2_with (go_at_call 32; refine (shift_0 _).mono ?_; rintro e w' ⟨rfl, rfl⟩)
    go_ret2
    exact ⟨rfl, rfl⟩

theorem part_1 (b : Nat) (w : World) (hb : b < 18446744073709551616) : Calls Tryd.prog 18 #[.int .u64 (b : Int), .int .i64 2] w fun e w' => e = .returned (.tuple #[.int .i64 ((b : Int) / 9223372036854775808), .bool true]) ∧ w = w' := by
  go_enter Tryd.func18, Tryd.ntmps18
  go_wp2_with (go_at_call 29; refine (log_1 _).mono ?_; rintro e w' ⟨rfl, rfl⟩)
  go_ret2
  exact ⟨rfl, rfl⟩
theorem partR_1 (b : Nat) (w : World) (hb : b < 18446744073709551616) : Calls Tryd.prog 26 #[.int .u64 (b : Int), .int .i64 2] w fun e w' => e = .returned (.tuple #[.int .i64 ((b : Int) / 9223372036854775808), .bool true]) ∧ w = w' := by
  go_enter Tryd.func26, Tryd.ntmps26
  go_wp2_with (go_at_call 32; refine (shift_1 _).mono ?_; rintro e w' ⟨rfl, rfl⟩)
  go_ret2
  exact ⟨rfl, rfl⟩
theorem start_1 (x : Nat) (w : World) (hx : x < 2) : Calls Tryd.prog 27 #[.int .i64 (x : Int), .int .i64 2] w fun e w' => e = .returned (.tuple #[.int .u64 ((x : Int) * 9223372036854775808), .bool true]) ∧ w = w' := by
  go_enter Tryd.func27, Tryd.ntmps27
  go_wp2_with (go_at_call 29; refine (log_1 _).mono ?_; rintro e w' ⟨rfl, rfl⟩)
  go_ret2
  exact ⟨rfl, rfl⟩
theorem startR_1 (x : Nat) (w : World) (hx : x < 2) : Calls Tryd.prog 28 #[.int .i64 (x : Int), .int .i64 2] w fun e w' => e = .returned (.tuple #[.int .u64 ((x : Int) * 9223372036854775808), .bool true]) ∧ w = w' := by
  go_enter Tryd.func28, Tryd.ntmps28
  go_wp2_with (go_at_call 32; refine (shift_1 _).mono ?_; rintro e w' ⟨rfl, rfl⟩)
  go_ret2
  exact ⟨rfl, rfl⟩
theorem start_out_1 (x : Int) (w : World) (hx : x < 0 ∨ 2 ≤ x) : Calls Tryd.prog 27 #[.int .i64 x, .int .i64 2] w fun e w' => e = .returned (.tuple #[.int .u64 0, .bool false]) ∧ w = w' := by
  have h0 : (x == 0) = false := beq_eq_false_iff_ne.2 (by omega)
  rcases hx with h | h
  · go_enter Tryd.func27, Tryd.ntmps27
    go_wp2_with (go_at_call 29; refine (log_1 _).mono ?_; rintro e w' ⟨rfl, rfl⟩)
    go_ret2
    exact ⟨rfl, rfl⟩
  · go_enter Tryd.func27, Tryd.ntmps27
    go_wp2_with (go_at_call 29; refine (log_1 _).mono ?_; rintro e w' ⟨rfl, rfl⟩)
    go_ret2
    exact ⟨rfl, rfl⟩

theorem startR_out_1 (x : Int) (w : World) (hx : x < 0 ∨ 2 ≤ x) : Calls Tryd.prog 28 #[.int .i64 x, .int .i64 2] w fun e w' => e = .returned (.tuple #[.int .u64 0, .bool false]) ∧ w = w' := by
  have h0 : (x == 0) = false := beq_eq_false_iff_ne.2 (by omega)
  rcases hx with h | h
  · go_enter Tryd.func28, Tryd.ntmps28
    go_wp2_with (go_at_call 32; refine (shift_1 _).mono ?_; rintro e w' ⟨rfl, rfl⟩)
    go_ret2
    exact ⟨rfl, rfl⟩
  · go_enter Tryd.func28, Tryd.ntmps28
    go_wp2_with (go_at_call 32; refine (shift_1 _).mono ?_; rintro e w' ⟨rfl, rfl⟩)
    go_ret2
    exact ⟨rfl, rfl⟩

theorem part_2 (b : Nat) (w : World) (hb : b < 18446744073709551616) : Calls Tryd.prog 18 #[.int .u64 (b : Int), .int .i64 4] w fun e w' => e = .returned (.tuple #[.int .i64 ((b : Int) / 4611686018427387904), .bool true]) ∧ w = w' := by
  go_enter Tryd.func18, Tryd.ntmps18
  go_wp2_with (go_at_call 29; refine (log_2 _).mono ?_; rintro e w' ⟨rfl, rfl⟩)
  go_ret2
  exact ⟨rfl, rfl⟩
theorem partR_2 (b : Nat) (w : World) (hb : b < 18446744073709551616) : Calls Tryd.prog 26 #[.int .u64 (b : Int), .int .i64 4] w fun e w' => e = .returned (.tuple #[.int .i64 ((b : Int) / 4611686018427387904), .bool true]) ∧ w = w' := by
  go_enter Tryd.func26, Tryd.ntmps26
  go_wp2_with (go_at_call 32; refine (shift_2 _).mono ?_; rintro e w' ⟨rfl, rfl⟩)
  go_ret2
  exact ⟨rfl, rfl⟩
theorem start_2 (x : Nat) (w : World) (hx : x < 4) : Calls Tryd.prog 27 #[.int .i64 (x : Int), .int .i64 4] w fun e w' => e = .returned (.tuple #[.int .u64 ((x : Int) * 4611686018427387904), .bool true]) ∧ w = w' := by
  go_enter Tryd.func27, Tryd.ntmps27
  go_wp2_with (go_at_call 29; refine (log_2 _).mono ?_; rintro e w' ⟨rfl, rfl⟩)
  go_ret2
  exact ⟨rfl, rfl⟩
theorem startR_2 (x : Nat) (w : World) (hx : x < 4) : Calls Tryd.prog 28 #[.int .i64 (x : Int), .int .i64 4] w fun e w' => e = .returned (.tuple #[.int .u64 ((x : Int) * 4611686018427387904), .bool true]) ∧ w = w' := by
  go_enter Tryd.func28, Tryd.ntmps28
  go_wp2_with (go_at_call 32; refine (shift_2 _).mono ?_; rintro e w' ⟨rfl, rfl⟩)
  go_ret2
  exact ⟨rfl, rfl⟩
theorem start_out_2 (x : Int) (w : World) (hx : x < 0 ∨ 4 ≤ x) : Calls Tryd.prog 27 #[.int .i64 x, .int .i64 4] w fun e w' => e = .returned (.tuple #[.int .u64 0, .bool false]) ∧ w = w' := by
  have h0 : (x == 0) = false := beq_eq_false_iff_ne.2 (by omega)
  rcases hx with h | h
  · go_enter Tryd.func27, Tryd.ntmps27
    go_wp2_with (go_at_call 29; refine (log_2 _).mono ?_; rintro e w' ⟨rfl, rfl⟩)
    go_ret2
    exact ⟨rfl, rfl⟩
  · go_enter Tryd.func27, Tryd.ntmps27
    go_wp2_with (go_at_call 29; refine (log_2 _).mono ?_; rintro e w' ⟨rfl, rfl⟩)
    go_ret2
    exact ⟨rfl, rfl⟩

theorem startR_out_2 (x : Int) (w : World) (hx : x < 0 ∨ 4 ≤ x) : Calls Tryd.prog 28 #[.int .i64 x, .int .i64 4] w fun e w' => e = .returned (.tuple #[.int .u64 0, .bool false]) ∧ w = w' := by
  have h0 : (x == 0) = false := beq_eq_false_iff_ne.2 (by omega)
  rcases hx with h | h
  · go_enter Tryd.func28, Tryd.ntmps28
    go_wp2_with (go_at_call 32; refine (shift_2 _).mono ?_; rintro e w' ⟨rfl, rfl⟩)
    go_ret2
    exact ⟨rfl, rfl⟩
  · go_enter Tryd.func28, Tryd.ntmps28
    go_wp2_with (go_at_call 32; refine (shift_2 _).mono ?_; rintro e w' ⟨rfl, rfl⟩)
    go_ret2
    exact ⟨rfl, rfl⟩

theorem part_3 (b : Nat) (w : World) (hb : b < 18446744073709551616) : Calls Tryd.prog 18 #[.int .u64 (b : Int), .int .i64 8] w fun e w' => e = .returned (.tuple #[.int .i64 ((b : Int) / 2305843009213693952), .bool true]) ∧ w = w' := by
  go_enter Tryd.func18, Tryd.ntmps18
  go_wp2_with (go_at_call 29; refine (log_3 _).mono ?_; rintro e w' ⟨rfl, rfl⟩)
  go_ret2
  exact ⟨rfl, rfl⟩
theorem partR_3 (b : Nat) (w : World) (hb : b < 18446744073709551616) : Calls Tryd.prog 26 #[.int .u64 (b : Int), .int .i64 8] w fun e w' => e = .returned (.tuple #[.int .i64 ((b : Int) / 2305843009213693952), .bool true]) ∧ w = w' := by
  go_enter Tryd.func26, Tryd.ntmps26
  go_wp2_with (go_at_call 32; refine (shift_3 _).mono ?_; rintro e w' ⟨rfl, rfl⟩)
  go_ret2
  exact ⟨rfl, rfl⟩
theorem start_3 (x : Nat) (w : World) (hx : x < 8) : Calls Tryd.prog 27 #[.int .i64 (x : Int), .int .i64 8] w fun e w' => e = .returned (.tuple #[.int .u64 ((x : Int) * 2305843009213693952), .bool true]) ∧ w = w' := by
  go_enter Tryd.func27, Tryd.ntmps27
  go_wp2_with (go_at_call 29; refine (log_3 _).mono ?_; rintro e w' ⟨rfl, rfl⟩)
  go_ret2
  exact ⟨rfl, rfl⟩
theorem startR_3 (x : Nat) (w : World) (hx : x < 8) : Calls Tryd.prog 28 #[.int .i64 (x : Int), .int .i64 8] w fun e w' => e = .returned (.tuple #[.int .u64 ((x : Int) * 2305843009213693952), .bool true]) ∧ w = w' := by
  go_enter Tryd.func28, Tryd.ntmps28
  go_wp2_with (go_at_call 32; refine (shift_3 _).mono ?_; rintro e w' ⟨rfl, rfl⟩)
  go_ret2
  exact ⟨rfl, rfl⟩
theorem start_out_3 (x : Int) (w : World) (hx : x < 0 ∨ 8 ≤ x) : Calls Tryd.prog 27 #[.int .i64 x, .int .i64 8] w fun e w' => e = .returned (.tuple #[.int .u64 0, .bool false]) ∧ w = w' := by
  have h0 : (x == 0) = false := beq_eq_false_iff_ne.2 (by omega)
  rcases hx with h | h
  · go_enter Tryd.func27, Tryd.ntmps27
    go_wp2_with (go_at_call 29; refine (log_3 _).mono ?_; rintro e w' ⟨rfl, rfl⟩)
    go_ret2
    exact ⟨rfl, rfl⟩
  · go_enter Tryd.func27, Tryd.ntmps27
    go_wp2_with (go_at_call 29; refine (log_3 _).mono ?_; rintro e w' ⟨rfl, rfl⟩)
    go_ret2
    exact ⟨rfl, rfl⟩

theorem startR_out_3 (x : Int) (w : World) (hx : x < 0 ∨ 8 ≤ x) : Calls Tryd.prog 28 #[.int .i64 x, .int .i64 8] w fun e w' => e = .returned (.tuple #[.int .u64 0, .bool false]) ∧ w = w' := by
  have h0 : (x == 0) = false := beq_eq_false_iff_ne.2 (by omega)
  rcases hx with h | h
  · go_enter Tryd.func28, Tryd.ntmps28
    go_wp2_with (go_at_call 32; refine (shift_3 _).mono ?_; rintro e w' ⟨rfl, rfl⟩)
    go_ret2
    exact ⟨rfl, rfl⟩
  · go_enter Tryd.func28, Tryd.ntmps28
    go_wp2_with (go_at_call 32; refine (shift_3 _).mono ?_; rintro e w' ⟨rfl, rfl⟩)
    go_ret2
    exact ⟨rfl, rfl⟩

theorem part_4 (b : Nat) (w : World) (hb : b < 18446744073709551616) : Calls Tryd.prog 18 #[.int .u64 (b : Int), .int .i64 16] w fun e w' => e = .returned (.tuple #[.int .i64 ((b : Int) / 1152921504606846976), .bool true]) ∧ w = w' := by
  go_enter Tryd.func18, Tryd.ntmps18
  go_wp2_with (go_at_call 29; refine (log_4 _).mono ?_; rintro e w' ⟨rfl, rfl⟩)
  go_ret2
  exact ⟨rfl, rfl⟩
theorem partR_4 (b : Nat) (w : World) (hb : b < 18446744073709551616) : Calls Tryd.prog 26 #[.int .u64 (b : Int), .int .i64 16] w fun e w' => e = .returned (.tuple #[.int .i64 ((b : Int) / 1152921504606846976), .bool true]) ∧ w = w' := by
  go_enter Tryd.func26, Tryd.ntmps26
  go_wp2_with (go_at_call 32; refine (shift_4 _).mono ?_; rintro e w' ⟨rfl, rfl⟩)
  go_ret2
  exact ⟨rfl, rfl⟩
theorem start_4 (x : Nat) (w : World) (hx : x < 16) : Calls Tryd.prog 27 #[.int .i64 (x : Int), .int .i64 16] w fun e w' => e = .returned (.tuple #[.int .u64 ((x : Int) * 1152921504606846976), .bool true]) ∧ w = w' := by
  go_enter Tryd.func27, Tryd.ntmps27
  go_wp2_with (go_at_call 29; refine (log_4 _).mono ?_; rintro e w' ⟨rfl, rfl⟩)
  go_ret2
  exact ⟨rfl, rfl⟩
theorem startR_4 (x : Nat) (w : World) (hx : x < 16) : Calls Tryd.prog 28 #[.int .i64 (x : Int), .int .i64 16] w fun e w' => e = .returned (.tuple #[.int .u64 ((x : Int) * 1152921504606846976), .bool true]) ∧ w = w' := by
  go_enter Tryd.func28, Tryd.ntmps28
  go_wp2_with (go_at_call 32; refine (shift_4 _).mono ?_; rintro e w' ⟨rfl, rfl⟩)
  go_ret2
  exact ⟨rfl, rfl⟩
theorem start_out_4 (x : Int) (w : World) (hx : x < 0 ∨ 16 ≤ x) : Calls Tryd.prog 27 #[.int .i64 x, .int .i64 16] w fun e w' => e = .returned (.tuple #[.int .u64 0, .bool false]) ∧ w = w' := by
  have h0 : (x == 0) = false := beq_eq_false_iff_ne.2 (by omega)
  rcases hx with h | h
  · go_enter Tryd.func27, Tryd.ntmps27
    go_wp2_with (go_at_call 29; refine (log_4 _).mono ?_; rintro e w' ⟨rfl, rfl⟩)
    go_ret2
    exact ⟨rfl, rfl⟩
  · go_enter Tryd.func27, Tryd.ntmps27
    go_wp2_with (go_at_call 29; refine (log_4 _).mono ?_; rintro e w' ⟨rfl, rfl⟩)
    go_ret2
    exact ⟨rfl, rfl⟩

theorem startR_out_4 (x : Int) (w : World) (hx : x < 0 ∨ 16 ≤ x) : Calls Tryd.prog 28 #[.int .i64 x, .int .i64 16] w fun e w' => e = .returned (.tuple #[.int .u64 0, .bool false]) ∧ w = w' := by
  have h0 : (x == 0) = false := beq_eq_false_iff_ne.2 (by omega)
  rcases hx with h | h
  · go_enter Tryd.func28, Tryd.ntmps28
    go_wp2_with (go_at_call 32; refine (shift_4 _).mono ?_; rintro e w' ⟨rfl, rfl⟩)
    go_ret2
    exact ⟨rfl, rfl⟩
  · go_enter Tryd.func28, Tryd.ntmps28
    go_wp2_with (go_at_call 32; refine (shift_4 _).mono ?_; rintro e w' ⟨rfl, rfl⟩)
    go_ret2
    exact ⟨rfl, rfl⟩

theorem part_5 (b : Nat) (w : World) (hb : b < 18446744073709551616) : Calls Tryd.prog 18 #[.int .u64 (b : Int), .int .i64 32] w fun e w' => e = .returned (.tuple #[.int .i64 ((b : Int) / 576460752303423488), .bool true]) ∧ w = w' := by
  go_enter Tryd.func18, Tryd.ntmps18
  go_wp2_with (go_at_call 29; refine (log_5 _).mono ?_; rintro e w' ⟨rfl, rfl⟩)
  go_ret2
  exact ⟨rfl, rfl⟩
theorem partR_5 (b : Nat) (w : World) (hb : b < 18446744073709551616) : Calls Tryd.prog 26 #[.int .u64 (b : Int), .int .i64 32] w fun e w' => e = .returned (.tuple #[.int .i64 ((b : Int) / 576460752303423488), .bool true]) ∧ w = w' := by
  go_enter Tryd.func26, Tryd.ntmps26
  go_wp2_with (go_at_call 32; refine (shift_5 _).mono ?_; rintro e w' ⟨rfl, rfl⟩)
  go_ret2
  exact ⟨rfl, rfl⟩
theorem start_5 (x : Nat) (w : World) (hx : x < 32) : Calls Tryd.prog 27 #[.int .i64 (x : Int), .int .i64 32] w fun e w' => e = .returned (.tuple #[.int .u64 ((x : Int) * 576460752303423488), .bool true]) ∧ w = w' := by
  go_enter Tryd.func27, Tryd.ntmps27
  go_wp2_with (go_at_call 29; refine (log_5 _).mono ?_; rintro e w' ⟨rfl, rfl⟩)
  go_ret2
  exact ⟨rfl, rfl⟩
theorem startR_5 (x : Nat) (w : World) (hx : x < 32) : Calls Tryd.prog 28 #[.int .i64 (x : Int), .int .i64 32] w fun e w' => e = .returned (.tuple #[.int .u64 ((x : Int) * 576460752303423488), .bool true]) ∧ w = w' := by
  go_enter Tryd.func28, Tryd.ntmps28
  go_wp2_with (go_at_call 32; refine (shift_5 _).mono ?_; rintro e w' ⟨rfl, rfl⟩)
  go_ret2
  exact ⟨rfl, rfl⟩
theorem start_out_5 (x : Int) (w : World) (hx : x < 0 ∨ 32 ≤ x) : Calls Tryd.prog 27 #[.int .i64 x, .int .i64 32] w fun e w' => e = .returned (.tuple #[.int .u64 0, .bool false]) ∧ w = w' := by
  have h0 : (x == 0) = false := beq_eq_false_iff_ne.2 (by omega)
  rcases hx with h | h
  · go_enter Tryd.func27, Tryd.ntmps27
    go_wp2_with (go_at_call 29; refine (log_5 _).mono ?_; rintro e w' ⟨rfl, rfl⟩)
    go_ret2
    exact ⟨rfl, rfl⟩
  · go_enter Tryd.func27, Tryd.ntmps27
    go_wp2_with (go_at_call 29; refine (log_5 _).mono ?_; rintro e w' ⟨rfl, rfl⟩)
    go_ret2
    exact ⟨rfl, rfl⟩

theorem startR_out_5 (x : Int) (w : World) (hx : x < 0 ∨ 32 ≤ x) : Calls Tryd.prog 28 #[.int .i64 x, .int .i64 32] w fun e w' => e = .returned (.tuple #[.int .u64 0, .bool false]) ∧ w = w' := by
  have h0 : (x == 0) = false := beq_eq_false_iff_ne.2 (by omega)
  rcases hx with h | h
  · go_enter Tryd.func28, Tryd.ntmps28
    go_wp2_with (go_at_call 32; refine (shift_5 _).mono ?_; rintro e w' ⟨rfl, rfl⟩)
    go_ret2
    exact ⟨rfl, rfl⟩
  · go_enter Tryd.func28, Tryd.ntmps28
    go_wp2_with (go_at_call 32; refine (shift_5 _).mono ?_; rintro e w' ⟨rfl, rfl⟩)
    go_ret2
    exact ⟨rfl, rfl⟩

theorem part_6 (b : Nat) (w : World) (hb : b < 18446744073709551616) : Calls Tryd.prog 18 #[.int .u64 (b : Int), .int .i64 64] w fun e w' => e = .returned (.tuple #[.int .i64 ((b : Int) / 288230376151711744), .bool true]) ∧ w = w' := by
  go_enter Tryd.func18, Tryd.ntmps18
  go_wp2_with (go_at_call 29; refine (log_6 _).mono ?_; rintro e w' ⟨rfl, rfl⟩)
  go_ret2
  exact ⟨rfl, rfl⟩
theorem partR_6 (b : Nat) (w : World) (hb : b < 18446744073709551616) : Calls Tryd.prog 26 #[.int .u64 (b : Int), .int .i64 64] w fun e w' => e = .returned (.tuple #[.int .i64 ((b : Int) / 288230376151711744), .bool true]) ∧ w = w' := by
  go_enter Tryd.func26, Tryd.ntmps26
  go_wp2_with (go_at_call 32; refine (shift_6 _).mono ?_; rintro e w' ⟨rfl, rfl⟩)
  go_ret2
  exact ⟨rfl, rfl⟩
theorem start_6 (x : Nat) (w : World) (hx : x < 64) : Calls Tryd.prog 27 #[.int .i64 (x : Int), .int .i64 64] w fun e w' => e = .returned (.tuple #[.int .u64 ((x : Int) * 288230376151711744), .bool true]) ∧ w = w' := by
  go_enter Tryd.func27, Tryd.ntmps27
  go_wp2_with (go_at_call 29; refine (log_6 _).mono ?_; rintro e w' ⟨rfl, rfl⟩)
  go_ret2
  exact ⟨rfl, rfl⟩
theorem startR_6 (x : Nat) (w : World) (hx : x < 64) : Calls Tryd.prog 28 #[.int .i64 (x : Int), .int .i64 64] w fun e w' => e = .returned (.tuple #[.int .u64 ((x : Int) * 288230376151711744), .bool true]) ∧ w = w' := by
  go_enter Tryd.func28, Tryd.ntmps28
  go_wp2_with (go_at_call 32; refine (shift_6 _).mono ?_; rintro e w' ⟨rfl, rfl⟩)
  go_ret2
  exact ⟨rfl, rfl⟩
theorem start_out_6 (x : Int) (w : World) (hx : x < 0 ∨ 64 ≤ x) : Calls Tryd.prog 27 #[.int .i64 x, .int .i64 64] w fun e w' => e = .returned (.tuple #[.int .u64 0, .bool false]) ∧ w = w' := by
  have h0 : (x == 0) = false := beq_eq_false_iff_ne.2 (by omega)
  rcases hx with h | h
  · go_enter Tryd.func27, Tryd.ntmps27
    go_wp2_with (go_at_call 29; refine (log_6 _).mono ?_; rintro e w' ⟨rfl, rfl⟩)
    go_ret2
    exact ⟨rfl, rfl⟩
  · go_enter Tryd.func27, Tryd.ntmps27
    go_wp2_with (go_at_call 29; refine (log_6 _).mono ?_; rintro e w' ⟨rfl, rfl⟩)
    go_ret2
    exact ⟨rfl, rfl⟩

theorem startR_out_6 (x : Int) (w : World) (hx : x < 0 ∨ 64 ≤ x) : Calls Tryd.prog 28 #[.int .i64 x, .int .i64 64] w fun e w' => e = .returned (.tuple #[.int .u64 0, .bool false]) ∧ w = w' := by
  have h0 : (x == 0) = false := beq_eq_false_iff_ne.2 (by omega)
  rcases hx with h | h
  · go_enter Tryd.func28, Tryd.ntmps28
    go_wp2_with (go_at_call 32; refine (shift_6 _).mono ?_; rintro e w' ⟨rfl, rfl⟩)
    go_ret2
    exact ⟨rfl, rfl⟩
  · go_enter Tryd.func28, Tryd.ntmps28
    go_wp2_with (go_at_call 32; refine (shift_6 _).mono ?_; rintro e w' ⟨rfl, rfl⟩)
    go_ret2
    exact ⟨rfl, rfl⟩

theorem part_no (b : Nat) (p : Int) (w : World) (hp : p ≠ 1 ∧ p ≠ 2 ∧ p ≠ 4 ∧ p ≠ 8 ∧ p ≠ 16 ∧ p ≠ 32 ∧ p ≠ 64) : Calls Tryd.prog 18 #[.int .u64 (b : Int), .int .i64 p] w fun e w' => e = .returned (.tuple #[.int .i64 0, .bool false]) ∧ w = w' := by
  have Hp := Lib.hid hp
  clear hp
  go_enter Tryd.func18, Tryd.ntmps18
  go_wp2_with (go_at_call 29; refine (log_no _ _ Hp.out).mono ?_; rintro e w' ⟨rfl, rfl⟩)
  go_ret2
  exact ⟨rfl, rfl⟩
theorem partR_no (b : Nat) (p : Int) (w : World) (hp : p ≠ 1 ∧ p ≠ 2 ∧ p ≠ 4 ∧ p ≠ 8 ∧ p ≠ 16 ∧ p ≠ 32 ∧ p ≠ 64) : Calls Tryd.prog 26 #[.int .u64 (b : Int), .int .i64 p] w fun e w' => e = .returned (.tuple #[.int .i64 0, .bool false]) ∧ w = w' := by
  have Hp := Lib.hid hp
  clear hp
  go_enter Tryd.func26, Tryd.ntmps26
  go_wp2_with (go_at_call 32; refine (shift_no _ _ Hp.out).mono ?_; rintro e w' ⟨rfl, rfl⟩)
  go_ret2
  exact ⟨rfl, rfl⟩
theorem start_no (x p : Int) (w : World) (hp : p ≠ 1 ∧ p ≠ 2 ∧ p ≠ 4 ∧ p ≠ 8 ∧ p ≠ 16 ∧ p ≠ 32 ∧ p ≠ 64) : Calls Tryd.prog 27 #[.int .i64 x, .int .i64 p] w fun e w' => e = .returned (.tuple #[.int .u64 0, .bool false]) ∧ w = w' := by
  have Hp := Lib.hid hp
  clear hp
  go_enter Tryd.func27, Tryd.ntmps27
  go_wp2_with (go_at_call 29; refine (log_no _ _ Hp.out).mono ?_; rintro e w' ⟨rfl, rfl⟩)
  go_ret2
  exact ⟨rfl, rfl⟩
theorem startR_no (x p : Int) (w : World) (hp : p ≠ 1 ∧ p ≠ 2 ∧ p ≠ 4 ∧ p ≠ 8 ∧ p ≠ 16 ∧ p ≠ 32 ∧ p ≠ 64) : Calls Tryd.prog 28 #[.int .i64 x, .int .i64 p] w fun e w' => e = .returned (.tuple #[.int .u64 0, .bool false]) ∧ w = w' := by
  have Hp := Lib.hid hp
  clear hp
  go_enter Tryd.func28, Tryd.ntmps28
  go_wp2_with (go_at_call 32; refine (shift_no _ _ Hp.out).mono ?_; rintro e w' ⟨rfl, rfl⟩)
  go_ret2
  exact ⟨rfl, rfl⟩
end Go.Proofs.YtikaikleibfkeaaDoor
