/- IdentParts: Partition and Start are the document's: the walks. Written by program. -/
import Derived.Test.YtikaikleibfkeaaDoorPart
import Derived.Test.YtikaikleibfkeaaDoorAwake
namespace Go.Proofs.YtikaikleibfkeaaDoor
open Go.RowKit Go.Idn

theorem parts_in_0 (b x : Nat) (w : World) (hb : b < 18446744073709551616) (hx : x < 1) (hn : Names w) : Calls Tryd.prog 7 #[.int .u64 (b : Int), .int .i64 (x : Int), .int .i64 1] w (RetB (.bool true) w) := by
  have Hn := Lib.hid hn
  clear hn
  go_enter Tryd.func7, Tryd.ntmps7
  go_wp2_with fail
  refine (part_0 b _ hb).mono ?_
  rintro e w' ⟨rfl, rfl⟩
  go_wp2_with fail
  refine (partR_0 b _ hb).mono ?_
  rintro e w' ⟨rfl, rfl⟩
  go_wp2_with fail
  refine (start_0 x _ hx).mono ?_
  rintro e w' ⟨rfl, rfl⟩
  go_wp2_with fail
  refine (startR_0 x _ hx).mono ?_
  rintro e w' ⟨rfl, rfl⟩
  go_wp2_with fail
  refine (awake_any _ Hn.out).mono ?_
  rintro e w1 ⟨rfl, hb1⟩
  have Hb1 := Lib.hid hb1
  clear hb1
  go_wp2
  go_ret
  exact ⟨rfl, Hb1.out⟩

theorem parts_out_0 (b : Nat) (x : Int) (w : World) (hb : b < 18446744073709551616) (hx : x < 0 ∨ 1 ≤ x) (hn : Names w) : Calls Tryd.prog 7 #[.int .u64 (b : Int), .int .i64 x, .int .i64 1] w (RetB (.bool true) w) := by
  have Hx := Lib.hid hx
  clear hx
  have Hn := Lib.hid hn
  clear hn
  go_enter Tryd.func7, Tryd.ntmps7
  go_wp2_with fail
  refine (part_0 b _ hb).mono ?_
  rintro e w' ⟨rfl, rfl⟩
  go_wp2_with fail
  refine (partR_0 b _ hb).mono ?_
  rintro e w' ⟨rfl, rfl⟩
  go_wp2_with fail
  refine (start_out_0 x _ Hx.out).mono ?_
  rintro e w' ⟨rfl, rfl⟩
  go_wp2_with fail
  refine (startR_out_0 x _ Hx.out).mono ?_
  rintro e w' ⟨rfl, rfl⟩
  go_wp2_with fail
  refine (awake_any _ Hn.out).mono ?_
  rintro e w1 ⟨rfl, hb1⟩
  have Hb1 := Lib.hid hb1
  clear hb1
  go_wp2
  go_ret
  exact ⟨rfl, Hb1.out⟩

theorem parts_0 (b : Nat) (x : Int) (w : World) (hb : b < 18446744073709551616) (hn : Names w) : Calls Tryd.prog 7 #[.int .u64 (b : Int), .int .i64 x, .int .i64 1] w (RetB (.bool true) w) := by
  by_cases h : x < 0 ∨ 1 ≤ x
  · exact parts_out_0 b x w hb h hn
  · obtain ⟨y, rfl⟩ := Int.eq_ofNat_of_zero_le (show 0 ≤ x by omega)
    exact parts_in_0 b y w hb (by omega) hn
theorem parts_in_1 (b x : Nat) (w : World) (hb : b < 18446744073709551616) (hx : x < 2) (hn : Names w) : Calls Tryd.prog 7 #[.int .u64 (b : Int), .int .i64 (x : Int), .int .i64 2] w (RetB (.bool true) w) := by
  have Hn := Lib.hid hn
  clear hn
  go_enter Tryd.func7, Tryd.ntmps7
  go_wp2_with fail
  refine (part_1 b _ hb).mono ?_
  rintro e w' ⟨rfl, rfl⟩
  go_wp2_with fail
  refine (partR_1 b _ hb).mono ?_
  rintro e w' ⟨rfl, rfl⟩
  go_wp2_with fail
  refine (start_1 x _ hx).mono ?_
  rintro e w' ⟨rfl, rfl⟩
  go_wp2_with fail
  refine (startR_1 x _ hx).mono ?_
  rintro e w' ⟨rfl, rfl⟩
  go_wp2_with fail
  refine (awake_any _ Hn.out).mono ?_
  rintro e w1 ⟨rfl, hb1⟩
  have Hb1 := Lib.hid hb1
  clear hb1
  go_wp2
  go_ret
  exact ⟨rfl, Hb1.out⟩

theorem parts_out_1 (b : Nat) (x : Int) (w : World) (hb : b < 18446744073709551616) (hx : x < 0 ∨ 2 ≤ x) (hn : Names w) : Calls Tryd.prog 7 #[.int .u64 (b : Int), .int .i64 x, .int .i64 2] w (RetB (.bool true) w) := by
  have Hx := Lib.hid hx
  clear hx
  have Hn := Lib.hid hn
  clear hn
  go_enter Tryd.func7, Tryd.ntmps7
  go_wp2_with fail
  refine (part_1 b _ hb).mono ?_
  rintro e w' ⟨rfl, rfl⟩
  go_wp2_with fail
  refine (partR_1 b _ hb).mono ?_
  rintro e w' ⟨rfl, rfl⟩
  go_wp2_with fail
  refine (start_out_1 x _ Hx.out).mono ?_
  rintro e w' ⟨rfl, rfl⟩
  go_wp2_with fail
  refine (startR_out_1 x _ Hx.out).mono ?_
  rintro e w' ⟨rfl, rfl⟩
  go_wp2_with fail
  refine (awake_any _ Hn.out).mono ?_
  rintro e w1 ⟨rfl, hb1⟩
  have Hb1 := Lib.hid hb1
  clear hb1
  go_wp2
  go_ret
  exact ⟨rfl, Hb1.out⟩

theorem parts_1 (b : Nat) (x : Int) (w : World) (hb : b < 18446744073709551616) (hn : Names w) : Calls Tryd.prog 7 #[.int .u64 (b : Int), .int .i64 x, .int .i64 2] w (RetB (.bool true) w) := by
  by_cases h : x < 0 ∨ 2 ≤ x
  · exact parts_out_1 b x w hb h hn
  · obtain ⟨y, rfl⟩ := Int.eq_ofNat_of_zero_le (show 0 ≤ x by omega)
    exact parts_in_1 b y w hb (by omega) hn
theorem parts_in_2 (b x : Nat) (w : World) (hb : b < 18446744073709551616) (hx : x < 4) (hn : Names w) : Calls Tryd.prog 7 #[.int .u64 (b : Int), .int .i64 (x : Int), .int .i64 4] w (RetB (.bool true) w) := by
  have Hn := Lib.hid hn
  clear hn
  go_enter Tryd.func7, Tryd.ntmps7
  go_wp2_with fail
  refine (part_2 b _ hb).mono ?_
  rintro e w' ⟨rfl, rfl⟩
  go_wp2_with fail
  refine (partR_2 b _ hb).mono ?_
  rintro e w' ⟨rfl, rfl⟩
  go_wp2_with fail
  refine (start_2 x _ hx).mono ?_
  rintro e w' ⟨rfl, rfl⟩
  go_wp2_with fail
  refine (startR_2 x _ hx).mono ?_
  rintro e w' ⟨rfl, rfl⟩
  go_wp2_with fail
  refine (awake_any _ Hn.out).mono ?_
  rintro e w1 ⟨rfl, hb1⟩
  have Hb1 := Lib.hid hb1
  clear hb1
  go_wp2
  go_ret
  exact ⟨rfl, Hb1.out⟩

theorem parts_out_2 (b : Nat) (x : Int) (w : World) (hb : b < 18446744073709551616) (hx : x < 0 ∨ 4 ≤ x) (hn : Names w) : Calls Tryd.prog 7 #[.int .u64 (b : Int), .int .i64 x, .int .i64 4] w (RetB (.bool true) w) := by
  have Hx := Lib.hid hx
  clear hx
  have Hn := Lib.hid hn
  clear hn
  go_enter Tryd.func7, Tryd.ntmps7
  go_wp2_with fail
  refine (part_2 b _ hb).mono ?_
  rintro e w' ⟨rfl, rfl⟩
  go_wp2_with fail
  refine (partR_2 b _ hb).mono ?_
  rintro e w' ⟨rfl, rfl⟩
  go_wp2_with fail
  refine (start_out_2 x _ Hx.out).mono ?_
  rintro e w' ⟨rfl, rfl⟩
  go_wp2_with fail
  refine (startR_out_2 x _ Hx.out).mono ?_
  rintro e w' ⟨rfl, rfl⟩
  go_wp2_with fail
  refine (awake_any _ Hn.out).mono ?_
  rintro e w1 ⟨rfl, hb1⟩
  have Hb1 := Lib.hid hb1
  clear hb1
  go_wp2
  go_ret
  exact ⟨rfl, Hb1.out⟩

theorem parts_2 (b : Nat) (x : Int) (w : World) (hb : b < 18446744073709551616) (hn : Names w) : Calls Tryd.prog 7 #[.int .u64 (b : Int), .int .i64 x, .int .i64 4] w (RetB (.bool true) w) := by
  by_cases h : x < 0 ∨ 4 ≤ x
  · exact parts_out_2 b x w hb h hn
  · obtain ⟨y, rfl⟩ := Int.eq_ofNat_of_zero_le (show 0 ≤ x by omega)
    exact parts_in_2 b y w hb (by omega) hn
theorem parts_in_3 (b x : Nat) (w : World) (hb : b < 18446744073709551616) (hx : x < 8) (hn : Names w) : Calls Tryd.prog 7 #[.int .u64 (b : Int), .int .i64 (x : Int), .int .i64 8] w (RetB (.bool true) w) := by
  have Hn := Lib.hid hn
  clear hn
  go_enter Tryd.func7, Tryd.ntmps7
  go_wp2_with fail
  refine (part_3 b _ hb).mono ?_
  rintro e w' ⟨rfl, rfl⟩
  go_wp2_with fail
  refine (partR_3 b _ hb).mono ?_
  rintro e w' ⟨rfl, rfl⟩
  go_wp2_with fail
  refine (start_3 x _ hx).mono ?_
  rintro e w' ⟨rfl, rfl⟩
  go_wp2_with fail
  refine (startR_3 x _ hx).mono ?_
  rintro e w' ⟨rfl, rfl⟩
  go_wp2_with fail
  refine (awake_any _ Hn.out).mono ?_
  rintro e w1 ⟨rfl, hb1⟩
  have Hb1 := Lib.hid hb1
  clear hb1
  go_wp2
  go_ret
  exact ⟨rfl, Hb1.out⟩

theorem parts_out_3 (b : Nat) (x : Int) (w : World) (hb : b < 18446744073709551616) (hx : x < 0 ∨ 8 ≤ x) (hn : Names w) : Calls Tryd.prog 7 #[.int .u64 (b : Int), .int .i64 x, .int .i64 8] w (RetB (.bool true) w) := by
  have Hx := Lib.hid hx
  clear hx
  have Hn := Lib.hid hn
  clear hn
  go_enter Tryd.func7, Tryd.ntmps7
  go_wp2_with fail
  refine (part_3 b _ hb).mono ?_
  rintro e w' ⟨rfl, rfl⟩
  go_wp2_with fail
  refine (partR_3 b _ hb).mono ?_
  rintro e w' ⟨rfl, rfl⟩
  go_wp2_with fail
  refine (start_out_3 x _ Hx.out).mono ?_
  rintro e w' ⟨rfl, rfl⟩
  go_wp2_with fail
  refine (startR_out_3 x _ Hx.out).mono ?_
  rintro e w' ⟨rfl, rfl⟩
  go_wp2_with fail
  refine (awake_any _ Hn.out).mono ?_
  rintro e w1 ⟨rfl, hb1⟩
  have Hb1 := Lib.hid hb1
  clear hb1
  go_wp2
  go_ret
  exact ⟨rfl, Hb1.out⟩

theorem parts_3 (b : Nat) (x : Int) (w : World) (hb : b < 18446744073709551616) (hn : Names w) : Calls Tryd.prog 7 #[.int .u64 (b : Int), .int .i64 x, .int .i64 8] w (RetB (.bool true) w) := by
  by_cases h : x < 0 ∨ 8 ≤ x
  · exact parts_out_3 b x w hb h hn
  · obtain ⟨y, rfl⟩ := Int.eq_ofNat_of_zero_le (show 0 ≤ x by omega)
    exact parts_in_3 b y w hb (by omega) hn
theorem parts_in_4 (b x : Nat) (w : World) (hb : b < 18446744073709551616) (hx : x < 16) (hn : Names w) : Calls Tryd.prog 7 #[.int .u64 (b : Int), .int .i64 (x : Int), .int .i64 16] w (RetB (.bool true) w) := by
  have Hn := Lib.hid hn
  clear hn
  go_enter Tryd.func7, Tryd.ntmps7
  go_wp2_with fail
  refine (part_4 b _ hb).mono ?_
  rintro e w' ⟨rfl, rfl⟩
  go_wp2_with fail
  refine (partR_4 b _ hb).mono ?_
  rintro e w' ⟨rfl, rfl⟩
  go_wp2_with fail
  refine (start_4 x _ hx).mono ?_
  rintro e w' ⟨rfl, rfl⟩
  go_wp2_with fail
  refine (startR_4 x _ hx).mono ?_
  rintro e w' ⟨rfl, rfl⟩
  go_wp2_with fail
  refine (awake_any _ Hn.out).mono ?_
  rintro e w1 ⟨rfl, hb1⟩
  have Hb1 := Lib.hid hb1
  clear hb1
  go_wp2
  go_ret
  exact ⟨rfl, Hb1.out⟩

theorem parts_out_4 (b : Nat) (x : Int) (w : World) (hb : b < 18446744073709551616) (hx : x < 0 ∨ 16 ≤ x) (hn : Names w) : Calls Tryd.prog 7 #[.int .u64 (b : Int), .int .i64 x, .int .i64 16] w (RetB (.bool true) w) := by
  have Hx := Lib.hid hx
  clear hx
  have Hn := Lib.hid hn
  clear hn
  go_enter Tryd.func7, Tryd.ntmps7
  go_wp2_with fail
  refine (part_4 b _ hb).mono ?_
  rintro e w' ⟨rfl, rfl⟩
  go_wp2_with fail
  refine (partR_4 b _ hb).mono ?_
  rintro e w' ⟨rfl, rfl⟩
  go_wp2_with fail
  refine (start_out_4 x _ Hx.out).mono ?_
  rintro e w' ⟨rfl, rfl⟩
  go_wp2_with fail
  refine (startR_out_4 x _ Hx.out).mono ?_
  rintro e w' ⟨rfl, rfl⟩
  go_wp2_with fail
  refine (awake_any _ Hn.out).mono ?_
  rintro e w1 ⟨rfl, hb1⟩
  have Hb1 := Lib.hid hb1
  clear hb1
  go_wp2
  go_ret
  exact ⟨rfl, Hb1.out⟩

theorem parts_4 (b : Nat) (x : Int) (w : World) (hb : b < 18446744073709551616) (hn : Names w) : Calls Tryd.prog 7 #[.int .u64 (b : Int), .int .i64 x, .int .i64 16] w (RetB (.bool true) w) := by
  by_cases h : x < 0 ∨ 16 ≤ x
  · exact parts_out_4 b x w hb h hn
  · obtain ⟨y, rfl⟩ := Int.eq_ofNat_of_zero_le (show 0 ≤ x by omega)
    exact parts_in_4 b y w hb (by omega) hn
theorem parts_in_5 (b x : Nat) (w : World) (hb : b < 18446744073709551616) (hx : x < 32) (hn : Names w) : Calls Tryd.prog 7 #[.int .u64 (b : Int), .int .i64 (x : Int), .int .i64 32] w (RetB (.bool true) w) := by
  have Hn := Lib.hid hn
  clear hn
  go_enter Tryd.func7, Tryd.ntmps7
  go_wp2_with fail
  refine (part_5 b _ hb).mono ?_
  rintro e w' ⟨rfl, rfl⟩
  go_wp2_with fail
  refine (partR_5 b _ hb).mono ?_
  rintro e w' ⟨rfl, rfl⟩
  go_wp2_with fail
  refine (start_5 x _ hx).mono ?_
  rintro e w' ⟨rfl, rfl⟩
  go_wp2_with fail
  refine (startR_5 x _ hx).mono ?_
  rintro e w' ⟨rfl, rfl⟩
  go_wp2_with fail
  refine (awake_any _ Hn.out).mono ?_
  rintro e w1 ⟨rfl, hb1⟩
  have Hb1 := Lib.hid hb1
  clear hb1
  go_wp2
  go_ret
  exact ⟨rfl, Hb1.out⟩

theorem parts_out_5 (b : Nat) (x : Int) (w : World) (hb : b < 18446744073709551616) (hx : x < 0 ∨ 32 ≤ x) (hn : Names w) : Calls Tryd.prog 7 #[.int .u64 (b : Int), .int .i64 x, .int .i64 32] w (RetB (.bool true) w) := by
  have Hx := Lib.hid hx
  clear hx
  have Hn := Lib.hid hn
  clear hn
  go_enter Tryd.func7, Tryd.ntmps7
  go_wp2_with fail
  refine (part_5 b _ hb).mono ?_
  rintro e w' ⟨rfl, rfl⟩
  go_wp2_with fail
  refine (partR_5 b _ hb).mono ?_
  rintro e w' ⟨rfl, rfl⟩
  go_wp2_with fail
  refine (start_out_5 x _ Hx.out).mono ?_
  rintro e w' ⟨rfl, rfl⟩
  go_wp2_with fail
  refine (startR_out_5 x _ Hx.out).mono ?_
  rintro e w' ⟨rfl, rfl⟩
  go_wp2_with fail
  refine (awake_any _ Hn.out).mono ?_
  rintro e w1 ⟨rfl, hb1⟩
  have Hb1 := Lib.hid hb1
  clear hb1
  go_wp2
  go_ret
  exact ⟨rfl, Hb1.out⟩

theorem parts_5 (b : Nat) (x : Int) (w : World) (hb : b < 18446744073709551616) (hn : Names w) : Calls Tryd.prog 7 #[.int .u64 (b : Int), .int .i64 x, .int .i64 32] w (RetB (.bool true) w) := by
  by_cases h : x < 0 ∨ 32 ≤ x
  · exact parts_out_5 b x w hb h hn
  · obtain ⟨y, rfl⟩ := Int.eq_ofNat_of_zero_le (show 0 ≤ x by omega)
    exact parts_in_5 b y w hb (by omega) hn
theorem parts_in_6 (b x : Nat) (w : World) (hb : b < 18446744073709551616) (hx : x < 64) (hn : Names w) : Calls Tryd.prog 7 #[.int .u64 (b : Int), .int .i64 (x : Int), .int .i64 64] w (RetB (.bool true) w) := by
  have Hn := Lib.hid hn
  clear hn
  go_enter Tryd.func7, Tryd.ntmps7
  go_wp2_with fail
  refine (part_6 b _ hb).mono ?_
  rintro e w' ⟨rfl, rfl⟩
  go_wp2_with fail
  refine (partR_6 b _ hb).mono ?_
  rintro e w' ⟨rfl, rfl⟩
  go_wp2_with fail
  refine (start_6 x _ hx).mono ?_
  rintro e w' ⟨rfl, rfl⟩
  go_wp2_with fail
  refine (startR_6 x _ hx).mono ?_
  rintro e w' ⟨rfl, rfl⟩
  go_wp2_with fail
  refine (awake_any _ Hn.out).mono ?_
  rintro e w1 ⟨rfl, hb1⟩
  have Hb1 := Lib.hid hb1
  clear hb1
  go_wp2
  go_ret
  exact ⟨rfl, Hb1.out⟩

theorem parts_out_6 (b : Nat) (x : Int) (w : World) (hb : b < 18446744073709551616) (hx : x < 0 ∨ 64 ≤ x) (hn : Names w) : Calls Tryd.prog 7 #[.int .u64 (b : Int), .int .i64 x, .int .i64 64] w (RetB (.bool true) w) := by
  have Hx := Lib.hid hx
  clear hx
  have Hn := Lib.hid hn
  clear hn
  go_enter Tryd.func7, Tryd.ntmps7
  go_wp2_with fail
  refine (part_6 b _ hb).mono ?_
  rintro e w' ⟨rfl, rfl⟩
  go_wp2_with fail
  refine (partR_6 b _ hb).mono ?_
  rintro e w' ⟨rfl, rfl⟩
  go_wp2_with fail
  refine (start_out_6 x _ Hx.out).mono ?_
  rintro e w' ⟨rfl, rfl⟩
  go_wp2_with fail
  refine (startR_out_6 x _ Hx.out).mono ?_
  rintro e w' ⟨rfl, rfl⟩
  go_wp2_with fail
  refine (awake_any _ Hn.out).mono ?_
  rintro e w1 ⟨rfl, hb1⟩
  have Hb1 := Lib.hid hb1
  clear hb1
  go_wp2
  go_ret
  exact ⟨rfl, Hb1.out⟩

theorem parts_6 (b : Nat) (x : Int) (w : World) (hb : b < 18446744073709551616) (hn : Names w) : Calls Tryd.prog 7 #[.int .u64 (b : Int), .int .i64 x, .int .i64 64] w (RetB (.bool true) w) := by
  by_cases h : x < 0 ∨ 64 ≤ x
  · exact parts_out_6 b x w hb h hn
  · obtain ⟨y, rfl⟩ := Int.eq_ofNat_of_zero_le (show 0 ≤ x by omega)
    exact parts_in_6 b y w hb (by omega) hn
theorem parts_no (b : Nat) (x p : Int) (w : World) (hp : p ≠ 1 ∧ p ≠ 2 ∧ p ≠ 4 ∧ p ≠ 8 ∧ p ≠ 16 ∧ p ≠ 32 ∧ p ≠ 64) (hn : Names w) : Calls Tryd.prog 7 #[.int .u64 (b : Int), .int .i64 x, .int .i64 p] w (RetB (.bool true) w) := by
  have Hp := Lib.hid hp
  clear hp
  have Hn := Lib.hid hn
  clear hn
  go_enter Tryd.func7, Tryd.ntmps7
  go_wp2_with fail
  refine (part_no b p _ Hp.out).mono ?_
  rintro e w' ⟨rfl, rfl⟩
  go_wp2_with fail
  refine (partR_no b p _ Hp.out).mono ?_
  rintro e w' ⟨rfl, rfl⟩
  go_wp2_with fail
  refine (start_no x p _ Hp.out).mono ?_
  rintro e w' ⟨rfl, rfl⟩
  go_wp2_with fail
  refine (startR_no x p _ Hp.out).mono ?_
  rintro e w' ⟨rfl, rfl⟩
  go_wp2_with fail
  refine (awake_any _ Hn.out).mono ?_
  rintro e w1 ⟨rfl, hb1⟩
  have Hb1 := Lib.hid hb1
  clear hb1
  go_wp2
  go_ret
  exact ⟨rfl, Hb1.out⟩

theorem parts_any (b : Nat) (x p : Int) (w : World) (hb : b < 18446744073709551616) (hn : Names w) : Calls Tryd.prog 7 #[.int .u64 (b : Int), .int .i64 x, .int .i64 p] w (RetB (.bool true) w) := by
  by_cases h : p = 1
  · subst h; exact parts_0 b x w hb hn
  by_cases h : p = 2
  · subst h; exact parts_1 b x w hb hn
  by_cases h : p = 4
  · subst h; exact parts_2 b x w hb hn
  by_cases h : p = 8
  · subst h; exact parts_3 b x w hb hn
  by_cases h : p = 16
  · subst h; exact parts_4 b x w hb hn
  by_cases h : p = 32
  · subst h; exact parts_5 b x w hb hn
  by_cases h : p = 64
  · subst h; exact parts_6 b x w hb hn
  exact parts_no b x p w ⟨by assumption, by assumption, by assumption, by assumption, by assumption, by assumption, by assumption⟩ hn

end Go.Proofs.YtikaikleibfkeaaDoor
