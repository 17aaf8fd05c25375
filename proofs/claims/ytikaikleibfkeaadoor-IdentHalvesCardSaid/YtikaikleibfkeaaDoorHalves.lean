/- IdentHalves: with half as many parts a position's partition is half of it: the walks. Written by program. -/
import Derived.Test.YtikaikleibfkeaaDoorPart
import Derived.Test.YtikaikleibfkeaaDoorAwake
namespace Go.Proofs.YtikaikleibfkeaaDoor
open Go.RowKit Go.Idn

theorem halves_0 (b : Nat) (w : World) (hb : b < 18446744073709551616) (hn : Names w) : Calls Tryd.prog 5 #[.int .u64 (b : Int), .int .i64 1] w (RetB (.bool true) w) := by
  have Hn := Lib.hid hn
  clear hn
  go_enter Tryd.func5, Tryd.ntmps5
  go_wp2_with fail
  refine (part_0 b _ hb).mono ?_
  rintro e w' ⟨rfl, rfl⟩
  go_wp2_with fail
  refine (awake_any _ Hn.out).mono ?_
  rintro e w1 ⟨rfl, hb1⟩
  have Hb1 := Lib.hid hb1
  clear hb1
  go_wp2
  go_ret
  exact ⟨rfl, Hb1.out⟩

theorem halves_1 (b : Nat) (w : World) (hb : b < 18446744073709551616) (hn : Names w) : Calls Tryd.prog 5 #[.int .u64 (b : Int), .int .i64 2] w (RetB (.bool true) w) := by
  have hq : ((0 : Int) == (b : Int) / 9223372036854775808 / 2) = true := beq_iff_eq.2 (by omega)
  have Hn := Lib.hid hn
  clear hn
  go_enter Tryd.func5, Tryd.ntmps5
  go_wp2_with fail
  refine (part_1 b _ hb).mono ?_
  rintro e w' ⟨rfl, rfl⟩
  go_wp2_with fail
  refine (part_0 b _ hb).mono ?_
  rintro e w' ⟨rfl, rfl⟩
  go_wp2_with fail
  refine (awake_any _ Hn.out).mono ?_
  rintro e w1 ⟨rfl, hb1⟩
  have Hb1 := Lib.hid hb1
  clear hb1
  go_wp2
  go_ret
  exact ⟨rfl, Hb1.out⟩

theorem halves_2 (b : Nat) (w : World) (hb : b < 18446744073709551616) (hn : Names w) : Calls Tryd.prog 5 #[.int .u64 (b : Int), .int .i64 4] w (RetB (.bool true) w) := by
  have hq : (((b : Int) / 9223372036854775808) == (b : Int) / 4611686018427387904 / 2) = true := beq_iff_eq.2 (by omega)
  have Hn := Lib.hid hn
  clear hn
  go_enter Tryd.func5, Tryd.ntmps5
  go_wp2_with fail
  refine (part_2 b _ hb).mono ?_
  rintro e w' ⟨rfl, rfl⟩
  go_wp2_with fail
  refine (part_1 b _ hb).mono ?_
  rintro e w' ⟨rfl, rfl⟩
  go_wp2_with fail
  refine (awake_any _ Hn.out).mono ?_
  rintro e w1 ⟨rfl, hb1⟩
  have Hb1 := Lib.hid hb1
  clear hb1
  go_wp2
  go_ret
  exact ⟨rfl, Hb1.out⟩

theorem halves_3 (b : Nat) (w : World) (hb : b < 18446744073709551616) (hn : Names w) : Calls Tryd.prog 5 #[.int .u64 (b : Int), .int .i64 8] w (RetB (.bool true) w) := by
  have hq : (((b : Int) / 4611686018427387904) == (b : Int) / 2305843009213693952 / 2) = true := beq_iff_eq.2 (by omega)
  have Hn := Lib.hid hn
  clear hn
  go_enter Tryd.func5, Tryd.ntmps5
  go_wp2_with fail
  refine (part_3 b _ hb).mono ?_
  rintro e w' ⟨rfl, rfl⟩
  go_wp2_with fail
  refine (part_2 b _ hb).mono ?_
  rintro e w' ⟨rfl, rfl⟩
  go_wp2_with fail
  refine (awake_any _ Hn.out).mono ?_
  rintro e w1 ⟨rfl, hb1⟩
  have Hb1 := Lib.hid hb1
  clear hb1
  go_wp2
  go_ret
  exact ⟨rfl, Hb1.out⟩

theorem halves_4 (b : Nat) (w : World) (hb : b < 18446744073709551616) (hn : Names w) : Calls Tryd.prog 5 #[.int .u64 (b : Int), .int .i64 16] w (RetB (.bool true) w) := by
  have hq : (((b : Int) / 2305843009213693952) == (b : Int) / 1152921504606846976 / 2) = true := beq_iff_eq.2 (by omega)
  have Hn := Lib.hid hn
  clear hn
  go_enter Tryd.func5, Tryd.ntmps5
  go_wp2_with fail
  refine (part_4 b _ hb).mono ?_
  rintro e w' ⟨rfl, rfl⟩
  go_wp2_with fail
  refine (part_3 b _ hb).mono ?_
  rintro e w' ⟨rfl, rfl⟩
  go_wp2_with fail
  refine (awake_any _ Hn.out).mono ?_
  rintro e w1 ⟨rfl, hb1⟩
  have Hb1 := Lib.hid hb1
  clear hb1
  go_wp2
  go_ret
  exact ⟨rfl, Hb1.out⟩

theorem halves_5 (b : Nat) (w : World) (hb : b < 18446744073709551616) (hn : Names w) : Calls Tryd.prog 5 #[.int .u64 (b : Int), .int .i64 32] w (RetB (.bool true) w) := by
  have hq : (((b : Int) / 1152921504606846976) == (b : Int) / 576460752303423488 / 2) = true := beq_iff_eq.2 (by omega)
  have Hn := Lib.hid hn
  clear hn
  go_enter Tryd.func5, Tryd.ntmps5
  go_wp2_with fail
  refine (part_5 b _ hb).mono ?_
  rintro e w' ⟨rfl, rfl⟩
  go_wp2_with fail
  refine (part_4 b _ hb).mono ?_
  rintro e w' ⟨rfl, rfl⟩
  go_wp2_with fail
  refine (awake_any _ Hn.out).mono ?_
  rintro e w1 ⟨rfl, hb1⟩
  have Hb1 := Lib.hid hb1
  clear hb1
  go_wp2
  go_ret
  exact ⟨rfl, Hb1.out⟩

theorem halves_6 (b : Nat) (w : World) (hb : b < 18446744073709551616) (hn : Names w) : Calls Tryd.prog 5 #[.int .u64 (b : Int), .int .i64 64] w (RetB (.bool true) w) := by
  have hq : (((b : Int) / 576460752303423488) == (b : Int) / 288230376151711744 / 2) = true := beq_iff_eq.2 (by omega)
  have Hn := Lib.hid hn
  clear hn
  go_enter Tryd.func5, Tryd.ntmps5
  go_wp2_with fail
  refine (part_6 b _ hb).mono ?_
  rintro e w' ⟨rfl, rfl⟩
  go_wp2_with fail
  refine (part_5 b _ hb).mono ?_
  rintro e w' ⟨rfl, rfl⟩
  go_wp2_with fail
  refine (awake_any _ Hn.out).mono ?_
  rintro e w1 ⟨rfl, hb1⟩
  have Hb1 := Lib.hid hb1
  clear hb1
  go_wp2
  go_ret
  exact ⟨rfl, Hb1.out⟩

theorem halves_no (b : Nat) (p : Int) (w : World) (hp : p ≠ 1 ∧ p ≠ 2 ∧ p ≠ 4 ∧ p ≠ 8 ∧ p ≠ 16 ∧ p ≠ 32 ∧ p ≠ 64) (hn : Names w) : Calls Tryd.prog 5 #[.int .u64 (b : Int), .int .i64 p] w (RetB (.bool true) w) := by
  have Hn := Lib.hid hn
  have Hp := Lib.hid hp
  clear hn hp
  go_enter Tryd.func5, Tryd.ntmps5
  go_wp2_with fail
  refine (part_no b p _ Hp.out).mono ?_
  rintro e w' ⟨rfl, rfl⟩
  go_wp2_with fail
  refine (awake_any _ Hn.out).mono ?_
  rintro e w1 ⟨rfl, hb1⟩
  have Hb1 := Lib.hid hb1
  clear hb1
  go_wp2
  go_ret
  exact ⟨rfl, Hb1.out⟩

theorem halves_any (b : Nat) (p : Int) (w : World) (hb : b < 18446744073709551616) (hn : Names w) : Calls Tryd.prog 5 #[.int .u64 (b : Int), .int .i64 p] w (RetB (.bool true) w) := by
  by_cases h : p = 1
  · subst h; exact halves_0 b w hb hn
  by_cases h : p = 2
  · subst h; exact halves_1 b w hb hn
  by_cases h : p = 4
  · subst h; exact halves_2 b w hb hn
  by_cases h : p = 8
  · subst h; exact halves_3 b w hb hn
  by_cases h : p = 16
  · subst h; exact halves_4 b w hb hn
  by_cases h : p = 32
  · subst h; exact halves_5 b w hb hn
  by_cases h : p = 64
  · subst h; exact halves_6 b w hb hn
  exact halves_no b p w ⟨by assumption, by assumption, by assumption, by assumption, by assumption, by assumption, by assumption⟩ hn

end Go.Proofs.YtikaikleibfkeaaDoor
