/- IdentBeside: a position lies in its partition's stretch: the walks. Written by program. -/
import Derived.Test.YtikaikleibfkeaaDoorPart
import Derived.Test.YtikaikleibfkeaaDoorAwake
namespace Go.Proofs.YtikaikleibfkeaaDoor
open Go.RowKit Go.Idn

theorem divI {b x D : Nat} (h1 : x * D ≤ b) (h2 : b < (x + 1) * D) : (b : Int) / (D : Int) = (x : Int) := by
  rw [← Int.natCast_ediv, Nat.div_eq_of_lt_le h1 h2]
theorem lt_top {b x D p : Nat} (h2 : b < (x + 1) * D) (hx : x < p) (h : p * D ≤ 18446744073709551616) : b < 18446744073709551616 :=
  Nat.lt_of_lt_of_le h2 (Nat.le_trans (Nat.mul_le_mul_right D hx) h)
theorem beside_0 (b : Nat) (w : World) (hb : b < 18446744073709551616) (hn : Names w) : Calls Tryd.prog 8 #[.int .u64 (b : Int), .int .i64 1] w (RetB (.bool true) w) := by
  have Hn := Lib.hid hn
  clear hn
  go_enter Tryd.func8, Tryd.ntmps8
  go_wp2_with fail
  refine (part_0 b _ hb).mono ?_
  rintro e w' ⟨rfl, rfl⟩
  go_wp2_with fail
  refine (start_0 0 _ (by decide)).mono ?_
  rintro e w' ⟨rfl, rfl⟩
  go_wp2_with fail
  refine (start_out_0 1 _ (by decide)).mono ?_
  rintro e w' ⟨rfl, rfl⟩
  go_wp2_with fail
  refine (awake_any _ Hn.out).mono ?_
  rintro e w1 ⟨rfl, hb1⟩
  have Hb1 := Lib.hid hb1
  clear hb1
  go_wp2
  go_ret
  exact ⟨rfl, Hb1.out⟩

theorem part'_1 (b x : Nat) (w : World) (h1 : x * 9223372036854775808 ≤ b) (h2 : b < (x + 1) * 9223372036854775808) (hx : x < 2) : Calls Tryd.prog 18 #[.int .u64 (b : Int), .int .i64 2] w fun e w' => e = .returned (.tuple #[.int .i64 (x : Int), .bool true]) ∧ w = w' := by
  have h := part_1 b w (lt_top h2 hx (by decide))
  have e : (b : Int) / 9223372036854775808 = (x : Int) := by simpa only [Int.cast_ofNat_Int] using divI h1 h2
  rwa [e] at h
theorem beside_mid_1 (b x : Nat) (w : World) (h1 : x * 9223372036854775808 ≤ b) (h2 : b < (x + 1) * 9223372036854775808) (hx : x + 1 < 2) (hn : Names w) : Calls Tryd.prog 8 #[.int .u64 (b : Int), .int .i64 2] w (RetB (.bool true) w) := by
  have Hn := Lib.hid hn
  clear hn
  obtain ⟨f, ef⟩ : ∃ f : Int, (x : Int) * 9223372036854775808 = f := ⟨_, rfl⟩
  have hf : f ≤ (b : Int) := by rw [← ef]; omega
  obtain ⟨t, et⟩ : ∃ t : Int, ((x + 1 : Nat) : Int) * 9223372036854775808 = t := ⟨_, rfl⟩
  have ht : (b : Int) < t := by rw [← et]; omega
  have Ht := Lib.hid et
  have hd : decide ((x : Int) + 1 < 2) = true := decide_eq_true (by omega)
  have Hx := Lib.hid hx
  clear et
  have H1 := Lib.hid h1
  have H2 := Lib.hid h2
  have H3 : Hid (x < 2) := Lib.hid (by omega)
  have Hf := Lib.hid ef
  have hx1 : (x : Int) + 1 ≤ 2 := by omega
  clear h1 h2 ef hx
  go_enter Tryd.func8, Tryd.ntmps8
  go_wp2_with fail
  refine (part'_1 b x _ H1.out H2.out H3.out).mono ?_
  rintro e w' ⟨rfl, rfl⟩
  go_wp2_with fail
  refine (start_1 x _ H3.out).mono ?_
  rw [Hf.out]
  rintro e w' ⟨rfl, rfl⟩
  go_wp2_with fail
  refine (start_1 (x + 1) _ Hx.out).mono ?_
  rw [Ht.out]
  rintro e w' ⟨rfl, rfl⟩
  go_wp2_with fail
  refine (awake_any _ Hn.out).mono ?_
  rintro e w1 ⟨rfl, hb1⟩
  have Hb1 := Lib.hid hb1
  clear hb1
  go_wp2
  go_ret
  exact ⟨rfl, Hb1.out⟩

theorem beside_end_1 (b x : Nat) (w : World) (h1 : x * 9223372036854775808 ≤ b) (h2 : b < (x + 1) * 9223372036854775808) (hx : x + 1 = 2) (hn : Names w) : Calls Tryd.prog 8 #[.int .u64 (b : Int), .int .i64 2] w (RetB (.bool true) w) := by
  have Hn := Lib.hid hn
  clear hn
  obtain ⟨f, ef⟩ : ∃ f : Int, (x : Int) * 9223372036854775808 = f := ⟨_, rfl⟩
  have hf : f ≤ (b : Int) := by rw [← ef]; omega
  have hd : decide ((x : Int) + 1 < 2) = false := decide_eq_false (by omega)
  have Hx2 : Hid ((x : Int) + 1 < 0 ∨ 2 ≤ (x : Int) + 1) := Lib.hid (by omega)
  have h0 : (0 : Int) ≤ x := by omega
  have H1 := Lib.hid h1
  have H2 := Lib.hid h2
  have H3 : Hid (x < 2) := Lib.hid (by omega)
  have Hf := Lib.hid ef
  have hx1 : (x : Int) + 1 ≤ 2 := by omega
  clear h1 h2 ef hx
  go_enter Tryd.func8, Tryd.ntmps8
  go_wp2_with fail
  refine (part'_1 b x _ H1.out H2.out H3.out).mono ?_
  rintro e w' ⟨rfl, rfl⟩
  go_wp2_with fail
  refine (start_1 x _ H3.out).mono ?_
  rw [Hf.out]
  rintro e w' ⟨rfl, rfl⟩
  go_wp2_with fail
  refine (start_out_1 ((x : Int) + 1) _ Hx2.out).mono ?_
  rintro e w' ⟨rfl, rfl⟩
  go_wp2_with fail
  refine (awake_any _ Hn.out).mono ?_
  rintro e w1 ⟨rfl, hb1⟩
  have Hb1 := Lib.hid hb1
  clear hb1
  go_wp2
  go_ret
  exact ⟨rfl, Hb1.out⟩

theorem beside_1 (b : Nat) (w : World) (hb : b < 18446744073709551616) (hn : Names w) : Calls Tryd.prog 8 #[.int .u64 (b : Int), .int .i64 2] w (RetB (.bool true) w) := by
  by_cases h : b / 9223372036854775808 + 1 < 2
  · exact beside_mid_1 b (b / 9223372036854775808) w (by omega) (by omega) h hn
  · exact beside_end_1 b (b / 9223372036854775808) w (by omega) (by omega) (by omega) hn
theorem part'_2 (b x : Nat) (w : World) (h1 : x * 4611686018427387904 ≤ b) (h2 : b < (x + 1) * 4611686018427387904) (hx : x < 4) : Calls Tryd.prog 18 #[.int .u64 (b : Int), .int .i64 4] w fun e w' => e = .returned (.tuple #[.int .i64 (x : Int), .bool true]) ∧ w = w' := by
  have h := part_2 b w (lt_top h2 hx (by decide))
  have e : (b : Int) / 4611686018427387904 = (x : Int) := by simpa only [Int.cast_ofNat_Int] using divI h1 h2
  rwa [e] at h
theorem beside_mid_2 (b x : Nat) (w : World) (h1 : x * 4611686018427387904 ≤ b) (h2 : b < (x + 1) * 4611686018427387904) (hx : x + 1 < 4) (hn : Names w) : Calls Tryd.prog 8 #[.int .u64 (b : Int), .int .i64 4] w (RetB (.bool true) w) := by
  have Hn := Lib.hid hn
  clear hn
  obtain ⟨f, ef⟩ : ∃ f : Int, (x : Int) * 4611686018427387904 = f := ⟨_, rfl⟩
  have hf : f ≤ (b : Int) := by rw [← ef]; omega
  obtain ⟨t, et⟩ : ∃ t : Int, ((x + 1 : Nat) : Int) * 4611686018427387904 = t := ⟨_, rfl⟩
  have ht : (b : Int) < t := by rw [← et]; omega
  have Ht := Lib.hid et
  have hd : decide ((x : Int) + 1 < 4) = true := decide_eq_true (by omega)
  have Hx := Lib.hid hx
  clear et
  have H1 := Lib.hid h1
  have H2 := Lib.hid h2
  have H3 : Hid (x < 4) := Lib.hid (by omega)
  have Hf := Lib.hid ef
  have hx1 : (x : Int) + 1 ≤ 4 := by omega
  clear h1 h2 ef hx
  go_enter Tryd.func8, Tryd.ntmps8
  go_wp2_with fail
  refine (part'_2 b x _ H1.out H2.out H3.out).mono ?_
  rintro e w' ⟨rfl, rfl⟩
  go_wp2_with fail
  refine (start_2 x _ H3.out).mono ?_
  rw [Hf.out]
  rintro e w' ⟨rfl, rfl⟩
  go_wp2_with fail
  refine (start_2 (x + 1) _ Hx.out).mono ?_
  rw [Ht.out]
  rintro e w' ⟨rfl, rfl⟩
  go_wp2_with fail
  refine (awake_any _ Hn.out).mono ?_
  rintro e w1 ⟨rfl, hb1⟩
  have Hb1 := Lib.hid hb1
  clear hb1
  go_wp2
  go_ret
  exact ⟨rfl, Hb1.out⟩

theorem beside_end_2 (b x : Nat) (w : World) (h1 : x * 4611686018427387904 ≤ b) (h2 : b < (x + 1) * 4611686018427387904) (hx : x + 1 = 4) (hn : Names w) : Calls Tryd.prog 8 #[.int .u64 (b : Int), .int .i64 4] w (RetB (.bool true) w) := by
  have Hn := Lib.hid hn
  clear hn
  obtain ⟨f, ef⟩ : ∃ f : Int, (x : Int) * 4611686018427387904 = f := ⟨_, rfl⟩
  have hf : f ≤ (b : Int) := by rw [← ef]; omega
  have hd : decide ((x : Int) + 1 < 4) = false := decide_eq_false (by omega)
  have Hx2 : Hid ((x : Int) + 1 < 0 ∨ 4 ≤ (x : Int) + 1) := Lib.hid (by omega)
  have h0 : (0 : Int) ≤ x := by omega
  have H1 := Lib.hid h1
  have H2 := Lib.hid h2
  have H3 : Hid (x < 4) := Lib.hid (by omega)
  have Hf := Lib.hid ef
  have hx1 : (x : Int) + 1 ≤ 4 := by omega
  clear h1 h2 ef hx
  go_enter Tryd.func8, Tryd.ntmps8
  go_wp2_with fail
  refine (part'_2 b x _ H1.out H2.out H3.out).mono ?_
  rintro e w' ⟨rfl, rfl⟩
  go_wp2_with fail
  refine (start_2 x _ H3.out).mono ?_
  rw [Hf.out]
  rintro e w' ⟨rfl, rfl⟩
  go_wp2_with fail
  refine (start_out_2 ((x : Int) + 1) _ Hx2.out).mono ?_
  rintro e w' ⟨rfl, rfl⟩
  go_wp2_with fail
  refine (awake_any _ Hn.out).mono ?_
  rintro e w1 ⟨rfl, hb1⟩
  have Hb1 := Lib.hid hb1
  clear hb1
  go_wp2
  go_ret
  exact ⟨rfl, Hb1.out⟩

theorem beside_2 (b : Nat) (w : World) (hb : b < 18446744073709551616) (hn : Names w) : Calls Tryd.prog 8 #[.int .u64 (b : Int), .int .i64 4] w (RetB (.bool true) w) := by
  by_cases h : b / 4611686018427387904 + 1 < 4
  · exact beside_mid_2 b (b / 4611686018427387904) w (by omega) (by omega) h hn
  · exact beside_end_2 b (b / 4611686018427387904) w (by omega) (by omega) (by omega) hn
theorem part'_3 (b x : Nat) (w : World) (h1 : x * 2305843009213693952 ≤ b) (h2 : b < (x + 1) * 2305843009213693952) (hx : x < 8) : Calls Tryd.prog 18 #[.int .u64 (b : Int), .int .i64 8] w fun e w' => e = .returned (.tuple #[.int .i64 (x : Int), .bool true]) ∧ w = w' := by
  have h := part_3 b w (lt_top h2 hx (by decide))
  have e : (b : Int) / 2305843009213693952 = (x : Int) := by simpa only [Int.cast_ofNat_Int] using divI h1 h2
  rwa [e] at h
theorem beside_mid_3 (b x : Nat) (w : World) (h1 : x * 2305843009213693952 ≤ b) (h2 : b < (x + 1) * 2305843009213693952) (hx : x + 1 < 8) (hn : Names w) : Calls Tryd.prog 8 #[.int .u64 (b : Int), .int .i64 8] w (RetB (.bool true) w) := by
  have Hn := Lib.hid hn
  clear hn
  obtain ⟨f, ef⟩ : ∃ f : Int, (x : Int) * 2305843009213693952 = f := ⟨_, rfl⟩
  have hf : f ≤ (b : Int) := by rw [← ef]; omega
  obtain ⟨t, et⟩ : ∃ t : Int, ((x + 1 : Nat) : Int) * 2305843009213693952 = t := ⟨_, rfl⟩
  have ht : (b : Int) < t := by rw [← et]; omega
  have Ht := Lib.hid et
  have hd : decide ((x : Int) + 1 < 8) = true := decide_eq_true (by omega)
  have Hx := Lib.hid hx
  clear et
  have H1 := Lib.hid h1
  have H2 := Lib.hid h2
  have H3 : Hid (x < 8) := Lib.hid (by omega)
  have Hf := Lib.hid ef
  have hx1 : (x : Int) + 1 ≤ 8 := by omega
  clear h1 h2 ef hx
  go_enter Tryd.func8, Tryd.ntmps8
  go_wp2_with fail
  refine (part'_3 b x _ H1.out H2.out H3.out).mono ?_
  rintro e w' ⟨rfl, rfl⟩
  go_wp2_with fail
  refine (start_3 x _ H3.out).mono ?_
  rw [Hf.out]
  rintro e w' ⟨rfl, rfl⟩
  go_wp2_with fail
  refine (start_3 (x + 1) _ Hx.out).mono ?_
  rw [Ht.out]
  rintro e w' ⟨rfl, rfl⟩
  go_wp2_with fail
  refine (awake_any _ Hn.out).mono ?_
  rintro e w1 ⟨rfl, hb1⟩
  have Hb1 := Lib.hid hb1
  clear hb1
  go_wp2
  go_ret
  exact ⟨rfl, Hb1.out⟩

theorem beside_end_3 (b x : Nat) (w : World) (h1 : x * 2305843009213693952 ≤ b) (h2 : b < (x + 1) * 2305843009213693952) (hx : x + 1 = 8) (hn : Names w) : Calls Tryd.prog 8 #[.int .u64 (b : Int), .int .i64 8] w (RetB (.bool true) w) := by
  have Hn := Lib.hid hn
  clear hn
  obtain ⟨f, ef⟩ : ∃ f : Int, (x : Int) * 2305843009213693952 = f := ⟨_, rfl⟩
  have hf : f ≤ (b : Int) := by rw [← ef]; omega
  have hd : decide ((x : Int) + 1 < 8) = false := decide_eq_false (by omega)
  have Hx2 : Hid ((x : Int) + 1 < 0 ∨ 8 ≤ (x : Int) + 1) := Lib.hid (by omega)
  have h0 : (0 : Int) ≤ x := by omega
  have H1 := Lib.hid h1
  have H2 := Lib.hid h2
  have H3 : Hid (x < 8) := Lib.hid (by omega)
  have Hf := Lib.hid ef
  have hx1 : (x : Int) + 1 ≤ 8 := by omega
  clear h1 h2 ef hx
  go_enter Tryd.func8, Tryd.ntmps8
  go_wp2_with fail
  refine (part'_3 b x _ H1.out H2.out H3.out).mono ?_
  rintro e w' ⟨rfl, rfl⟩
  go_wp2_with fail
  refine (start_3 x _ H3.out).mono ?_
  rw [Hf.out]
  rintro e w' ⟨rfl, rfl⟩
  go_wp2_with fail
  refine (start_out_3 ((x : Int) + 1) _ Hx2.out).mono ?_
  rintro e w' ⟨rfl, rfl⟩
  go_wp2_with fail
  refine (awake_any _ Hn.out).mono ?_
  rintro e w1 ⟨rfl, hb1⟩
  have Hb1 := Lib.hid hb1
  clear hb1
  go_wp2
  go_ret
  exact ⟨rfl, Hb1.out⟩

theorem beside_3 (b : Nat) (w : World) (hb : b < 18446744073709551616) (hn : Names w) : Calls Tryd.prog 8 #[.int .u64 (b : Int), .int .i64 8] w (RetB (.bool true) w) := by
  by_cases h : b / 2305843009213693952 + 1 < 8
  · exact beside_mid_3 b (b / 2305843009213693952) w (by omega) (by omega) h hn
  · exact beside_end_3 b (b / 2305843009213693952) w (by omega) (by omega) (by omega) hn
theorem part'_4 (b x : Nat) (w : World) (h1 : x * 1152921504606846976 ≤ b) (h2 : b < (x + 1) * 1152921504606846976) (hx : x < 16) : Calls Tryd.prog 18 #[.int .u64 (b : Int), .int .i64 16] w fun e w' => e = .returned (.tuple #[.int .i64 (x : Int), .bool true]) ∧ w = w' := by
  have h := part_4 b w (lt_top h2 hx (by decide))
  have e : (b : Int) / 1152921504606846976 = (x : Int) := by simpa only [Int.cast_ofNat_Int] using divI h1 h2
  rwa [e] at h
theorem beside_mid_4 (b x : Nat) (w : World) (h1 : x * 1152921504606846976 ≤ b) (h2 : b < (x + 1) * 1152921504606846976) (hx : x + 1 < 16) (hn : Names w) : Calls Tryd.prog 8 #[.int .u64 (b : Int), .int .i64 16] w (RetB (.bool true) w) := by
  have Hn := Lib.hid hn
  clear hn
  obtain ⟨f, ef⟩ : ∃ f : Int, (x : Int) * 1152921504606846976 = f := ⟨_, rfl⟩
  have hf : f ≤ (b : Int) := by rw [← ef]; omega
  obtain ⟨t, et⟩ : ∃ t : Int, ((x + 1 : Nat) : Int) * 1152921504606846976 = t := ⟨_, rfl⟩
  have ht : (b : Int) < t := by rw [← et]; omega
  have Ht := Lib.hid et
  have hd : decide ((x : Int) + 1 < 16) = true := decide_eq_true (by omega)
  have Hx := Lib.hid hx
  clear et
  have H1 := Lib.hid h1
  have H2 := Lib.hid h2
  have H3 : Hid (x < 16) := Lib.hid (by omega)
  have Hf := Lib.hid ef
  have hx1 : (x : Int) + 1 ≤ 16 := by omega
  clear h1 h2 ef hx
  go_enter Tryd.func8, Tryd.ntmps8
  go_wp2_with fail
  refine (part'_4 b x _ H1.out H2.out H3.out).mono ?_
  rintro e w' ⟨rfl, rfl⟩
  go_wp2_with fail
  refine (start_4 x _ H3.out).mono ?_
  rw [Hf.out]
  rintro e w' ⟨rfl, rfl⟩
  go_wp2_with fail
  refine (start_4 (x + 1) _ Hx.out).mono ?_
  rw [Ht.out]
  rintro e w' ⟨rfl, rfl⟩
  go_wp2_with fail
  refine (awake_any _ Hn.out).mono ?_
  rintro e w1 ⟨rfl, hb1⟩
  have Hb1 := Lib.hid hb1
  clear hb1
  go_wp2
  go_ret
  exact ⟨rfl, Hb1.out⟩

theorem beside_end_4 (b x : Nat) (w : World) (h1 : x * 1152921504606846976 ≤ b) (h2 : b < (x + 1) * 1152921504606846976) (hx : x + 1 = 16) (hn : Names w) : Calls Tryd.prog 8 #[.int .u64 (b : Int), .int .i64 16] w (RetB (.bool true) w) := by
  have Hn := Lib.hid hn
  clear hn
  obtain ⟨f, ef⟩ : ∃ f : Int, (x : Int) * 1152921504606846976 = f := ⟨_, rfl⟩
  have hf : f ≤ (b : Int) := by rw [← ef]; omega
  have hd : decide ((x : Int) + 1 < 16) = false := decide_eq_false (by omega)
  have Hx2 : Hid ((x : Int) + 1 < 0 ∨ 16 ≤ (x : Int) + 1) := Lib.hid (by omega)
  have h0 : (0 : Int) ≤ x := by omega
  have H1 := Lib.hid h1
  have H2 := Lib.hid h2
  have H3 : Hid (x < 16) := Lib.hid (by omega)
  have Hf := Lib.hid ef
  have hx1 : (x : Int) + 1 ≤ 16 := by omega
  clear h1 h2 ef hx
  go_enter Tryd.func8, Tryd.ntmps8
  go_wp2_with fail
  refine (part'_4 b x _ H1.out H2.out H3.out).mono ?_
  rintro e w' ⟨rfl, rfl⟩
  go_wp2_with fail
  refine (start_4 x _ H3.out).mono ?_
  rw [Hf.out]
  rintro e w' ⟨rfl, rfl⟩
  go_wp2_with fail
  refine (start_out_4 ((x : Int) + 1) _ Hx2.out).mono ?_
  rintro e w' ⟨rfl, rfl⟩
  go_wp2_with fail
  refine (awake_any _ Hn.out).mono ?_
  rintro e w1 ⟨rfl, hb1⟩
  have Hb1 := Lib.hid hb1
  clear hb1
  go_wp2
  go_ret
  exact ⟨rfl, Hb1.out⟩

theorem beside_4 (b : Nat) (w : World) (hb : b < 18446744073709551616) (hn : Names w) : Calls Tryd.prog 8 #[.int .u64 (b : Int), .int .i64 16] w (RetB (.bool true) w) := by
  by_cases h : b / 1152921504606846976 + 1 < 16
  · exact beside_mid_4 b (b / 1152921504606846976) w (by omega) (by omega) h hn
  · exact beside_end_4 b (b / 1152921504606846976) w (by omega) (by omega) (by omega) hn
theorem part'_5 (b x : Nat) (w : World) (h1 : x * 576460752303423488 ≤ b) (h2 : b < (x + 1) * 576460752303423488) (hx : x < 32) : Calls Tryd.prog 18 #[.int .u64 (b : Int), .int .i64 32] w fun e w' => e = .returned (.tuple #[.int .i64 (x : Int), .bool true]) ∧ w = w' := by
  have h := part_5 b w (lt_top h2 hx (by decide))
  have e : (b : Int) / 576460752303423488 = (x : Int) := by simpa only [Int.cast_ofNat_Int] using divI h1 h2
  rwa [e] at h
theorem beside_mid_5 (b x : Nat) (w : World) (h1 : x * 576460752303423488 ≤ b) (h2 : b < (x + 1) * 576460752303423488) (hx : x + 1 < 32) (hn : Names w) : Calls Tryd.prog 8 #[.int .u64 (b : Int), .int .i64 32] w (RetB (.bool true) w) := by
  have Hn := Lib.hid hn
  clear hn
  obtain ⟨f, ef⟩ : ∃ f : Int, (x : Int) * 576460752303423488 = f := ⟨_, rfl⟩
  have hf : f ≤ (b : Int) := by rw [← ef]; omega
  obtain ⟨t, et⟩ : ∃ t : Int, ((x + 1 : Nat) : Int) * 576460752303423488 = t := ⟨_, rfl⟩
  have ht : (b : Int) < t := by rw [← et]; omega
  have Ht := Lib.hid et
  have hd : decide ((x : Int) + 1 < 32) = true := decide_eq_true (by omega)
  have Hx := Lib.hid hx
  clear et
  have H1 := Lib.hid h1
  have H2 := Lib.hid h2
  have H3 : Hid (x < 32) := Lib.hid (by omega)
  have Hf := Lib.hid ef
  have hx1 : (x : Int) + 1 ≤ 32 := by omega
  clear h1 h2 ef hx
  go_enter Tryd.func8, Tryd.ntmps8
  go_wp2_with fail
  refine (part'_5 b x _ H1.out H2.out H3.out).mono ?_
  rintro e w' ⟨rfl, rfl⟩
  go_wp2_with fail
  refine (start_5 x _ H3.out).mono ?_
  rw [Hf.out]
  rintro e w' ⟨rfl, rfl⟩
  go_wp2_with fail
  refine (start_5 (x + 1) _ Hx.out).mono ?_
  rw [Ht.out]
  rintro e w' ⟨rfl, rfl⟩
  go_wp2_with fail
  refine (awake_any _ Hn.out).mono ?_
  rintro e w1 ⟨rfl, hb1⟩
  have Hb1 := Lib.hid hb1
  clear hb1
  go_wp2
  go_ret
  exact ⟨rfl, Hb1.out⟩

theorem beside_end_5 (b x : Nat) (w : World) (h1 : x * 576460752303423488 ≤ b) (h2 : b < (x + 1) * 576460752303423488) (hx : x + 1 = 32) (hn : Names w) : Calls Tryd.prog 8 #[.int .u64 (b : Int), .int .i64 32] w (RetB (.bool true) w) := by
  have Hn := Lib.hid hn
  clear hn
  obtain ⟨f, ef⟩ : ∃ f : Int, (x : Int) * 576460752303423488 = f := ⟨_, rfl⟩
  have hf : f ≤ (b : Int) := by rw [← ef]; omega
  have hd : decide ((x : Int) + 1 < 32) = false := decide_eq_false (by omega)
  have Hx2 : Hid ((x : Int) + 1 < 0 ∨ 32 ≤ (x : Int) + 1) := Lib.hid (by omega)
  have h0 : (0 : Int) ≤ x := by omega
  have H1 := Lib.hid h1
  have H2 := Lib.hid h2
  have H3 : Hid (x < 32) := Lib.hid (by omega)
  have Hf := Lib.hid ef
  have hx1 : (x : Int) + 1 ≤ 32 := by omega
  clear h1 h2 ef hx
  go_enter Tryd.func8, Tryd.ntmps8
  go_wp2_with fail
  refine (part'_5 b x _ H1.out H2.out H3.out).mono ?_
  rintro e w' ⟨rfl, rfl⟩
  go_wp2_with fail
  refine (start_5 x _ H3.out).mono ?_
  rw [Hf.out]
  rintro e w' ⟨rfl, rfl⟩
  go_wp2_with fail
  refine (start_out_5 ((x : Int) + 1) _ Hx2.out).mono ?_
  rintro e w' ⟨rfl, rfl⟩
  go_wp2_with fail
  refine (awake_any _ Hn.out).mono ?_
  rintro e w1 ⟨rfl, hb1⟩
  have Hb1 := Lib.hid hb1
  clear hb1
  go_wp2
  go_ret
  exact ⟨rfl, Hb1.out⟩

theorem beside_5 (b : Nat) (w : World) (hb : b < 18446744073709551616) (hn : Names w) : Calls Tryd.prog 8 #[.int .u64 (b : Int), .int .i64 32] w (RetB (.bool true) w) := by
  by_cases h : b / 576460752303423488 + 1 < 32
  · exact beside_mid_5 b (b / 576460752303423488) w (by omega) (by omega) h hn
  · exact beside_end_5 b (b / 576460752303423488) w (by omega) (by omega) (by omega) hn
theorem part'_6 (b x : Nat) (w : World) (h1 : x * 288230376151711744 ≤ b) (h2 : b < (x + 1) * 288230376151711744) (hx : x < 64) : Calls Tryd.prog 18 #[.int .u64 (b : Int), .int .i64 64] w fun e w' => e = .returned (.tuple #[.int .i64 (x : Int), .bool true]) ∧ w = w' := by
  have h := part_6 b w (lt_top h2 hx (by decide))
  have e : (b : Int) / 288230376151711744 = (x : Int) := by simpa only [Int.cast_ofNat_Int] using divI h1 h2
  rwa [e] at h
theorem beside_mid_6 (b x : Nat) (w : World) (h1 : x * 288230376151711744 ≤ b) (h2 : b < (x + 1) * 288230376151711744) (hx : x + 1 < 64) (hn : Names w) : Calls Tryd.prog 8 #[.int .u64 (b : Int), .int .i64 64] w (RetB (.bool true) w) := by
  have Hn := Lib.hid hn
  clear hn
  obtain ⟨f, ef⟩ : ∃ f : Int, (x : Int) * 288230376151711744 = f := ⟨_, rfl⟩
  have hf : f ≤ (b : Int) := by rw [← ef]; omega
  obtain ⟨t, et⟩ : ∃ t : Int, ((x + 1 : Nat) : Int) * 288230376151711744 = t := ⟨_, rfl⟩
  have ht : (b : Int) < t := by rw [← et]; omega
  have Ht := Lib.hid et
  have hd : decide ((x : Int) + 1 < 64) = true := decide_eq_true (by omega)
  have Hx := Lib.hid hx
  clear et
  have H1 := Lib.hid h1
  have H2 := Lib.hid h2
  have H3 : Hid (x < 64) := Lib.hid (by omega)
  have Hf := Lib.hid ef
  have hx1 : (x : Int) + 1 ≤ 64 := by omega
  clear h1 h2 ef hx
  go_enter Tryd.func8, Tryd.ntmps8
  go_wp2_with fail
  refine (part'_6 b x _ H1.out H2.out H3.out).mono ?_
  rintro e w' ⟨rfl, rfl⟩
  go_wp2_with fail
  refine (start_6 x _ H3.out).mono ?_
  rw [Hf.out]
  rintro e w' ⟨rfl, rfl⟩
  go_wp2_with fail
  refine (start_6 (x + 1) _ Hx.out).mono ?_
  rw [Ht.out]
  rintro e w' ⟨rfl, rfl⟩
  go_wp2_with fail
  refine (awake_any _ Hn.out).mono ?_
  rintro e w1 ⟨rfl, hb1⟩
  have Hb1 := Lib.hid hb1
  clear hb1
  go_wp2
  go_ret
  exact ⟨rfl, Hb1.out⟩

theorem beside_end_6 (b x : Nat) (w : World) (h1 : x * 288230376151711744 ≤ b) (h2 : b < (x + 1) * 288230376151711744) (hx : x + 1 = 64) (hn : Names w) : Calls Tryd.prog 8 #[.int .u64 (b : Int), .int .i64 64] w (RetB (.bool true) w) := by
  have Hn := Lib.hid hn
  clear hn
  obtain ⟨f, ef⟩ : ∃ f : Int, (x : Int) * 288230376151711744 = f := ⟨_, rfl⟩
  have hf : f ≤ (b : Int) := by rw [← ef]; omega
  have hd : decide ((x : Int) + 1 < 64) = false := decide_eq_false (by omega)
  have Hx2 : Hid ((x : Int) + 1 < 0 ∨ 64 ≤ (x : Int) + 1) := Lib.hid (by omega)
  have h0 : (0 : Int) ≤ x := by omega
  have H1 := Lib.hid h1
  have H2 := Lib.hid h2
  have H3 : Hid (x < 64) := Lib.hid (by omega)
  have Hf := Lib.hid ef
  have hx1 : (x : Int) + 1 ≤ 64 := by omega
  clear h1 h2 ef hx
  go_enter Tryd.func8, Tryd.ntmps8
  go_wp2_with fail
  refine (part'_6 b x _ H1.out H2.out H3.out).mono ?_
  rintro e w' ⟨rfl, rfl⟩
  go_wp2_with fail
  refine (start_6 x _ H3.out).mono ?_
  rw [Hf.out]
  rintro e w' ⟨rfl, rfl⟩
  go_wp2_with fail
  refine (start_out_6 ((x : Int) + 1) _ Hx2.out).mono ?_
  rintro e w' ⟨rfl, rfl⟩
  go_wp2_with fail
  refine (awake_any _ Hn.out).mono ?_
  rintro e w1 ⟨rfl, hb1⟩
  have Hb1 := Lib.hid hb1
  clear hb1
  go_wp2
  go_ret
  exact ⟨rfl, Hb1.out⟩

theorem beside_6 (b : Nat) (w : World) (hb : b < 18446744073709551616) (hn : Names w) : Calls Tryd.prog 8 #[.int .u64 (b : Int), .int .i64 64] w (RetB (.bool true) w) := by
  by_cases h : b / 288230376151711744 + 1 < 64
  · exact beside_mid_6 b (b / 288230376151711744) w (by omega) (by omega) h hn
  · exact beside_end_6 b (b / 288230376151711744) w (by omega) (by omega) (by omega) hn
theorem beside_no (b : Nat) (p : Int) (w : World) (hp : p ≠ 1 ∧ p ≠ 2 ∧ p ≠ 4 ∧ p ≠ 8 ∧ p ≠ 16 ∧ p ≠ 32 ∧ p ≠ 64) (hn : Names w) : Calls Tryd.prog 8 #[.int .u64 (b : Int), .int .i64 p] w (RetB (.bool true) w) := by
  have Hp := Lib.hid hp
  clear hp
  have Hn := Lib.hid hn
  clear hn
  go_enter Tryd.func8, Tryd.ntmps8
  go_wp2_with fail
  refine (part_no b p _ Hp.out).mono ?_
  rintro e w' ⟨rfl, rfl⟩
  go_wp2_with fail
  refine (awake_any _ Hn.out).mono ?_
  rintro e w1 ⟨rfl, hb1⟩
  have Hb1 := Lib.hid hb1
  clear hb1
  go_wp2
  go_ret
  exact ⟨rfl, Hb1.out⟩

theorem beside_any (b : Nat) (p : Int) (w : World) (hb : b < 18446744073709551616) (hn : Names w) : Calls Tryd.prog 8 #[.int .u64 (b : Int), .int .i64 p] w (RetB (.bool true) w) := by
  by_cases h : p = 1
  · subst h; exact beside_0 b w hb hn
  by_cases h : p = 2
  · subst h; exact beside_1 b w hb hn
  by_cases h : p = 4
  · subst h; exact beside_2 b w hb hn
  by_cases h : p = 8
  · subst h; exact beside_3 b w hb hn
  by_cases h : p = 16
  · subst h; exact beside_4 b w hb hn
  by_cases h : p = 32
  · subst h; exact beside_5 b w hb hn
  by_cases h : p = 64
  · subst h; exact beside_6 b w hb hn
  exact beside_no b p w ⟨by assumption, by assumption, by assumption, by assumption, by assumption, by assumption, by assumption⟩ hn

end Go.Proofs.YtikaikleibfkeaaDoor
