/- IdentNames and IdentBack: the walks, out of contracts that name each call's results. Written by program. -/
import Derived.Test.YtikaikleibfkeaaDoorNodeR
import Derived.Test.YtikaikleibfkeaaDoorPart
import Derived.Test.YtikaikleibfkeaaDoorBeside
namespace Go.Proofs.YtikaikleibfkeaaDoor
open Go.RowKit

def nmB (n : Int) : Bool := decide (0 ≤ n ∧ n < 8)
def nmS (n : Int) : ByteArray := if 0 ≤ n ∧ n < 8 then nm n.toNat else ⟨#[]⟩
theorem int8 {n : Int} (h : 0 ≤ n ∧ n < 8) : n = 0 ∨ n = 1 ∨ n = 2 ∨ n = 3 ∨ n = 4 ∨ n = 5 ∨ n = 6 ∨ n = 7 := by omega
theorem nat8 {n : Nat} (h : n < 8) : n = 0 ∨ n = 1 ∨ n = 2 ∨ n = 3 ∨ n = 4 ∨ n = 5 ∨ n = 6 ∨ n = 7 := by omega
theorem name_any (n : Int) (w : World) (hn : Names w) : Calls Tryd.prog 12 #[.int .i64 n] w fun e w' => e = .returned (.tuple #[.string (nmS n), .bool (nmB n)]) ∧ w = w' := by
  by_cases h : 0 ≤ n ∧ n < 8
  · obtain ⟨k, rfl⟩ := Int.eq_ofNat_of_zero_le h.1
    have e1 : nmS k = nm k := by unfold nmS; rw [if_pos h, Int.toNat_natCast]
    have e2 : nmB k = true := decide_eq_true h
    rw [e1, e2]; exact name_yes k w (by omega) hn
  · have e1 : nmS n = ⟨#[]⟩ := by unfold nmS; rw [if_neg h]
    have e2 : nmB n = false := decide_eq_false h
    rw [e1, e2]; exact name_no n w (by omega)
theorem nameR_any (n : Int) (w : World) : Calls Tryd.prog 13 #[.int .i64 n] w (RetB (.tuple #[.string (nmS n), .bool (nmB n)]) w) := by
  by_cases h : 0 ≤ n ∧ n < 8
  · have e2 : nmB n = true := decide_eq_true h
    rw [e2]
    rcases int8 h with rfl | rfl | rfl | rfl | rfl | rfl | rfl | rfl
    · exact nameR_0 w
    · exact nameR_1 w
    · exact nameR_2 w
    · exact nameR_3 w
    · exact nameR_4 w
    · exact nameR_5 w
    · exact nameR_6 w
    · exact nameR_7 w
  · have e1 : nmS n = ⟨#[]⟩ := by unfold nmS; rw [if_neg h]
    have e2 : nmB n = false := decide_eq_false h
    rw [e1, e2]
    exact (nameR_no n w (by omega)).mono fun e w' ⟨he, hw⟩ => ⟨he, by rw [← hw]; exact Below.refl _ _⟩
open Classical in
noncomputable def ndI (s : ByteArray) : Int := if h : ∃ k, k < 8 ∧ s = nm k then (h.choose : Int) else 0
open Classical in
noncomputable def ndB (s : ByteArray) : Bool := if ∃ k, k < 8 ∧ s = nm k then true else false
theorem node_any (s : ByteArray) (w : World) (hn : NamesB w) : Calls Tryd.prog 14 #[.string s] w fun e w' => e = .returned (.tuple #[.int .i64 (ndI s), .bool (ndB s)]) ∧ w = w' := by
  by_cases h : ∃ k, k < 8 ∧ s = nm k
  · have e1 : ndI s = (h.choose : Int) := by unfold ndI; rw [dif_pos h]
    have e2 : ndB s = true := by unfold ndB; rw [if_pos h]
    have h8 := h.choose_spec.1
    have hs := h.choose_spec.2
    rw [e1, e2]
    generalize h.choose = k at *
    subst hs
    clear e1 e2
    rcases nat8 h8 with rfl | rfl | rfl | rfl | rfl | rfl | rfl | rfl
    · exact node_0 w hn
    · exact node_1 w hn
    · exact node_2 w hn
    · exact node_3 w hn
    · exact node_4 w hn
    · exact node_5 w hn
    · exact node_6 w hn
    · exact node_7 w hn
  · have e1 : ndI s = 0 := by unfold ndI; rw [dif_neg h]
    have e2 : ndB s = false := by unfold ndB; rw [if_neg h]
    rw [e1, e2]
    exact node_no s w hn (fun k hk e => h ⟨k, hk, e⟩)
theorem nodeR_any (s : ByteArray) (w : World) : Calls Tryd.prog 15 #[.string s] w (RetB (.tuple #[.int .i64 (ndI s), .bool (ndB s)]) w) := by
  by_cases h : ∃ k, k < 8 ∧ s = nm k
  · have e1 : ndI s = (h.choose : Int) := by unfold ndI; rw [dif_pos h]
    have e2 : ndB s = true := by unfold ndB; rw [if_pos h]
    have h8 := h.choose_spec.1
    have hs := h.choose_spec.2
    rw [e1, e2]
    generalize h.choose = k at *
    subst hs
    clear e1 e2
    rcases nat8 h8 with rfl | rfl | rfl | rfl | rfl | rfl | rfl | rfl
    · exact nodeR_0 w
    · exact nodeR_1 w
    · exact nodeR_2 w
    · exact nodeR_3 w
    · exact nodeR_4 w
    · exact nodeR_5 w
    · exact nodeR_6 w
    · exact nodeR_7 w
  · have e1 : ndI s = 0 := by unfold ndI; rw [dif_neg h]
    have e2 : ndB s = false := by unfold ndB; rw [if_neg h]
    rw [e1, e2]
    exact nodeR_no s w (fun k hk e => h ⟨k, hk, e⟩)

theorem names_any (n : Int) (s : ByteArray) (w : World) (hs : s.size ≤ maxLen) (hn : Names w) (hb : NamesB w) : Calls Tryd.prog 4 #[.int .i64 n, .string s] w (RetB (.bool true) w) := by
  have Hn := Lib.hid hn
  have Hb := Lib.hid hb
  have Hs := Lib.hid hs
  clear hn hb hs
  go_enter Tryd.func4, Tryd.ntmps4
  go_wp2_with fail
  refine (name_any n _ Hn.out).mono ?_
  rintro e w' ⟨rfl, rfl⟩
  go_wp2_with fail
  refine (nameR_any n _).mono ?_
  rintro e w1 ⟨rfl, hb1⟩
  have Hb1 := Lib.hid hb1
  clear hb1
  go_wp2_with fail
  refine (node_any s _ (Hb.out.below Hb1.out)).mono ?_
  rintro e w' ⟨rfl, rfl⟩
  go_wp2_with fail
  refine (nodeR_any s _).mono ?_
  rintro e w2 ⟨rfl, hb2⟩
  have Hb2 := Lib.hid (Hb1.out.trans (hb2.mono Hb1.out.size))
  clear hb2
  go_wp2_with fail
  refine (key_any s _ Hs.out).mono ?_
  rintro e w3 ⟨rfl, hb3⟩
  have Hb3 := Lib.hid (Hb2.out.trans (hb3.mono Hb2.out.size))
  clear hb3
  go_wp2_with fail
  refine (keyR_any s _ Hs.out).mono ?_
  rintro e w' ⟨rfl, rfl⟩
  go_wp2_with fail
  refine (awake_any _ (Hn.out.below Hb3.out)).mono ?_
  rintro e w4 ⟨rfl, hb4⟩
  have Hb4 := Lib.hid (Hb3.out.trans (hb4.mono Hb3.out.size))
  clear hb4
  go_wp2
  go_ret
  exact ⟨rfl, Hb4.out⟩

def stB (x p : Int) : Bool := decide ((p = 1 ∨ p = 2 ∨ p = 4 ∨ p = 8 ∨ p = 16 ∨ p = 32 ∨ p = 64) ∧ 0 ≤ x ∧ x < p)
def stX (x p : Int) : Int := if (p = 1 ∨ p = 2 ∨ p = 4 ∨ p = 8 ∨ p = 16 ∨ p = 32 ∨ p = 64) ∧ 0 ≤ x ∧ x < p then x * (18446744073709551616 / p) else 0
theorem stB_no (x p : Int) (h : ¬ ((p = 1 ∨ p = 2 ∨ p = 4 ∨ p = 8 ∨ p = 16 ∨ p = 32 ∨ p = 64) ∧ 0 ≤ x ∧ x < p)) : stB x p = false ∧ stX x p = 0 := ⟨decide_eq_false h, by unfold stX; rw [if_neg h]⟩
theorem stB_yes (x p : Int) (h : (p = 1 ∨ p = 2 ∨ p = 4 ∨ p = 8 ∨ p = 16 ∨ p = 32 ∨ p = 64) ∧ 0 ≤ x ∧ x < p) : stB x p = true ∧ stX x p = x * (18446744073709551616 / p) := ⟨decide_eq_true h, by unfold stX; rw [if_pos h]⟩
theorem start_any_0 (x : Int) (w : World) : Calls Tryd.prog 27 #[.int .i64 x, .int .i64 1] w fun e w' => e = .returned (.tuple #[.int .u64 (stX x 1), .bool (stB x 1)]) ∧ w = w' := by
  by_cases h : 0 ≤ x ∧ x < 1
  · obtain ⟨e1, e2⟩ := stB_yes x 1 ⟨by decide, h⟩
    obtain ⟨y, rfl⟩ := Int.eq_ofNat_of_zero_le h.1
    rw [e1, e2]
    have hc := start_0 y w (by omega)
    rwa [show (y : Int) * (18446744073709551616 / 1) = 0 by rw [show (y : Int) = 0 by omega, Int.zero_mul]]
  · obtain ⟨e1, e2⟩ := stB_no x 1 (fun hh => h hh.2)
    rw [e1, e2]
    exact start_out_0 x w (by omega)
theorem part_back_0 (x : Int) (w : World) (h : stB x 1 = true) : Calls Tryd.prog 18 #[.int .u64 (stX x 1), .int .i64 1] w fun e w' => e = .returned (.tuple #[.int .i64 x, .bool true]) ∧ w = w' := by
  have h' := of_decide_eq_true h
  obtain ⟨y, rfl⟩ := Int.eq_ofNat_of_zero_le h'.2.1
  rw [(stB_yes _ 1 h').2]
  have hy : y = 0 := by omega
  subst hy
  exact part_0 0 w (by decide)
theorem start_any_1 (x : Int) (w : World) : Calls Tryd.prog 27 #[.int .i64 x, .int .i64 2] w fun e w' => e = .returned (.tuple #[.int .u64 (stX x 2), .bool (stB x 2)]) ∧ w = w' := by
  by_cases h : 0 ≤ x ∧ x < 2
  · obtain ⟨e1, e2⟩ := stB_yes x 2 ⟨by decide, h⟩
    obtain ⟨y, rfl⟩ := Int.eq_ofNat_of_zero_le h.1
    rw [e1, e2]
    have hc := start_1 y w (by omega)
    rwa [show (y : Int) * (18446744073709551616 / 2) = (y : Int) * 9223372036854775808 by rw [show (18446744073709551616 : Int) / 2 = 9223372036854775808 by decide]]
  · obtain ⟨e1, e2⟩ := stB_no x 2 (fun hh => h hh.2)
    rw [e1, e2]
    exact start_out_1 x w (by omega)
theorem part_back_1 (x : Int) (w : World) (h : stB x 2 = true) : Calls Tryd.prog 18 #[.int .u64 (stX x 2), .int .i64 2] w fun e w' => e = .returned (.tuple #[.int .i64 x, .bool true]) ∧ w = w' := by
  have h' := of_decide_eq_true h
  obtain ⟨y, rfl⟩ := Int.eq_ofNat_of_zero_le h'.2.1
  rw [(stB_yes _ 2 h').2]
  have hc := part'_1 (y * 9223372036854775808) y w (Nat.le_refl _) (Nat.mul_lt_mul_of_pos_right (Nat.lt_succ_self y) (by decide)) (by omega)
  rwa [show (y : Int) * (18446744073709551616 / 2) = ((y * 9223372036854775808 : Nat) : Int) by rw [show (18446744073709551616 : Int) / 2 = 9223372036854775808 by decide, Int.natCast_mul]; rfl]
theorem start_any_2 (x : Int) (w : World) : Calls Tryd.prog 27 #[.int .i64 x, .int .i64 4] w fun e w' => e = .returned (.tuple #[.int .u64 (stX x 4), .bool (stB x 4)]) ∧ w = w' := by
  by_cases h : 0 ≤ x ∧ x < 4
  · obtain ⟨e1, e2⟩ := stB_yes x 4 ⟨by decide, h⟩
    obtain ⟨y, rfl⟩ := Int.eq_ofNat_of_zero_le h.1
    rw [e1, e2]
    have hc := start_2 y w (by omega)
    rwa [show (y : Int) * (18446744073709551616 / 4) = (y : Int) * 4611686018427387904 by rw [show (18446744073709551616 : Int) / 4 = 4611686018427387904 by decide]]
  · obtain ⟨e1, e2⟩ := stB_no x 4 (fun hh => h hh.2)
    rw [e1, e2]
    exact start_out_2 x w (by omega)
theorem part_back_2 (x : Int) (w : World) (h : stB x 4 = true) : Calls Tryd.prog 18 #[.int .u64 (stX x 4), .int .i64 4] w fun e w' => e = .returned (.tuple #[.int .i64 x, .bool true]) ∧ w = w' := by
  have h' := of_decide_eq_true h
  obtain ⟨y, rfl⟩ := Int.eq_ofNat_of_zero_le h'.2.1
  rw [(stB_yes _ 4 h').2]
  have hc := part'_2 (y * 4611686018427387904) y w (Nat.le_refl _) (Nat.mul_lt_mul_of_pos_right (Nat.lt_succ_self y) (by decide)) (by omega)
  rwa [show (y : Int) * (18446744073709551616 / 4) = ((y * 4611686018427387904 : Nat) : Int) by rw [show (18446744073709551616 : Int) / 4 = 4611686018427387904 by decide, Int.natCast_mul]; rfl]
theorem start_any_3 (x : Int) (w : World) : Calls Tryd.prog 27 #[.int .i64 x, .int .i64 8] w fun e w' => e = .returned (.tuple #[.int .u64 (stX x 8), .bool (stB x 8)]) ∧ w = w' := by
  by_cases h : 0 ≤ x ∧ x < 8
  · obtain ⟨e1, e2⟩ := stB_yes x 8 ⟨by decide, h⟩
    obtain ⟨y, rfl⟩ := Int.eq_ofNat_of_zero_le h.1
    rw [e1, e2]
    have hc := start_3 y w (by omega)
    rwa [show (y : Int) * (18446744073709551616 / 8) = (y : Int) * 2305843009213693952 by rw [show (18446744073709551616 : Int) / 8 = 2305843009213693952 by decide]]
  · obtain ⟨e1, e2⟩ := stB_no x 8 (fun hh => h hh.2)
    rw [e1, e2]
    exact start_out_3 x w (by omega)
theorem part_back_3 (x : Int) (w : World) (h : stB x 8 = true) : Calls Tryd.prog 18 #[.int .u64 (stX x 8), .int .i64 8] w fun e w' => e = .returned (.tuple #[.int .i64 x, .bool true]) ∧ w = w' := by
  have h' := of_decide_eq_true h
  obtain ⟨y, rfl⟩ := Int.eq_ofNat_of_zero_le h'.2.1
  rw [(stB_yes _ 8 h').2]
  have hc := part'_3 (y * 2305843009213693952) y w (Nat.le_refl _) (Nat.mul_lt_mul_of_pos_right (Nat.lt_succ_self y) (by decide)) (by omega)
  rwa [show (y : Int) * (18446744073709551616 / 8) = ((y * 2305843009213693952 : Nat) : Int) by rw [show (18446744073709551616 : Int) / 8 = 2305843009213693952 by decide, Int.natCast_mul]; rfl]
theorem start_any_4 (x : Int) (w : World) : Calls Tryd.prog 27 #[.int .i64 x, .int .i64 16] w fun e w' => e = .returned (.tuple #[.int .u64 (stX x 16), .bool (stB x 16)]) ∧ w = w' := by
  by_cases h : 0 ≤ x ∧ x < 16
  · obtain ⟨e1, e2⟩ := stB_yes x 16 ⟨by decide, h⟩
    obtain ⟨y, rfl⟩ := Int.eq_ofNat_of_zero_le h.1
    rw [e1, e2]
    have hc := start_4 y w (by omega)
    rwa [show (y : Int) * (18446744073709551616 / 16) = (y : Int) * 1152921504606846976 by rw [show (18446744073709551616 : Int) / 16 = 1152921504606846976 by decide]]
  · obtain ⟨e1, e2⟩ := stB_no x 16 (fun hh => h hh.2)
    rw [e1, e2]
    exact start_out_4 x w (by omega)
theorem part_back_4 (x : Int) (w : World) (h : stB x 16 = true) : Calls Tryd.prog 18 #[.int .u64 (stX x 16), .int .i64 16] w fun e w' => e = .returned (.tuple #[.int .i64 x, .bool true]) ∧ w = w' := by
  have h' := of_decide_eq_true h
  obtain ⟨y, rfl⟩ := Int.eq_ofNat_of_zero_le h'.2.1
  rw [(stB_yes _ 16 h').2]
  have hc := part'_4 (y * 1152921504606846976) y w (Nat.le_refl _) (Nat.mul_lt_mul_of_pos_right (Nat.lt_succ_self y) (by decide)) (by omega)
  rwa [show (y : Int) * (18446744073709551616 / 16) = ((y * 1152921504606846976 : Nat) : Int) by rw [show (18446744073709551616 : Int) / 16 = 1152921504606846976 by decide, Int.natCast_mul]; rfl]
theorem start_any_5 (x : Int) (w : World) : Calls Tryd.prog 27 #[.int .i64 x, .int .i64 32] w fun e w' => e = .returned (.tuple #[.int .u64 (stX x 32), .bool (stB x 32)]) ∧ w = w' := by
  by_cases h : 0 ≤ x ∧ x < 32
  · obtain ⟨e1, e2⟩ := stB_yes x 32 ⟨by decide, h⟩
    obtain ⟨y, rfl⟩ := Int.eq_ofNat_of_zero_le h.1
    rw [e1, e2]
    have hc := start_5 y w (by omega)
    rwa [show (y : Int) * (18446744073709551616 / 32) = (y : Int) * 576460752303423488 by rw [show (18446744073709551616 : Int) / 32 = 576460752303423488 by decide]]
  · obtain ⟨e1, e2⟩ := stB_no x 32 (fun hh => h hh.2)
    rw [e1, e2]
    exact start_out_5 x w (by omega)
theorem part_back_5 (x : Int) (w : World) (h : stB x 32 = true) : Calls Tryd.prog 18 #[.int .u64 (stX x 32), .int .i64 32] w fun e w' => e = .returned (.tuple #[.int .i64 x, .bool true]) ∧ w = w' := by
  have h' := of_decide_eq_true h
  obtain ⟨y, rfl⟩ := Int.eq_ofNat_of_zero_le h'.2.1
  rw [(stB_yes _ 32 h').2]
  have hc := part'_5 (y * 576460752303423488) y w (Nat.le_refl _) (Nat.mul_lt_mul_of_pos_right (Nat.lt_succ_self y) (by decide)) (by omega)
  rwa [show (y : Int) * (18446744073709551616 / 32) = ((y * 576460752303423488 : Nat) : Int) by rw [show (18446744073709551616 : Int) / 32 = 576460752303423488 by decide, Int.natCast_mul]; rfl]
theorem start_any_6 (x : Int) (w : World) : Calls Tryd.prog 27 #[.int .i64 x, .int .i64 64] w fun e w' => e = .returned (.tuple #[.int .u64 (stX x 64), .bool (stB x 64)]) ∧ w = w' := by
  by_cases h : 0 ≤ x ∧ x < 64
  · obtain ⟨e1, e2⟩ := stB_yes x 64 ⟨by decide, h⟩
    obtain ⟨y, rfl⟩ := Int.eq_ofNat_of_zero_le h.1
    rw [e1, e2]
    have hc := start_6 y w (by omega)
    rwa [show (y : Int) * (18446744073709551616 / 64) = (y : Int) * 288230376151711744 by rw [show (18446744073709551616 : Int) / 64 = 288230376151711744 by decide]]
  · obtain ⟨e1, e2⟩ := stB_no x 64 (fun hh => h hh.2)
    rw [e1, e2]
    exact start_out_6 x w (by omega)
theorem part_back_6 (x : Int) (w : World) (h : stB x 64 = true) : Calls Tryd.prog 18 #[.int .u64 (stX x 64), .int .i64 64] w fun e w' => e = .returned (.tuple #[.int .i64 x, .bool true]) ∧ w = w' := by
  have h' := of_decide_eq_true h
  obtain ⟨y, rfl⟩ := Int.eq_ofNat_of_zero_le h'.2.1
  rw [(stB_yes _ 64 h').2]
  have hc := part'_6 (y * 288230376151711744) y w (Nat.le_refl _) (Nat.mul_lt_mul_of_pos_right (Nat.lt_succ_self y) (by decide)) (by omega)
  rwa [show (y : Int) * (18446744073709551616 / 64) = ((y * 288230376151711744 : Nat) : Int) by rw [show (18446744073709551616 : Int) / 64 = 288230376151711744 by decide, Int.natCast_mul]; rfl]
theorem start_any (x p : Int) (w : World) : Calls Tryd.prog 27 #[.int .i64 x, .int .i64 p] w fun e w' => e = .returned (.tuple #[.int .u64 (stX x p), .bool (stB x p)]) ∧ w = w' := by
  by_cases h0 : p = 1
  · subst h0; exact start_any_0 x w
  by_cases h1 : p = 2
  · subst h1; exact start_any_1 x w
  by_cases h2 : p = 4
  · subst h2; exact start_any_2 x w
  by_cases h3 : p = 8
  · subst h3; exact start_any_3 x w
  by_cases h4 : p = 16
  · subst h4; exact start_any_4 x w
  by_cases h5 : p = 32
  · subst h5; exact start_any_5 x w
  by_cases h6 : p = 64
  · subst h6; exact start_any_6 x w
  obtain ⟨e1, e2⟩ := stB_no x p (fun hh => by omega)
  rw [e1, e2]
  exact start_no x p w (by omega)
theorem part_back (x p : Int) (w : World) (h : stB x p = true) : Calls Tryd.prog 18 #[.int .u64 (stX x p), .int .i64 p] w fun e w' => e = .returned (.tuple #[.int .i64 x, .bool true]) ∧ w = w' := by
  have h' := of_decide_eq_true h
  rcases h'.1 with rfl | rfl | rfl | rfl | rfl | rfl | rfl
  · exact part_back_0 x w h
  · exact part_back_1 x w h
  · exact part_back_2 x w h
  · exact part_back_3 x w h
  · exact part_back_4 x w h
  · exact part_back_5 x w h
  · exact part_back_6 x w h

theorem node_back_yes (n : Int) (w : World) (hn : NamesB w) (h : nmB n = true) : Calls Tryd.prog 14 #[.string (nmS n)] w fun e w' => e = .returned (.tuple #[.int .i64 n, .bool true]) ∧ w = w' := by
  have h' := of_decide_eq_true h
  rcases int8 h' with rfl | rfl | rfl | rfl | rfl | rfl | rfl | rfl
  · exact node_0 w hn
  · exact node_1 w hn
  · exact node_2 w hn
  · exact node_3 w hn
  · exact node_4 w hn
  · exact node_5 w hn
  · exact node_6 w hn
  · exact node_7 w hn
theorem node_back_no (n : Int) (w : World) (hn : NamesB w) (h : nmB n = false) : Calls Tryd.prog 14 #[.string (nmS n)] w fun e w' => e = .returned (.tuple #[.int .i64 0, .bool false]) ∧ w = w' := by
  have h' := of_decide_eq_false h
  have e : nmS n = ⟨#[]⟩ := by unfold nmS; rw [if_neg h']
  rw [e]
  exact node_no _ w hn (fun k _ e => by unfold nm at e; simp at e)

theorem back_yes_in (n x p : Int) (w : World) (hn : Names w) (hb : NamesB w) (h1 : nmB n = true) (h2 : stB x p = true) : Calls Tryd.prog 9 #[.int .i64 n, .int .i64 x, .int .i64 p] w (RetB (.bool true) w) := by
  have hr := of_decide_eq_true h1
  have H1 := Lib.hid h1
  have H2 := Lib.hid h2
  have Hn := Lib.hid hn
  have Hb := Lib.hid hb
  clear h1 h2 hn hb
  obtain ⟨hr1, hr2⟩ := hr
  go_enter Tryd.func9, Tryd.ntmps9
  go_wp2_with fail
  refine (name_any n _ Hn.out).mono ?_
  rw [H1.out]
  rintro e w' ⟨rfl, rfl⟩
  go_wp2_with fail
  refine (node_back_yes n _ Hb.out H1.out).mono ?_
  rintro e w' ⟨rfl, rfl⟩
  go_wp2_with fail
  refine (start_any x p _).mono ?_
  rw [H2.out]
  rintro e w' ⟨rfl, rfl⟩
  go_wp2_with fail
  refine (part_back x p _ H2.out).mono ?_
  rintro e w' ⟨rfl, rfl⟩
  go_wp2_with fail
  refine (awake_any _ Hn.out).mono ?_
  rintro e w1 ⟨rfl, hb1⟩
  have Hb1 := Lib.hid hb1
  clear hb1
  go_wp2
  go_ret
  exact ⟨rfl, Hb1.out⟩

theorem back_yes_out (n x p : Int) (w : World) (hn : Names w) (hb : NamesB w) (h1 : nmB n = true) (h2 : stB x p = false) : Calls Tryd.prog 9 #[.int .i64 n, .int .i64 x, .int .i64 p] w (RetB (.bool true) w) := by
  have hr := of_decide_eq_true h1
  have H1 := Lib.hid h1
  have H2 := Lib.hid h2
  have Hn := Lib.hid hn
  have Hb := Lib.hid hb
  clear h1 h2 hn hb
  obtain ⟨hr1, hr2⟩ := hr
  go_enter Tryd.func9, Tryd.ntmps9
  go_wp2_with fail
  refine (name_any n _ Hn.out).mono ?_
  rw [H1.out]
  rintro e w' ⟨rfl, rfl⟩
  go_wp2_with fail
  refine (node_back_yes n _ Hb.out H1.out).mono ?_
  rintro e w' ⟨rfl, rfl⟩
  go_wp2_with fail
  refine (start_any x p _).mono ?_
  rw [H2.out]
  rintro e w' ⟨rfl, rfl⟩
  go_wp2_with fail
  refine (awake_any _ Hn.out).mono ?_
  rintro e w1 ⟨rfl, hb1⟩
  have Hb1 := Lib.hid hb1
  clear hb1
  go_wp2
  go_ret
  exact ⟨rfl, Hb1.out⟩

theorem back_no_in (n x p : Int) (w : World) (hn : Names w) (hb : NamesB w) (h1 : nmB n = false) (h2 : stB x p = true) : Calls Tryd.prog 9 #[.int .i64 n, .int .i64 x, .int .i64 p] w (RetB (.bool true) w) := by
  have hr : n < 0 ∨ 8 ≤ n := by have := of_decide_eq_false h1; omega
  have H1 := Lib.hid h1
  have H2 := Lib.hid h2
  have Hn := Lib.hid hn
  have Hb := Lib.hid hb
  clear h1 h2 hn hb
  rcases hr with hr | hr
  ·   go_enter Tryd.func9, Tryd.ntmps9
      go_wp2_with fail
      refine (name_any n _ Hn.out).mono ?_
      rw [H1.out]
      rintro e w' ⟨rfl, rfl⟩
      go_wp2_with fail
      refine (node_back_no n _ Hb.out H1.out).mono ?_
      rintro e w' ⟨rfl, rfl⟩
      go_wp2_with fail
      refine (start_any x p _).mono ?_
      rw [H2.out]
      rintro e w' ⟨rfl, rfl⟩
      go_wp2_with fail
      refine (part_back x p _ H2.out).mono ?_
      rintro e w' ⟨rfl, rfl⟩
      go_wp2_with fail
      refine (awake_any _ Hn.out).mono ?_
      rintro e w1 ⟨rfl, hb1⟩
      have Hb1 := Lib.hid hb1
      clear hb1
      go_wp2
      go_ret
      exact ⟨rfl, Hb1.out⟩
  ·   go_enter Tryd.func9, Tryd.ntmps9
      go_wp2_with fail
      refine (name_any n _ Hn.out).mono ?_
      rw [H1.out]
      rintro e w' ⟨rfl, rfl⟩
      go_wp2_with fail
      refine (node_back_no n _ Hb.out H1.out).mono ?_
      rintro e w' ⟨rfl, rfl⟩
      go_wp2_with fail
      refine (start_any x p _).mono ?_
      rw [H2.out]
      rintro e w' ⟨rfl, rfl⟩
      go_wp2_with fail
      refine (part_back x p _ H2.out).mono ?_
      rintro e w' ⟨rfl, rfl⟩
      go_wp2_with fail
      refine (awake_any _ Hn.out).mono ?_
      rintro e w1 ⟨rfl, hb1⟩
      have Hb1 := Lib.hid hb1
      clear hb1
      go_wp2
      go_ret
      exact ⟨rfl, Hb1.out⟩

theorem back_no_out (n x p : Int) (w : World) (hn : Names w) (hb : NamesB w) (h1 : nmB n = false) (h2 : stB x p = false) : Calls Tryd.prog 9 #[.int .i64 n, .int .i64 x, .int .i64 p] w (RetB (.bool true) w) := by
  have hr : n < 0 ∨ 8 ≤ n := by have := of_decide_eq_false h1; omega
  have H1 := Lib.hid h1
  have H2 := Lib.hid h2
  have Hn := Lib.hid hn
  have Hb := Lib.hid hb
  clear h1 h2 hn hb
  rcases hr with hr | hr
  ·   go_enter Tryd.func9, Tryd.ntmps9
      go_wp2_with fail
      refine (name_any n _ Hn.out).mono ?_
      rw [H1.out]
      rintro e w' ⟨rfl, rfl⟩
      go_wp2_with fail
      refine (node_back_no n _ Hb.out H1.out).mono ?_
      rintro e w' ⟨rfl, rfl⟩
      go_wp2_with fail
      refine (start_any x p _).mono ?_
      rw [H2.out]
      rintro e w' ⟨rfl, rfl⟩
      go_wp2_with fail
      refine (awake_any _ Hn.out).mono ?_
      rintro e w1 ⟨rfl, hb1⟩
      have Hb1 := Lib.hid hb1
      clear hb1
      go_wp2
      go_ret
      exact ⟨rfl, Hb1.out⟩
  ·   go_enter Tryd.func9, Tryd.ntmps9
      go_wp2_with fail
      refine (name_any n _ Hn.out).mono ?_
      rw [H1.out]
      rintro e w' ⟨rfl, rfl⟩
      go_wp2_with fail
      refine (node_back_no n _ Hb.out H1.out).mono ?_
      rintro e w' ⟨rfl, rfl⟩
      go_wp2_with fail
      refine (start_any x p _).mono ?_
      rw [H2.out]
      rintro e w' ⟨rfl, rfl⟩
      go_wp2_with fail
      refine (awake_any _ Hn.out).mono ?_
      rintro e w1 ⟨rfl, hb1⟩
      have Hb1 := Lib.hid hb1
      clear hb1
      go_wp2
      go_ret
      exact ⟨rfl, Hb1.out⟩

theorem back_any (n x p : Int) (w : World) (hn : Names w) (hb : NamesB w) : Calls Tryd.prog 9 #[.int .i64 n, .int .i64 x, .int .i64 p] w (RetB (.bool true) w) := by
  cases h1 : nmB n <;> cases h2 : stB x p
  · exact back_no_out n x p w hn hb h1 h2
  · exact back_no_in n x p w hn hb h1 h2
  · exact back_yes_out n x p w hn hb h1 h2
  · exact back_yes_in n x p w hn hb h1 h2
end Go.Proofs.YtikaikleibfkeaaDoor
