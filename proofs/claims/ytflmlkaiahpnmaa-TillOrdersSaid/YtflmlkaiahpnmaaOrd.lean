/- TillOrders and TillOrder: contracts of rank and Order (the program's and the document's), and both laws' walks. No condition. -/
import Derived.Test.YtflmlkaiahpnmaaBase
import Derived.Laws.Bits64b
import Derived.Laws.BitsAllLaws
import Derived.BigQuiet
import Derived.Deep.QuietTactic
namespace Go.Proofs.Ytflmlkaiahpnmaa
open Go.RowKit Go.Fl

/-- Where a word stands among all. -/
def rk (b : Nat) : Int := if isNaN b then -9223372036854775808 else if 9223372036854775808 ≤ b then 9223372036854775807 - (b : Int) else b
theorem rk_bounds {b : Nat} (hb : b < 18446744073709551616) : -9223372036854775808 ≤ rk b ∧ rk b ≤ 9223372036854775807 := by
  unfold rk; split
  · omega
  · split <;> omega

theorem andNot_top (m : Nat) (hm : m < 9223372036854775808) : bits .andNot .u64 (9223372036854775808 + (m : Int)) 9223372036854775808 = m := by
  have h := u64_andNot_nat (9223372036854775808 + m) 9223372036854775808 (by omega) (by omega)
  rw [show ((9223372036854775808 + m : Nat) : Int) = 9223372036854775808 + (m : Int) by omega, show ((9223372036854775808 : Nat) : Int) = 9223372036854775808 from rfl] at h
  rw [h, show (18446744073709551615 - 9223372036854775808 : Nat) = 2 ^ 63 - 1 by decide, Nat.and_two_pow_sub_one_eq_mod]
  omega
theorem or_top (m : Nat) (hm : m < 9223372036854775808) : bits .or .u64 (m : Int) 9223372036854775808 = 9223372036854775808 + m := by
  have h := u64_or_nat m 9223372036854775808 (by omega) (by omega)
  rw [show ((9223372036854775808 : Nat) : Int) = 9223372036854775808 from rfl] at h
  rw [h, Nat.or_comm, nat_join 63 _ _ (by decide) hm]
  omega

theorem not_top (m : Nat) (hm : m < 9223372036854775808) : bits .xor .u64 IntKind.u64.max (9223372036854775808 + (m : Int)) = 9223372036854775807 - m := by
  have h := u64_xor_nat 18446744073709551615 (9223372036854775808 + m) (by omega) (by omega)
  rw [show IntKind.u64.max = ((18446744073709551615 : Nat) : Int) by decide, show 9223372036854775808 + (m : Int) = ((9223372036854775808 + m : Nat) : Int) by omega, h]
  have e : 18446744073709551615 ^^^ (9223372036854775808 + m) = 9223372036854775807 - m := by
    have hx : 18446744073709551615 ^^^ (9223372036854775808 + m) = (BitVec.allOnes 64 ^^^ BitVec.ofNat 64 (9223372036854775808 + m)).toNat := by
      rw [BitVec.toNat_xor, BitVec.toNat_allOnes, BitVec.toNat_ofNat, Nat.mod_eq_of_lt (by omega)]
    rw [hx, BitVec.allOnes_xor, BitVec.toNat_not, BitVec.toNat_ofNat, Nat.mod_eq_of_lt (by omega)]
    omega
  rw [e]; omega
theorem rank_nan (b : Nat) (w : World) (ho : (FloatKind.f64.format.order b b != some .eq) = true) :
    Calls Try.prog 33 #[.int .u64 (b : Int)] w fun e w' => e = .returned (.int .i64 (-9223372036854775808)) ∧ w = w' := by
  go_enter Try.func33, Try.ntmps33
  go_wp2_with (first | (go_at_call 27; refine (float_any _ _).mono ?_; rintro e w' ⟨rfl, rfl⟩) | (go_at_call 40; go_in))
  go_ret
  exact ⟨rfl, rfl⟩
theorem rank_neg (m : Nat) (w : World) (hm : m < 9223372036854775808) (ho : (FloatKind.f64.format.order (9223372036854775808 + m) (9223372036854775808 + m) != some .eq) = false)  :
    Calls Try.prog 33 #[.int .u64 ((9223372036854775808 + m : Nat) : Int)] w fun e w' => e = .returned (.int .i64 (-(m : Int) - 1)) ∧ w = w' := by
  have ha := andNot_top m hm
  go_enter Try.func33, Try.ntmps33
  go_wp2_with (first | (go_at_call 27; refine (float_any _ _).mono ?_; rintro e w' ⟨rfl, rfl⟩) | (go_at_call 40; go_in))
  go_ret
  exact ⟨rfl, rfl⟩
theorem rank_pos (m : Nat) (w : World) (hm : m < 9223372036854775808) (ho : (FloatKind.f64.format.order m m != some .eq) = false) :
    Calls Try.prog 33 #[.int .u64 (m : Int)] w fun e w' => e = .returned (.int .i64 m) ∧ w = w' := by
  go_enter Try.func33, Try.ntmps33
  go_wp2_with (first | (go_at_call 27; refine (float_any _ _).mono ?_; rintro e w' ⟨rfl, rfl⟩) | (go_at_call 40; go_in))
  go_ret
  exact ⟨rfl, rfl⟩
theorem rank_any (b : Nat) (w : World) (hb : b < 18446744073709551616) : Calls Try.prog 33 #[.int .u64 (b : Int)] w fun e w' => e = .returned (.int .i64 (rk b)) ∧ w = w' := by
  cases hn : isNaN b
  · have ho : (FloatKind.f64.format.order b b != some .eq) = false := by rw [order_self', hn]
    by_cases h : 9223372036854775808 ≤ b
    · obtain ⟨m, rfl⟩ := Nat.exists_eq_add_of_le h
      have e : rk (9223372036854775808 + m) = -(m : Int) - 1 := by unfold rk; rw [hn, if_neg (by simp), if_pos h]; omega
      rw [e]
      exact rank_neg m w (by omega) ho
    · have e : rk b = b := by unfold rk; rw [hn, if_neg (by simp), if_neg h]
      rw [e]
      exact rank_pos b w (by omega) ho
  · have e : rk b = -9223372036854775808 := by unfold rk; rw [hn, if_pos rfl]
    rw [e]
    exact rank_nan b w (by rw [order_self', hn])

theorem rankR_nan (b : Nat) (w : World) (ho : (FloatKind.f64.format.order b b != some .eq) = true) :
    Calls Try.prog 34 #[.int .u64 (b : Int)] w fun e w' => e = .returned (.int .u64 0) ∧ w = w' := by
  go_enter Try.func34, Try.ntmps34
  go_wp2_with (first | (go_at_call 29; refine (floatR_any _ _).mono ?_; rintro e w' ⟨rfl, rfl⟩))
  go_ret
  exact ⟨rfl, rfl⟩
theorem rankR_neg (m : Nat) (w : World) (hm : m < 9223372036854775808) (ho : (FloatKind.f64.format.order (9223372036854775808 + m) (9223372036854775808 + m) != some .eq) = false)  :
    Calls Try.prog 34 #[.int .u64 ((9223372036854775808 + m : Nat) : Int)] w fun e w' => e = .returned (.int .u64 (9223372036854775807 - m)) ∧ w = w' := by
  have ha := not_top m hm
  have ho' : (FloatKind.f64.format.order (9223372036854775808 + (m : Int)).toNat (9223372036854775808 + (m : Int)).toNat != some .eq) = false := by
    rw [show (9223372036854775808 + (m : Int)).toNat = 9223372036854775808 + m by omega]; exact ho
  clear ho
  go_enter Try.func34, Try.ntmps34
  go_wp2_with (first | (go_at_call 29; refine (floatR_any _ _).mono ?_; rintro e w' ⟨rfl, rfl⟩))
  go_ret
  exact ⟨rfl, rfl⟩
theorem rankR_pos (m : Nat) (w : World) (hm : m < 9223372036854775808) (ho : (FloatKind.f64.format.order m m != some .eq) = false) :
    Calls Try.prog 34 #[.int .u64 (m : Int)] w fun e w' => e = .returned (.int .u64 (9223372036854775808 + m)) ∧ w = w' := by
  have ha := or_top m hm
  go_enter Try.func34, Try.ntmps34
  go_wp2_with (first | (go_at_call 29; refine (floatR_any _ _).mono ?_; rintro e w' ⟨rfl, rfl⟩))
  go_ret
  exact ⟨rfl, rfl⟩
theorem rankR_any (b : Nat) (w : World) (hb : b < 18446744073709551616) : Calls Try.prog 34 #[.int .u64 (b : Int)] w fun e w' => e = .returned (.int .u64 (rk b + 9223372036854775808)) ∧ w = w' := by
  cases hn : isNaN b
  · have ho : (FloatKind.f64.format.order b b != some .eq) = false := by rw [order_self', hn]
    by_cases h : 9223372036854775808 ≤ b
    · obtain ⟨m, rfl⟩ := Nat.exists_eq_add_of_le h
      have e : rk (9223372036854775808 + m) + 9223372036854775808 = 9223372036854775807 - (m : Int) := by unfold rk; rw [hn, if_neg (by simp), if_pos h]; omega
      rw [e]
      exact rankR_neg m w (by omega) ho
    · have e : rk b + 9223372036854775808 = 9223372036854775808 + b := by unfold rk; rw [hn, if_neg (by simp), if_neg h]; omega
      rw [e]
      exact rankR_pos b w (by omega) ho
  · have e : rk b + 9223372036854775808 = 0 := by unfold rk; rw [hn, if_pos rfl]; omega
    rw [e]
    exact rankR_nan b w (by rw [order_self', hn])

/-- Two held against each other. -/
def ord (a b : Nat) : Int := if rk a < rk b then -1 else if rk b < rk a then 1 else 0

theorem order_any (a b : Nat) (w : World) (ha : a < 18446744073709551616) (hb : b < 18446744073709551616) :
    Calls Try.prog 15 #[.int .u64 (a : Int), .int .u64 (b : Int)] w fun e w' => e = .returned (.int .i64 (ord a b)) ∧ w = w' := by
  have key : ∀ x y : Int, rk a = x → rk b = y → Calls Try.prog 15 #[.int .u64 (a : Int), .int .u64 (b : Int)] w fun e w' => e = .returned (.int .i64 (if x < y then -1 else if y < x then 1 else 0)) ∧ w = w' := by
    intro x y hx hy
    have Hx := Lib.hid hx
    have Hy := Lib.hid hy
    have Ha := Lib.hid ha
    have Hb := Lib.hid hb
    clear hx hy ha hb
    rcases Int.lt_trichotomy x y with h | h | h
    · rw [if_pos h]
      go_enter Try.func15, Try.ntmps15
      go_wp2_with fail
      refine (rank_any a _ Ha.out).mono ?_
      rw [Hx.out]
      rintro e w' ⟨rfl, rfl⟩
      go_wp2_with fail
      refine (rank_any b _ Hb.out).mono ?_
      rw [Hy.out]
      rintro e w' ⟨rfl, rfl⟩
      go_wp2
      go_ret
      exact ⟨rfl, rfl⟩
    · subst h
      rw [if_neg (by omega), if_neg (by omega)]
      go_enter Try.func15, Try.ntmps15
      go_wp2_with fail
      refine (rank_any a _ Ha.out).mono ?_
      rw [Hx.out]
      rintro e w' ⟨rfl, rfl⟩
      go_wp2_with fail
      refine (rank_any b _ Hb.out).mono ?_
      rw [Hy.out]
      rintro e w' ⟨rfl, rfl⟩
      go_wp2
      go_ret
      exact ⟨rfl, rfl⟩
    · rw [if_neg (by omega), if_pos h]
      go_enter Try.func15, Try.ntmps15
      go_wp2_with fail
      refine (rank_any a _ Ha.out).mono ?_
      rw [Hx.out]
      rintro e w' ⟨rfl, rfl⟩
      go_wp2_with fail
      refine (rank_any b _ Hb.out).mono ?_
      rw [Hy.out]
      rintro e w' ⟨rfl, rfl⟩
      go_wp2
      go_ret
      exact ⟨rfl, rfl⟩
  exact key _ _ rfl rfl
theorem orderR_any (a b : Nat) (w : World) (ha : a < 18446744073709551616) (hb : b < 18446744073709551616) :
    Calls Try.prog 16 #[.int .u64 (a : Int), .int .u64 (b : Int)] w fun e w' => e = .returned (.int .i64 (ord a b)) ∧ w = w' := by
  have key : ∀ x y : Int, rk a + 9223372036854775808 = x → rk b + 9223372036854775808 = y → Calls Try.prog 16 #[.int .u64 (a : Int), .int .u64 (b : Int)] w fun e w' => e = .returned (.int .i64 (if x < y then -1 else if y < x then 1 else 0)) ∧ w = w' := by
    intro x y hx hy
    have Hx := Lib.hid hx
    have Hy := Lib.hid hy
    have Ha := Lib.hid ha
    have Hb := Lib.hid hb
    clear hx hy ha hb
    rcases Int.lt_trichotomy x y with h | h | h
    · rw [if_pos h]
      go_enter Try.func16, Try.ntmps16
      go_wp2_with fail
      refine (rankR_any a _ Ha.out).mono ?_
      rw [Hx.out]
      rintro e w' ⟨rfl, rfl⟩
      go_wp2_with fail
      refine (rankR_any b _ Hb.out).mono ?_
      rw [Hy.out]
      rintro e w' ⟨rfl, rfl⟩
      go_wp2
      go_ret
      exact ⟨rfl, rfl⟩
    · subst h
      rw [if_neg (by omega), if_neg (by omega)]
      go_enter Try.func16, Try.ntmps16
      go_wp2_with fail
      refine (rankR_any a _ Ha.out).mono ?_
      rw [Hx.out]
      rintro e w' ⟨rfl, rfl⟩
      go_wp2_with fail
      refine (rankR_any b _ Hb.out).mono ?_
      rw [Hy.out]
      rintro e w' ⟨rfl, rfl⟩
      go_wp2
      go_ret
      exact ⟨rfl, rfl⟩
    · rw [if_neg (by omega), if_pos h]
      go_enter Try.func16, Try.ntmps16
      go_wp2_with fail
      refine (rankR_any a _ Ha.out).mono ?_
      rw [Hx.out]
      rintro e w' ⟨rfl, rfl⟩
      go_wp2_with fail
      refine (rankR_any b _ Hb.out).mono ?_
      rw [Hy.out]
      rintro e w' ⟨rfl, rfl⟩
      go_wp2
      go_ret
      exact ⟨rfl, rfl⟩
  have h := key _ _ rfl rfl
  have e : ord a b = (if rk a + 9223372036854775808 < rk b + 9223372036854775808 then -1 else if rk b + 9223372036854775808 < rk a + 9223372036854775808 then 1 else 0) := by
    unfold ord; congr 1
    · simp
    · simp
  rw [e]; exact h
end Go.Proofs.Ytflmlkaiahpnmaa
