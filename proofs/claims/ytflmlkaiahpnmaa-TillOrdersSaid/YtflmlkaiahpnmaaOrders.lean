/- TillOrders and TillOrder: the two laws' walks out of the contract of Order. No condition. -/
import Derived.Test.YtflmlkaiahpnmaaOrd
namespace Go.Proofs.Ytflmlkaiahpnmaa
open Go.RowKit Go.Fl

theorem order_12 (w : World) : Calls Try.prog 15 #[.int .u64 1, .int .u64 2] w fun e w' => e = .returned (.int .i64 (-1)) ∧ w = w' := by
  have h := order_any 1 2 w (by decide) (by decide)
  have e : ord 1 2 = -1 := by decide +kernel
  rw [e] at h; exact h
theorem order_21 (w : World) : Calls Try.prog 15 #[.int .u64 2, .int .u64 1] w fun e w' => e = .returned (.int .i64 1) ∧ w = w' := by
  have h := order_any 2 1 w (by decide) (by decide)
  have e : ord 2 1 = 1 := by decide +kernel
  rw [e] at h; exact h

theorem orders_any (a b : Nat) (w : World) (ha : a < 18446744073709551616) (hb : b < 18446744073709551616) :
    Calls Try.prog 5 #[.int .u64 (a : Int), .int .u64 (b : Int)] w fun e w' => e = .returned (.bool true) ∧ w = w' := by
  have Ha := Lib.hid ha
  have Hb := Lib.hid hb
  clear ha hb
  go_enter Try.func5, Try.ntmps5
  go_wp2_with fail
  refine (order_any a b _ Ha.out Hb.out).mono ?_
  rintro e w' ⟨rfl, rfl⟩
  go_wp2_with fail
  refine (orderR_any a b _ Ha.out Hb.out).mono ?_
  rintro e w' ⟨rfl, rfl⟩
  go_wp2_with fail
  refine (order_12 _).mono ?_
  rintro e w' ⟨rfl, rfl⟩
  go_wp2
  go_ret
  exact ⟨rfl, rfl⟩

theorem order_case (a b c : Nat) (x x' y z : Int) (w : World) (ha : a < 18446744073709551616) (hb : b < 18446744073709551616) (hc : c < 18446744073709551616)
    (hx : ord a b = x) (hx' : ord b a = x') (hy : ord b c = y) (hz : ord a c = z)
    (hcase : (x = -1 ∧ x' = 1 ∧ ((y = -1 ∧ z = -1) ∨ (y = 0 ∧ z = -1) ∨ (y = 1 ∧ z = -1) ∨ (y = 1 ∧ z = 0) ∨ (y = 1 ∧ z = 1))) ∨ (x = 0 ∧ x' = 0 ∧ ((y = -1 ∧ z = -1) ∨ (y = 0 ∧ z = 0) ∨ (y = 1 ∧ z = 1))) ∨
      (x = 1 ∧ x' = -1 ∧ ((y = -1 ∧ z = -1) ∨ (y = -1 ∧ z = 0) ∨ (y = -1 ∧ z = 1) ∨ (y = 0 ∧ z = 1) ∨ (y = 1 ∧ z = 1)))) :
    Calls Try.prog 6 #[.int .u64 (a : Int), .int .u64 (b : Int), .int .u64 (c : Int)] w fun e w' => e = .returned (.bool true) ∧ w = w' := by
  have Ha := Lib.hid ha
  have Hb := Lib.hid hb
  have Hc := Lib.hid hc
  have Hx := Lib.hid hx
  have Hx' := Lib.hid hx'
  have Hy := Lib.hid hy
  have Hz := Lib.hid hz
  have H0 : Hid (ord a a = 0) := Lib.hid (by unfold ord; simp)
  clear ha hb hc hx hx' hy hz
  rcases hcase with ⟨rfl, rfl, ⟨rfl, rfl⟩ | ⟨rfl, rfl⟩ | ⟨rfl, rfl⟩ | ⟨rfl, rfl⟩ | ⟨rfl, rfl⟩⟩ | ⟨rfl, rfl, ⟨rfl, rfl⟩ | ⟨rfl, rfl⟩ | ⟨rfl, rfl⟩⟩ | ⟨rfl, rfl, ⟨rfl, rfl⟩ | ⟨rfl, rfl⟩ | ⟨rfl, rfl⟩ | ⟨rfl, rfl⟩ | ⟨rfl, rfl⟩⟩
  all_goals
    go_enter Try.func6, Try.ntmps6
    go_wp2_with fail
    refine (order_any a b _ Ha.out Hb.out).mono ?_
    rw [Hx.out]
    rintro e w' ⟨rfl, rfl⟩
    go_wp2_with fail
    refine (order_any b c _ Hb.out Hc.out).mono ?_
    rw [Hy.out]
    rintro e w' ⟨rfl, rfl⟩
    go_wp2_with fail
    refine (order_any a c _ Ha.out Hc.out).mono ?_
    rw [Hz.out]
    rintro e w' ⟨rfl, rfl⟩
    go_wp2_with fail
    refine (order_any b a _ Hb.out Ha.out).mono ?_
    rw [Hx'.out]
    rintro e w' ⟨rfl, rfl⟩
    go_wp2_with fail
    refine (order_any a a _ Ha.out Ha.out).mono ?_
    rw [H0.out]
    rintro e w' ⟨rfl, rfl⟩
    go_wp2_with fail
    refine (order_21 _).mono ?_
    rintro e w' ⟨rfl, rfl⟩
    go_wp2
    go_ret
    exact ⟨rfl, rfl⟩

theorem order3_any (a b c : Nat) (w : World) (ha : a < 18446744073709551616) (hb : b < 18446744073709551616) (hc : c < 18446744073709551616) :
    Calls Try.prog 6 #[.int .u64 (a : Int), .int .u64 (b : Int), .int .u64 (c : Int)] w fun e w' => e = .returned (.bool true) ∧ w = w' := by
  refine order_case a b c _ _ _ _ w ha hb hc rfl rfl rfl rfl ?_
  unfold ord
  generalize rk a = p
  generalize rk b = q
  generalize rk c = r
  split <;> split <;> split <;> (try split) <;> (try split) <;> (try split) <;> omega
end Go.Proofs.Ytflmlkaiahpnmaa
