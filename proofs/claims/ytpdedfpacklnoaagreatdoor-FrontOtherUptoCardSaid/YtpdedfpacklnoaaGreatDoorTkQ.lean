/- Contracts of ormap's small questions: price, order. -/
import Derived.Test.YtpdedfpacklnoaaGreatDoorML
import Derived.Shelf.Small.Strs
import Derived.LoopN
set_option maxRecDepth 100000
namespace Go.Proofs.YtpdedfpacklnoaaGreatDoor
open Go.RowKit Go.BL Go.Ct Go.Sl Go.Fl Ieee

theorem order_zero (p : Nat) (hp : p < 18446744073709551616) : (FloatKind.f64.format.order p 0 == some Ordering.gt || FloatKind.f64.format.order p 0 == some Ordering.eq) = isPrice p := by
  show (double.order p 0 == some Ordering.gt || double.order p 0 == some Ordering.eq) = isPrice p
  unfold isPrice
  by_cases h1 : p ≤ 9218868437227405312
  · rw [order_le h1 (by decide), decide_eq_true h1]
    rcases Nat.eq_zero_or_pos p with h | h
    · subst h; rfl
    · rw [Nat.compare_eq_gt.2 h]; rfl
  rw [decide_eq_false h1]
  by_cases h2 : p = 9223372036854775808
  · subst h2; decide
  rw [decide_eq_false h2]
  by_cases h3 : isNaN p = true
  · have : double.order p 0 = none := by
      obtain ⟨s, t, hr⟩ := (read_cases p).1 h3
      unfold Format.order
      rw [show double.read p = _ from hr]
      rfl
    rw [this]; rfl
  · obtain ⟨r, rfl⟩ : ∃ r, p = 9223372036854775808 + r := by
      rw [isNaN_iff] at h3
      simp at h3
      exact ⟨p - 9223372036854775808, by omega⟩
    have hr : r ≤ 9218868437227405312 ∧ 0 < r := by
      rw [isNaN_iff] at h3
      simp at h3
      omega
    rcases Nat.lt_or_ge r 9218868437227405312 with h | h
    · have e1 : (9223372036854775808 + r) % 9223372036854775808 = r := by omega
      have e2 : (9223372036854775808 + r) / 9223372036854775808 = 1 := by omega
      have hrd := read_finite (9223372036854775808 + r) (by omega)
      rw [e1, e2] at hrd
      have hlt : double.order (9223372036854775808 + r) 0 = some .lt := by
        unfold Format.order
        rw [hrd, read_pos (show 0 < 9218868437227405312 by decide)]
        simp only [Datum.order, Option.some.injEq]
        rw [Int.compare_eq_lt]
        have k1 : ∀ m u, signed (1 % 2 == 1) m u = -((m <<< u : Nat) : Int) := fun m u => rfl
        have k2 : signed false (sig 0) (plc 0 - min (plc r) (plc 0)).toNat = 0 := by
          show (((sig 0) <<< _ : Nat) : Int) = 0
          rw [show sig 0 = 0 from by decide]; simp
        rw [k1, k2]
        have h4 : 0 < sig r := Nat.pos_of_ne_zero (sig_pos hr.2)
        have h5 : 0 < sig r <<< (plc r - min (plc r) (plc 0)).toNat := by
          rw [Nat.shiftLeft_eq]; exact Nat.mul_pos h4 (Nat.two_pow_pos _)
        omega
      rw [hlt]; rfl
    · obtain rfl : r = 9218868437227405312 := by omega
      decide
theorem price_any (p : Nat) (hp : p < 18446744073709551616) (w : World) : Calls Tryz.prog 250 #[.int .u64 (p : Int)] w fun e w' => e = .returned (.bool (isPrice p)) ∧ w = w' := by
  have hf := fun w => T.frombits (p : Int) w
  rw [show ((p : Int)).toNat = p from rfl] at hf
  have HZ := Lib.hid (order_zero p hp)
  go_enter Tryz.func250, Tryz.ntmps250
  go_wp2_with fail
  go_ret
  exact ⟨by rw [← HZ.out]; rfl, rfl⟩
theorem cmpstr (a b : ByteArray) (w : World) : (callFunc 271 #[.string a, .string b]).run Tryz.prog w = .ok (.value (.int .i64 (Lib.compareBytes a.data.toList b.data.toList))) w := by
  rw [run_callFunc_extern Tryz.func271 (by kernel_rfl) (by kernel_rfl) (by kernel_rfl) (e := Extern.BytealgCompare.compare) (by kernel_rfl), Lib.run_compareString]
  rfl
theorem cmpIn_any (a b : ByteArray) (w : World) : Calls Tryz.prog 270 #[.string a, .string b] w fun e w' => e = .returned (.int .i64 (Lib.compareBytes a.data.toList b.data.toList)) ∧ w = w' := by
  have h := fun w => cmpstr a b w
  obtain ⟨n, hn⟩ : ∃ n, Lib.compareBytes a.data.toList b.data.toList = n := ⟨_, rfl⟩
  rw [hn] at h ⊢
  clear hn
  go_enter Tryz.func270, Tryz.ntmps270
  go_wp2_with fail
  go_ret
  exact ⟨rfl, rfl⟩
theorem cmp_any (a b : List UInt8) (w : World) : Calls Tryz.prog 266 #[.string ⟨a.toArray⟩, .string ⟨b.toArray⟩] w fun e w' => e = .returned (.int .i64 (Lib.compareBytes a b)) ∧ w = w' := by
  have h := fun w => cmpIn_any ⟨a.toArray⟩ ⟨b.toArray⟩ w
  obtain ⟨n, hn⟩ : ∃ n, Lib.compareBytes a b = n := ⟨_, rfl⟩
  rw [show Lib.compareBytes ((⟨a.toArray⟩ : ByteArray).data.toList) ((⟨b.toArray⟩ : ByteArray).data.toList) = n from hn] at h
  rw [hn]
  clear hn
  go_enter Tryz.func266, Tryz.ntmps266
  go_wp2_with (go_at_call 270; refine (h _).mono ?_; rintro e w' ⟨rfl, rfl⟩)
  go_ret
  exact ⟨rfl, rfl⟩
end Go.Proofs.YtpdedfpacklnoaaGreatDoor
