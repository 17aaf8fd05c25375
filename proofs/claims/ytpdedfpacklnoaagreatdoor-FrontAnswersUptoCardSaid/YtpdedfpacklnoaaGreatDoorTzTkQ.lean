/- Contracts of ormap's small questions: price, order. Contract of ormap.order: ordE; it tells aboveE. -/
import Derived.Test.YtpdedfpacklnoaaGreatDoorTzML
import Derived.Shelf.Small.Strs
import Derived.LoopN
set_option maxRecDepth 100000
namespace Go.Proofs.YtpdedfpacklnoaaGreatDoor
open Go.RowKit Go.BL Go.Ct Go.Sl Go.Fl Ieee

theorem order_zero (p : Nat) (hp : p < 18446744073709551616) : (FloatKind.f64.format.order p 0 == some Ordering.gt || FloatKind.f64.format.order p 0 == some Ordering.eq) = isPrice p := by
 show (double.order p 0 == some Ordering.gt || double.order p 0 == some Ordering.eq) = isPrice p
 unfold isPrice
 by_cases h1 : p ≤ 9218868437227405312
 ·rw [order_le h1 (by decide), decide_eq_true h1]
  rcases Nat.eq_zero_or_pos p with h | h
  ·subst h; rfl
  ·rw [Nat.compare_eq_gt.2 h]; rfl
 rw [decide_eq_false h1]
 by_cases h2 : p = 9223372036854775808
 ·subst h2; decide
 rw [decide_eq_false h2]
 by_cases h3 : isNaN p = true
 ·have : double.order p 0 = none := by
   obtain ⟨s, t, hr⟩ := (read_cases p).1 h3
   unfold Format.order
   rw [show double.read p = _ from hr]
   rfl
  rw [this]; rfl
 ·obtain ⟨r, rfl⟩ : ∃ r, p = 9223372036854775808 + r := by
   rw [isNaN_iff] at h3
   simp at h3
   exact ⟨p - 9223372036854775808, by omega⟩
  have hr : r ≤ 9218868437227405312 ∧ 0 < r := by
   rw [isNaN_iff] at h3
   simp at h3
   omega
  rcases Nat.lt_or_ge r 9218868437227405312 with h | h
  ·have e1 : (9223372036854775808 + r) % 9223372036854775808 = r := by omega
   have e2 : (9223372036854775808 + r) / 9223372036854775808 = 1 := by omega
   have hrd := read_finite (9223372036854775808 + r) (by omega)
   rw [e1, e2] at hrd
   have hlt : double.order (9223372036854775808 + r) 0 = some .lt := by
    unfold Format.order
    rw [hrd, read_pos (show 0 < 9218868437227405312 by decide)]
    simp only [Datum.order, Option.some.injEq]
    rw [Int.compare_eq_lt]
    have k1 : ∀ m u, signed (1 % 2 == 1) m u = -((m <<< u : Nat) : Int) := fun m u => rfl
    have k2 : signed false (sig 0) (plc 0 - min (plc r) (plc 0)).toNat = 0 := by
     show (((sig 0) <<< _ : Nat) : Int) = 0
     rw [show sig 0 = 0 from by decide]; simp
    rw [k1, k2]
    have h4 : 0 < sig r := Nat.pos_of_ne_zero (sig_pos hr.2)
    have h5 : 0 < sig r <<< (plc r - min (plc r) (plc 0)).toNat := by
     rw [Nat.shiftLeft_eq]; exact Nat.mul_pos h4 (Nat.two_pow_pos _)
    omega
   rw [hlt]; rfl
  ·obtain rfl : r = 9218868437227405312 := by omega
   decide
theorem price_any (p : Nat) (hp : p < 18446744073709551616) (w : World) : Calls Tryz.prog 250 #[.int .u64 (p : Int)] w fun e w' => e = .returned (.bool (isPrice p)) ∧ w = w' := by
 have hf := fun w => T.frombits (p : Int) w
 rw [show ((p : Int)).toNat = p from rfl] at hf
 have HZ := Lib.hid (order_zero p hp)
 go_enter Tryz.func250, Tryz.ntmps250
 go_wp2_with fail
 go_ret
 exact ⟨by rw [← HZ.out]; rfl, rfl⟩
theorem cmpstr (a b : ByteArray) (w : World) : (callFunc 271 #[.string a, .string b]).run Tryz.prog w = .ok (.value (.int .i64 (Lib.compareBytes a.data.toList b.data.toList))) w := by
 rw [run_callFunc_extern Tryz.func271 (by kernel_rfl) (by kernel_rfl) (by kernel_rfl) (e := Extern.BytealgCompare.compare) (by kernel_rfl), Lib.run_compareString]
 rfl
theorem cmpIn_any (a b : ByteArray) (w : World) : Calls Tryz.prog 270 #[.string a, .string b] w fun e w' => e = .returned (.int .i64 (Lib.compareBytes a.data.toList b.data.toList)) ∧ w = w' := by
 have h := fun w => cmpstr a b w
 obtain ⟨n, hn⟩ : ∃ n, Lib.compareBytes a.data.toList b.data.toList = n := ⟨_, rfl⟩
 rw [hn] at h ⊢
 clear hn
 go_enter Tryz.func270, Tryz.ntmps270
 go_wp2_with fail
 go_ret
 exact ⟨rfl, rfl⟩
theorem cmp_any (a b : List UInt8) (w : World) : Calls Tryz.prog 266 #[.string ⟨a.toArray⟩, .string ⟨b.toArray⟩] w fun e w' => e = .returned (.int .i64 (Lib.compareBytes a b)) ∧ w = w' := by
 have h := fun w => cmpIn_any ⟨a.toArray⟩ ⟨b.toArray⟩ w
 obtain ⟨n, hn⟩ : ∃ n, Lib.compareBytes a b = n := ⟨_, rfl⟩
 rw [show Lib.compareBytes ((⟨a.toArray⟩ : ByteArray).data.toList) ((⟨b.toArray⟩ : ByteArray).data.toList) = n from hn] at h
 rw [hn]
 clear hn
 go_enter Tryz.func266, Tryz.ntmps266
 go_wp2_with (go_at_call 270; refine (h _).mono ?_; rintro e w' ⟨rfl, rfl⟩)
 go_ret
 exact ⟨rfl, rfl⟩
end Go.Proofs.YtpdedfpacklnoaaGreatDoor
set_option maxRecDepth 100000
namespace Go.Proofs.YtpdedfpacklnoaaGreatDoor
open Go.RowKit Go.BL Go.Ct Go.Sl

def ordT (x0 x1 x2 : Int) : Int := if x0 ≠ 0 then x0 else if x1 ≠ 0 then x1 else x2
def ordE (a b : En) : Int := if Lib.compareBytes a.it b.it ≠ 0 then Lib.compareBytes a.it b.it else ordT (wrap64 (a.d.n - b.d.n)) (wrap64 (a.d.l - b.d.l)) (wrap64 (a.d.c - b.d.c))
theorem cmp_lt : ∀ a b : List UInt8, (a ≠ b → (0 ≤ Lib.compareBytes a b ↔ ltT a b = false) ∧ Lib.compareBytes a b ≠ 0) ∧ Lib.compareBytes a a = 0
 | [], [] => ⟨fun h => absurd rfl h, rfl⟩
 | [], _ :: _ => ⟨fun _ => ⟨by simp [Lib.compareBytes, ltT], by simp [Lib.compareBytes]⟩, rfl⟩
 | a :: r, [] => ⟨fun _ => ⟨by simp [Lib.compareBytes, ltT], by simp [Lib.compareBytes]⟩, by
  unfold Lib.compareBytes
  have h1 : ¬ a < a := fun h => by have := UInt8.lt_iff_toNat_lt.1 h; omega
  rw [if_neg h1, if_neg h1]; exact (cmp_lt r []).2⟩
 | a :: r, b :: s => by
  have h1 : ¬ a < a := fun h => by have := UInt8.lt_iff_toNat_lt.1 h; omega
  refine ⟨fun hne => ?_, by unfold Lib.compareBytes; rw [if_neg h1, if_neg h1]; exact (cmp_lt r s).2⟩
  unfold Lib.compareBytes ltT
  by_cases e : a = b
  ·subst e
   rw [if_neg h1, if_neg h1, if_pos rfl]
   exact (cmp_lt r s).1 (fun e2 => hne (by rw [e2]))
  ·rw [if_neg e]
   have hn : a.toNat ≠ b.toNat := fun e2 => e (UInt8.toNat_inj.1 e2)
   by_cases h2 : a < b
   ·have h3 := UInt8.lt_iff_toNat_lt.1 h2
    rw [if_pos h2, decide_eq_true h3]
    exact ⟨by simp, by decide⟩
   ·have h3 : ¬ a.toNat < b.toNat := fun h => h2 (UInt8.lt_iff_toNat_lt.2 h)
    have h4 : b < a := UInt8.lt_iff_toNat_lt.2 (by omega)
    rw [if_neg h2, if_pos h4, decide_eq_false h3]
    exact ⟨by simp, by decide⟩
theorem ord_above {a b : En} (ha : mayD a.d = true) (hb : mayD b.d = true) : decide (0 ≤ ordE a b) = !aboveE b a := by
 obtain ⟨i, ⟨n, l, c⟩, q, p⟩ := a
 obtain ⟨i', ⟨n', l', c'⟩, q', p'⟩ := b
 unfold ordE aboveE
 dsimp only at ha hb ⊢
 by_cases h : i = i'
 ·subst h
  rw [(cmp_lt i i).2, if_neg (by simp), if_neg (by simp)]
  have h1 := may_iff.1 ha
  have h2 := may_iff.1 hb
  dsimp only at h1 h2
  rw [Bool.eq_iff_iff]
  unfold ordT belowD wrap64
  dsimp only
  by_cases e1 : n = n'
  ·subst e1
   by_cases e2 : l = l'
   ·subst e2
    simp; omega
   ·simp [e2]; omega
  ·simp [e1]; omega
 ·have h1 := (cmp_lt i i').1 h
  rw [if_pos h1.2, if_pos (fun e => h e.symm), Bool.eq_iff_iff]
  simp only [decide_eq_true_eq, Bool.not_eq_true']
  exact h1.1
set_option maxHeartbeats 4000000 in
theorem order2_any (a b : En) (w : World) : Calls Tryz.prog 252 #[entV a, entV b] w (RetV (.int .i64 (ordE a b)) w) := by
 obtain ⟨i, ⟨n, l, c⟩, q, p⟩ := a
 obtain ⟨i', ⟨n', l', c'⟩, q', p'⟩ := b
 dsimp only [entV]
 obtain ⟨w0, hw0⟩ : ∃ x, (w.alloc (.cells #[.string ⟨i.toArray⟩, .int .i64 n, .int .i64 l, .int .i64 c, .int .i64 q, .int .u64 (p : Int)] 92)).alloc (.cells #[.string ⟨i'.toArray⟩, .int .i64 n', .int .i64 l', .int .i64 c', .int .i64 q', .int .u64 (p' : Int)] 92) = x := ⟨_, rfl⟩
 have HB : Hid (Below w.heap.size w w0) := Lib.hid (by rw [← hw0]; exact ((Below.refl w.heap.size w).alloc (Nat.le_refl _) _).alloc (by simp) _)
 have HA : Hid (Bk w0 w.heap.size [.string ⟨i.toArray⟩, .int .i64 n, .int .i64 l, .int .i64 c, .int .i64 q, .int .u64 (p : Int)]) := Lib.hid (by rw [← hw0]; exact (Bk.new w _ 92 rfl).alloc _ (by simp))
 have HB' : Hid (Bk w0 (w.heap.size + 1) [.string ⟨i'.toArray⟩, .int .i64 n', .int .i64 l', .int .i64 c', .int .i64 q', .int .u64 (p' : Int)]) := Lib.hid (by rw [← hw0]; exact Bk.new (w.alloc _) _ 92 (by simp))
 have a0 := (HA.out 0 _ rfl).1
 have a1 := (HA.out 1 _ rfl).1
 have a2 := (HA.out 2 _ rfl).1
 have a3 := (HA.out 3 _ rfl).1
 have b0 := (HB'.out 0 _ rfl).1
 have b1 := (HB'.out 1 _ rfl).1
 have b2 := (HB'.out 2 _ rfl).1
 have b3 := (HB'.out 3 _ rfl).1
 have hcm := fun w => cmp_any i i' w
 obtain ⟨x0, hx0⟩ : ∃ x, IntKind.i64.wrap (n - n') = x := ⟨_, rfl⟩
 obtain ⟨x1, hx1⟩ : ∃ x, IntKind.i64.wrap (l - l') = x := ⟨_, rfl⟩
 obtain ⟨x2, hx2⟩ : ∃ x, IntKind.i64.wrap (c - c') = x := ⟨_, rfl⟩
 obtain ⟨m, hm⟩ : ∃ m, Lib.compareBytes i i' = m := ⟨_, rfl⟩
 have HV : Hid (ordE ⟨i, ⟨n, l, c⟩, q, p⟩ ⟨i', ⟨n', l', c'⟩, q', p'⟩ = if m ≠ 0 then m else ordT x0 x1 x2) := Lib.hid (by
  unfold ordE; dsimp only; rw [hm, ← hx0, ← hx1, ← hx2, IntKind.wrap_i64, IntKind.wrap_i64, IntKind.wrap_i64]; unfold wrap64; rfl)
 rw [hm] at hcm
 clear hm
 go_enter Tryz.func252, Tryz.ntmps252
 go_wp2_with (go_at_call 266; refine (hcm _).mono ?_; rintro e w' ⟨rfl, rfl⟩)
 obtain ⟨y, hy⟩ : ∃ y, w0.alloc (.cells #[.int .i64 x0, .int .i64 x1, .int .i64 x2] 3) = y := ⟨_, rfl⟩
 obtain ⟨z0, z1, z2⟩ : y.cell? ⟨w0.heap.size, 0, none⟩ = some (.int .i64 x0) ∧ y.cell? ⟨w0.heap.size, 1, none⟩ = some (.int .i64 x1) ∧ y.cell? ⟨w0.heap.size, 2, none⟩ = some (.int .i64 x2) := by rw [← hy]; exact tri_at w0 _ _ _ 3 _ rfl
 have HY : Hid (Below w.heap.size w y) := Lib.hid (by rw [← hy]; exact HB.out.alloc HB.out.size _)
 rw [hy]
 clear hy hw0 a0 a1 a2 a3 b0 b1 b2 b3
 by_cases h0 : m = 0
 case neg =>
  have g0 : (m == 0) = false := beq_false_of_ne h0
  have HW : Hid (ordE ⟨i, ⟨n, l, c⟩, q, p⟩ ⟨i', ⟨n', l', c'⟩, q', p'⟩ = m) := Lib.hid (by rw [HV.out, if_pos h0])
  clear h0
  refine wp_loop_rounds 4 ?_
  rw [rounds_succ]
  go_wp2_with fail
  rw [rounds_succ]
  go_wp2_with fail
  rw [rounds_succ]
  go_wp2_with fail
  rw [rounds_succ]
  go_wp2_with fail
  go_ret
  exact ⟨by rw [HW.out]; rfl, HY.out⟩
 subst h0
 by_cases h0 : x0 = 0
 case neg =>
  have g0 : (x0 == 0) = false := beq_false_of_ne h0
  have HW : Hid (ordE ⟨i, ⟨n, l, c⟩, q, p⟩ ⟨i', ⟨n', l', c'⟩, q', p'⟩ = x0) := Lib.hid (by rw [HV.out, if_neg (by simp)]; unfold ordT; rw [if_pos h0])
  clear h0
  refine wp_loop_rounds 4 ?_
  rw [rounds_succ]
  go_wp2_with fail
  rw [rounds_succ]
  go_wp2_with fail
  rw [rounds_succ]
  go_wp2_with fail
  rw [rounds_succ]
  go_wp2_with fail
  go_ret
  exact ⟨by rw [HW.out]; rfl, HY.out⟩
 by_cases h1 : x1 = 0
 case neg =>
  have g0 : (x1 == 0) = false := beq_false_of_ne h1
  have HW : Hid (ordE ⟨i, ⟨n, l, c⟩, q, p⟩ ⟨i', ⟨n', l', c'⟩, q', p'⟩ = x1) := Lib.hid (by rw [HV.out, if_neg (by simp)]; unfold ordT; rw [if_neg (by simp [h0]), if_pos h1])
  have g1 : (x0 == 0) = true := by rw [h0]; rfl
  clear h1 h0
  refine wp_loop_rounds 4 ?_
  rw [rounds_succ]
  go_wp2_with fail
  rw [rounds_succ]
  go_wp2_with fail
  rw [rounds_succ]
  go_wp2_with fail
  rw [rounds_succ]
  go_wp2_with fail
  go_ret
  exact ⟨by rw [HW.out]; rfl, HY.out⟩
 have HW : Hid (ordE ⟨i, ⟨n, l, c⟩, q, p⟩ ⟨i', ⟨n', l', c'⟩, q', p'⟩ = x2) := Lib.hid (by rw [HV.out, if_neg (by simp)]; unfold ordT; rw [if_neg (by simp [h0]), if_neg (by simp [h1])])
 have g1 : (x0 == 0) = true := by rw [h0]; rfl
 have g2 : (x1 == 0) = true := by rw [h1]; rfl
 clear h1 h0
 refine wp_loop_rounds 4 ?_
 rw [rounds_succ]
 go_wp2_with fail
 rw [rounds_succ]
 go_wp2_with fail
 rw [rounds_succ]
 go_wp2_with fail
 rw [rounds_succ]
 go_wp2_with fail
 go_ret
 exact ⟨by rw [HW.out]; rfl, HY.out⟩
end Go.Proofs.YtpdedfpacklnoaaGreatDoor
