/- Contract of ormap.order: ordE; it tells aboveE. -/
import Derived.Test.YtpdedfpacklnoaaGreatDoorTkQ
set_option maxRecDepth 100000
namespace Go.Proofs.YtpdedfpacklnoaaGreatDoor
open Go.RowKit Go.BL Go.Ct Go.Sl

def ordT (x0 x1 x2 : Int) : Int := if x0 ≠ 0 then x0 else if x1 ≠ 0 then x1 else x2
def ordE (a b : En) : Int := if Lib.compareBytes a.it b.it ≠ 0 then Lib.compareBytes a.it b.it else ordT (wrap64 (a.d.n - b.d.n)) (wrap64 (a.d.l - b.d.l)) (wrap64 (a.d.c - b.d.c))
theorem cmp_lt : ∀ a b : List UInt8, (a ≠ b → (0 ≤ Lib.compareBytes a b ↔ ltT a b = false) ∧ Lib.compareBytes a b ≠ 0) ∧ Lib.compareBytes a a = 0
  | [], [] => ⟨fun h => absurd rfl h, rfl⟩
  | [], _ :: _ => ⟨fun _ => ⟨by simp [Lib.compareBytes, ltT], by simp [Lib.compareBytes]⟩, rfl⟩
  | a :: r, [] => ⟨fun _ => ⟨by simp [Lib.compareBytes, ltT], by simp [Lib.compareBytes]⟩, by
    unfold Lib.compareBytes
    have h1 : ¬ a < a := fun h => by have := UInt8.lt_iff_toNat_lt.1 h; omega
    rw [if_neg h1, if_neg h1]; exact (cmp_lt r []).2⟩
  | a :: r, b :: s => by
    have h1 : ¬ a < a := fun h => by have := UInt8.lt_iff_toNat_lt.1 h; omega
    refine ⟨fun hne => ?_, by unfold Lib.compareBytes; rw [if_neg h1, if_neg h1]; exact (cmp_lt r s).2⟩
    unfold Lib.compareBytes ltT
    by_cases e : a = b
    · subst e
      rw [if_neg h1, if_neg h1, if_pos rfl]
      exact (cmp_lt r s).1 (fun e2 => hne (by rw [e2]))
    · rw [if_neg e]
      have hn : a.toNat ≠ b.toNat := fun e2 => e (UInt8.toNat_inj.1 e2)
      by_cases h2 : a < b
      · have h3 := UInt8.lt_iff_toNat_lt.1 h2
        rw [if_pos h2, decide_eq_true h3]
        exact ⟨by simp, by decide⟩
      · have h3 : ¬ a.toNat < b.toNat := fun h => h2 (UInt8.lt_iff_toNat_lt.2 h)
        have h4 : b < a := UInt8.lt_iff_toNat_lt.2 (by omega)
        rw [if_neg h2, if_pos h4, decide_eq_false h3]
        exact ⟨by simp, by decide⟩
theorem ord_above {a b : En} (ha : mayD a.d = true) (hb : mayD b.d = true) : decide (0 ≤ ordE a b) = !aboveE b a := by
  obtain ⟨i, ⟨n, l, c⟩, q, p⟩ := a
  obtain ⟨i', ⟨n', l', c'⟩, q', p'⟩ := b
  unfold ordE aboveE
  dsimp only at ha hb ⊢
  by_cases h : i = i'
  · subst h
    rw [(cmp_lt i i).2, if_neg (by simp), if_neg (by simp)]
    have h1 := may_iff.1 ha
    have h2 := may_iff.1 hb
    dsimp only at h1 h2
    rw [Bool.eq_iff_iff]
    unfold ordT belowD wrap64
    dsimp only
    by_cases e1 : n = n'
    · subst e1
      by_cases e2 : l = l'
      · subst e2
        simp; omega
      · simp [e2]; omega
    · simp [e1]; omega
  · have h1 := (cmp_lt i i').1 h
    rw [if_pos h1.2, if_pos (fun e => h e.symm), Bool.eq_iff_iff]
    simp only [decide_eq_true_eq, Bool.not_eq_true']
    exact h1.1
set_option maxHeartbeats 4000000 in
theorem order2_any (a b : En) (w : World) : Calls Tryz.prog 252 #[entV a, entV b] w (RetV (.int .i64 (ordE a b)) w) := by
  obtain ⟨i, ⟨n, l, c⟩, q, p⟩ := a
  obtain ⟨i', ⟨n', l', c'⟩, q', p'⟩ := b
  dsimp only [entV]
  obtain ⟨w0, hw0⟩ : ∃ x, (w.alloc (.cells #[.string ⟨i.toArray⟩, .int .i64 n, .int .i64 l, .int .i64 c, .int .i64 q, .int .u64 (p : Int)] 92)).alloc (.cells #[.string ⟨i'.toArray⟩, .int .i64 n', .int .i64 l', .int .i64 c', .int .i64 q', .int .u64 (p' : Int)] 92) = x := ⟨_, rfl⟩
  have HB : Hid (Below w.heap.size w w0) := Lib.hid (by rw [← hw0]; exact ((Below.refl w.heap.size w).alloc (Nat.le_refl _) _).alloc (by simp) _)
  have HA : Hid (Bk w0 w.heap.size [.string ⟨i.toArray⟩, .int .i64 n, .int .i64 l, .int .i64 c, .int .i64 q, .int .u64 (p : Int)]) := Lib.hid (by rw [← hw0]; exact (Bk.new w _ 92 rfl).alloc _ (by simp))
  have HB' : Hid (Bk w0 (w.heap.size + 1) [.string ⟨i'.toArray⟩, .int .i64 n', .int .i64 l', .int .i64 c', .int .i64 q', .int .u64 (p' : Int)]) := Lib.hid (by rw [← hw0]; exact Bk.new (w.alloc _) _ 92 (by simp))
  have a0 := (HA.out 0 _ rfl).1
  have a1 := (HA.out 1 _ rfl).1
  have a2 := (HA.out 2 _ rfl).1
  have a3 := (HA.out 3 _ rfl).1
  have b0 := (HB'.out 0 _ rfl).1
  have b1 := (HB'.out 1 _ rfl).1
  have b2 := (HB'.out 2 _ rfl).1
  have b3 := (HB'.out 3 _ rfl).1
  have hcm := fun w => cmp_any i i' w
  obtain ⟨x0, hx0⟩ : ∃ x, IntKind.i64.wrap (n - n') = x := ⟨_, rfl⟩
  obtain ⟨x1, hx1⟩ : ∃ x, IntKind.i64.wrap (l - l') = x := ⟨_, rfl⟩
  obtain ⟨x2, hx2⟩ : ∃ x, IntKind.i64.wrap (c - c') = x := ⟨_, rfl⟩
  obtain ⟨m, hm⟩ : ∃ m, Lib.compareBytes i i' = m := ⟨_, rfl⟩
  have HV : Hid (ordE ⟨i, ⟨n, l, c⟩, q, p⟩ ⟨i', ⟨n', l', c'⟩, q', p'⟩ = if m ≠ 0 then m else ordT x0 x1 x2) := Lib.hid (by
    unfold ordE; dsimp only; rw [hm, ← hx0, ← hx1, ← hx2, IntKind.wrap_i64, IntKind.wrap_i64, IntKind.wrap_i64]; unfold wrap64; rfl)
  rw [hm] at hcm
  clear hm
  go_enter Tryz.func252, Tryz.ntmps252
  go_wp2_with (go_at_call 266; refine (hcm _).mono ?_; rintro e w' ⟨rfl, rfl⟩)
  obtain ⟨y, hy⟩ : ∃ y, w0.alloc (.cells #[.int .i64 x0, .int .i64 x1, .int .i64 x2] 3) = y := ⟨_, rfl⟩
  obtain ⟨z0, z1, z2⟩ : y.cell? ⟨w0.heap.size, 0, none⟩ = some (.int .i64 x0) ∧ y.cell? ⟨w0.heap.size, 1, none⟩ = some (.int .i64 x1) ∧ y.cell? ⟨w0.heap.size, 2, none⟩ = some (.int .i64 x2) := by rw [← hy]; exact tri_at w0 _ _ _ 3 _ rfl
  have HY : Hid (Below w.heap.size w y) := Lib.hid (by rw [← hy]; exact HB.out.alloc HB.out.size _)
  rw [hy]
  clear hy hw0 a0 a1 a2 a3 b0 b1 b2 b3
  by_cases h0 : m = 0
  case neg =>
    have g0 : (m == 0) = false := beq_false_of_ne h0
    have HW : Hid (ordE ⟨i, ⟨n, l, c⟩, q, p⟩ ⟨i', ⟨n', l', c'⟩, q', p'⟩ = m) := Lib.hid (by rw [HV.out, if_pos h0])
    clear h0
    refine wp_loop_rounds 4 ?_
    rw [rounds_succ]
    go_wp2_with fail
    rw [rounds_succ]
    go_wp2_with fail
    rw [rounds_succ]
    go_wp2_with fail
    rw [rounds_succ]
    go_wp2_with fail
    go_ret
    exact ⟨by rw [HW.out]; rfl, HY.out⟩
  subst h0
  by_cases h0 : x0 = 0
  case neg =>
    have g0 : (x0 == 0) = false := beq_false_of_ne h0
    have HW : Hid (ordE ⟨i, ⟨n, l, c⟩, q, p⟩ ⟨i', ⟨n', l', c'⟩, q', p'⟩ = x0) := Lib.hid (by rw [HV.out, if_neg (by simp)]; unfold ordT; rw [if_pos h0])
    clear h0
    refine wp_loop_rounds 4 ?_
    rw [rounds_succ]
    go_wp2_with fail
    rw [rounds_succ]
    go_wp2_with fail
    rw [rounds_succ]
    go_wp2_with fail
    rw [rounds_succ]
    go_wp2_with fail
    go_ret
    exact ⟨by rw [HW.out]; rfl, HY.out⟩
  by_cases h1 : x1 = 0
  case neg =>
    have g0 : (x1 == 0) = false := beq_false_of_ne h1
    have HW : Hid (ordE ⟨i, ⟨n, l, c⟩, q, p⟩ ⟨i', ⟨n', l', c'⟩, q', p'⟩ = x1) := Lib.hid (by rw [HV.out, if_neg (by simp)]; unfold ordT; rw [if_neg (by simp [h0]), if_pos h1])
    have g1 : (x0 == 0) = true := by rw [h0]; rfl
    clear h1 h0
    refine wp_loop_rounds 4 ?_
    rw [rounds_succ]
    go_wp2_with fail
    rw [rounds_succ]
    go_wp2_with fail
    rw [rounds_succ]
    go_wp2_with fail
    rw [rounds_succ]
    go_wp2_with fail
    go_ret
    exact ⟨by rw [HW.out]; rfl, HY.out⟩
  have HW : Hid (ordE ⟨i, ⟨n, l, c⟩, q, p⟩ ⟨i', ⟨n', l', c'⟩, q', p'⟩ = x2) := Lib.hid (by rw [HV.out, if_neg (by simp)]; unfold ordT; rw [if_neg (by simp [h0]), if_neg (by simp [h1])])
  have g1 : (x0 == 0) = true := by rw [h0]; rfl
  have g2 : (x1 == 0) = true := by rw [h1]; rfl
  clear h1 h0
  refine wp_loop_rounds 4 ?_
  rw [rounds_succ]
  go_wp2_with fail
  rw [rounds_succ]
  go_wp2_with fail
  rw [rounds_succ]
  go_wp2_with fail
  rw [rounds_succ]
  go_wp2_with fail
  go_ret
  exact ⟨by rw [HW.out]; rfl, HY.out⟩
end Go.Proofs.YtpdedfpacklnoaaGreatDoor
