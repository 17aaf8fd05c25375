/- Contracts of the document's small questions: pieces, price, rank, a dot, a mark, below, a name. -/
import Derived.Test.YtpdedfpacklnoaaGreatDoorFbP
set_option maxRecDepth 100000
namespace Go.Proofs.YtpdedfpacklnoaaGreatDoor
open Go.RowKit Go.BL Go.Ct Go.Sl

theorem qty_any (n l : Int) (w : World) : Calls Tryz.prog 41 #[.int .i64 n, .int .i64 l] w fun e w' => e = .returned (.bool (decide (l ≤ n) && decide (n ≤ 1000000))) ∧ w = w' := by
  go_enter Tryz.func41, Tryz.ntmps41
  go_wp2
  all_goals go_ret
  all_goals (refine ⟨congrArg (fun b => Ending.returned (Value.bool b)) ?_, rfl⟩; rw [Bool.eq_iff_iff]; simp; omega)
theorem isPrice_any (p : Nat) (w : World) : Calls Tryz.prog 42 #[.int .u64 (p : Int)] w fun e w' => e = .returned (.bool (isPrice p)) ∧ w = w' := by
  unfold isPrice
  go_enter Tryz.func42, Tryz.ntmps42
  go_wp2
  all_goals go_ret
  all_goals (refine ⟨congrArg (fun b => Ending.returned (Value.bool b)) ?_, rfl⟩; rw [Bool.eq_iff_iff]; simp; omega)
set_option maxHeartbeats 2000000 in
theorem mayR_any (d : Dt) (w : World) : Calls Tryz.prog 90 #[dotV d] w (RetV (.bool (mayD d)) w) := by
  obtain ⟨n, l, c⟩ := d
  dsimp only [dotV]
  have HB := Lib.hid ((Below.refl w.heap.size w).alloc (Nat.le_refl _) (.cells #[.int .i64 n, .int .i64 l, .int .i64 c] 90))
  go_enter Tryz.func90, Tryz.ntmps90
  go_wp2
  all_goals go_ret
  all_goals (refine ⟨congrArg (fun b => Ending.returned (Value.bool b)) ?_, HB.out⟩; unfold mayD; rw [Bool.eq_iff_iff]; simp; omega)
theorem mayMark_any (d : Dt) (w : World) : Calls Tryz.prog 89 #[dotV d] w (RetV (.bool (mayD d)) w) := by
  obtain ⟨b, hb⟩ : ∃ b, mayD d = b := ⟨_, rfl⟩
  have hm := fun w => mayR_any d w
  rw [hb] at hm ⊢
  obtain ⟨n, l, c⟩ := d
  dsimp only [dotV] at hm ⊢
  obtain ⟨w0, hw0⟩ : ∃ w0, w.alloc (.cells #[.int .i64 n, .int .i64 l, .int .i64 c] 150) = w0 := ⟨_, rfl⟩
  obtain ⟨e0, e1, e2⟩ := tri_at w (.int .i64 n) (.int .i64 l) (.int .i64 c) 150 w.heap.size rfl
  rw [hw0] at e0 e1 e2
  have HB := Lib.hid ((Below.refl w.heap.size w).alloc (Nat.le_refl _) (.cells #[.int .i64 n, .int .i64 l, .int .i64 c] 150))
  rw [hw0] at HB
  clear hb
  go_enter Tryz.func89, Tryz.ntmps89
  go_wp2_with fail
  go_at_call 90
  refine (hm _).mono ?_
  rintro e w2 ⟨rfl, hb⟩
  clear hm
  have HB2 := Lib.hid (HB.out.trans (hb.mono HB.out.size))
  clear hb
  go_wp2_with fail
  go_ret
  exact ⟨rfl, HB2.out⟩
set_option maxHeartbeats 2000000 in
theorem belowR_any (a b : Dt) (w : World) : Calls Tryz.prog 92 #[dotV a, dotV b] w (RetV (.bool (belowD a b)) w) := by
  obtain ⟨n, l, c⟩ := a
  obtain ⟨n', l', c'⟩ := b
  dsimp only [dotV]
  have HB := Lib.hid (((Below.refl w.heap.size w).alloc (Nat.le_refl _) (.cells #[.int .i64 n, .int .i64 l, .int .i64 c] 90)).alloc (by simp) (.cells #[.int .i64 n', .int .i64 l', .int .i64 c'] 90))
  by_cases h : n = n'
  case neg =>
    have g2 : (n != n') = true := bne_iff_ne.2 h
    have g3 : belowD ⟨n, l, c⟩ ⟨n', l', c'⟩ = decide (n < n') := by simp [belowD, h]
    rw [g3]
    clear h g3
    go_enter Tryz.func92, Tryz.ntmps92
    go_wp2
    all_goals go_ret
    all_goals exact ⟨rfl, HB.out⟩
  subst h
  have g0 : (n != n) = false := by simp
  by_cases h : l = l'
  case neg =>
    have g2 : (l != l') = true := bne_iff_ne.2 h
    have g3 : belowD ⟨n, l, c⟩ ⟨n, l', c'⟩ = decide (l < l') := by simp [belowD, h]
    rw [g3]
    clear h g3
    go_enter Tryz.func92, Tryz.ntmps92
    go_wp2
    all_goals go_ret
    all_goals exact ⟨rfl, HB.out⟩
  subst h
  have g1 : (l != l) = false := by simp
  have g3 : belowD ⟨n, l, c⟩ ⟨n, l, c'⟩ = decide (c < c') := by simp [belowD]
  rw [g3]
  clear g3
  go_enter Tryz.func92, Tryz.ntmps92
  go_wp2
  all_goals go_ret
  all_goals exact ⟨rfl, HB.out⟩
end Go.Proofs.YtpdedfpacklnoaaGreatDoor
