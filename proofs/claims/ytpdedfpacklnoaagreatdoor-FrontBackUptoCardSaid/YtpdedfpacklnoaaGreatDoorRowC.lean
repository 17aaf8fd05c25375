/- An own row of lines: its last line, read and written. -/
import Derived.Test.YtpdedfpacklnoaaGreatDoorFbP
set_option maxRecDepth 100000
namespace Go.Proofs.YtpdedfpacklnoaaGreatDoor
open Go.RowKit Go.BL Go.Ct Go.Sl

theorem heap_set (w : World) (g i : Nat) (u : Value) {cur : Array Value} {e : TypeId} {fz : Nat × Nat} (h : w.heap[g]? = some (.cells cur e fz)) : (w.setCell ⟨g, i, none⟩ u).heap[g]? = some (.cells (cur.setIfInBounds i u) e fz) := by
  unfold World.setCell
  dsimp only
  rw [Array.getElem?_modify, if_pos rfl, h]
  rfl
theorem own_set {t k : Nat} {w : World} {B n g cap : Nat} {xs : List Value} (h : w.ownsRow B t k (.slice (some ⟨g, 0, none⟩) n cap) n xs) (i : Nat) (u : Value) : (w.setCell ⟨g, i, none⟩ u).ownsRow B t k (.slice (some ⟨g, 0, none⟩) n cap) n (xs.set i u) := by
  refine ⟨by rw [List.length_set]; exact h.1, ?_⟩
  rcases h.2 with ⟨h0, _⟩ | ⟨g', cap', cur, hv, hg, hh, h1, h2, h3, h4⟩
  · cases h0
  · injection hv with hv1 _ hv3
    injection hv1 with hv1
    injection hv1 with hv1
    subst hv1 hv3
    refine .inr ⟨g, cap, cur.setIfInBounds i u, rfl, hg, heap_set w g i u hh, h1, h2, by simpa using h3, ?_⟩
    rw [Array.toList_setIfInBounds, List.take_set, h4]
theorem own_last {w : World} {B : Nat} {v : Value} {o : List Ln} {x : Ln} (h : OwnS 54 3 lnC w B v (o ++ [x])) : ∃ g cap, v = .slice (some ⟨g, 0, none⟩) (o.length + 1) cap ∧ B ≤ g ∧ g < w.heap.size ∧
    (w.cell? ⟨g, o.length * 3, none⟩ = some (.string ⟨x.it.toArray⟩) ∧ w.cell? ⟨g, o.length * 3 + 1, none⟩ = some (.int .i64 x.q) ∧ w.cell? ⟨g, o.length * 3 + 2, none⟩ = some (.int .u64 (x.p : Int))) ∧
    (∀ i, w.frozen? ⟨g, i, none⟩ = false) ∧
    ∀ (q : Int) (p : Nat), OwnS 54 3 lnC ((w.setCell ⟨g, o.length * 3 + 1, none⟩ (.int .i64 q)).setCell ⟨g, o.length * 3 + 2, none⟩ (.int .u64 (p : Int))) B v (o ++ [⟨x.it, q, p⟩]) := by
  have hlen : (o ++ [x]).length = o.length + 1 := by simp
  rcases h.2 with ⟨_, h0⟩ | ⟨g, cap, cur, hv, hg, hh, h1, h2, h3, h4⟩
  · rw [hlen] at h0; omega
  rw [hlen] at hv
  have hlt : g < w.heap.size := by
    rcases Nat.lt_or_ge g w.heap.size with h' | h'
    · exact h'
    · rw [Array.getElem?_eq_none h'] at hh; cases hh
  have hfo : (flat lnC o).length = o.length * 3 := flat_len lnC_len o
  have hfl : flat lnC (o ++ [x]) = flat lnC o ++ lnC x := by rw [flat_app]; simp [flat]
  have hcell : ∀ (j : Nat) (u : Value), (lnC x)[j]? = some u → w.cell? ⟨g, o.length * 3 + j, none⟩ = some u := fun j u hj => by
    have hc := World.ownsRow.cells h (g := g) (by rw [hv]; rfl) (o.length * 3 + j) u (by
      rw [hfl, List.getElem?_append_right (by omega), hfo, show o.length * 3 + j - o.length * 3 = j by omega]; exact hj)
    rw [add_none] at hc
    simpa using hc
  refine ⟨g, cap, hv, hg, hlt, ⟨hcell 0 _ rfl, hcell 1 _ rfl, hcell 2 _ rfl⟩, fun i => ?_, fun q p => ?_⟩
  · unfold World.frozen?
    simp [hh]
  · have h5 : w.ownsRow B 54 3 (.slice (some ⟨g, 0, none⟩) (o.length + 1) cap) (o.length + 1) (flat lnC (o ++ [x])) := by
      have := h; unfold OwnS at this; rw [hlen, hv] at this; exact this
    have h6 := own_set (own_set h5 (o.length * 3 + 1) (.int .i64 q)) (o.length * 3 + 2) (.int .u64 (p : Int))
    have e6 : ((flat lnC (o ++ [x])).set (o.length * 3 + 1) (.int .i64 q)).set (o.length * 3 + 2) (.int .u64 (p : Int)) = flat lnC (o ++ [⟨x.it, q, p⟩]) := by
      rw [hfl, List.set_append_right _ _ (by omega), List.set_append_right _ _ (by omega), hfo, show o.length * 3 + 1 - o.length * 3 = 1 by omega, show o.length * 3 + 2 - o.length * 3 = 2 by omega, flat_app]
      simp [flat, lnC]
    rw [e6] at h6
    unfold OwnS
    rw [show (o ++ [(⟨x.it, q, p⟩ : Ln)]).length = o.length + 1 by simp, hv]
    exact h6
theorem last_of {o : List Ln} (h : o ≠ []) : ∃ o' x, o = o' ++ [x] := ⟨o.dropLast, o.getLast h, (List.dropLast_concat_getLast h).symm⟩
end Go.Proofs.YtpdedfpacklnoaaGreatDoor
