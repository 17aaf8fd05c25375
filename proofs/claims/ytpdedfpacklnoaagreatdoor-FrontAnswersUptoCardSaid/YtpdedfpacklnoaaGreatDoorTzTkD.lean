/- Contract of causal.dots: listR. -/
import Derived.Test.YtpdedfpacklnoaaGreatDoorTzML
import Derived.Test.YtpdedfpacklnoaaGreatDoorTzMW
import Derived.LoopN
set_option maxRecDepth 100000
namespace Go.Proofs.YtpdedfpacklnoaaGreatDoor
open Go.RowKit Go.BL Go.Ct Go.Sl Go.Wr W

theorem Bk.kept {w w' : World} {D : Nat} {vs : List Value} {rows : List Nat} (k : Bk w D vs) (h : Kept rows w w') (hD : D < w.heap.size) (hn : D ∉ rows) : Bk w' D vs := fun i v hv => by
 have e := h.block D hD hn
 refine ⟨(World.cell?_of_block (a := ⟨D, i, none⟩) (w := w) (w' := w') e).trans (k i v hv).1, ?_⟩
 have := (k i v hv).2
 unfold World.frozen? at this ⊢
 dsimp only at this ⊢
 rw [e]; exact this
theorem _root_.Go.Sl.OwnS.kept {α : Type} {t k : Nat} {f : α → List Value} {w w' : World} {B : Nat} {v : Value} {l : List α} {rows : List Nat} (h : OwnS t k f w B v l) (kp : Kept rows w w') (hr : ∀ g, v.ownBlock = some g → g ∉ rows) : OwnS t k f w' B v l := by
 refine ⟨h.1, ?_⟩
 rcases h.2 with h0 | ⟨g, cap, cur, hv, hg, hh, r⟩
 ·exact .inl h0
 ·have hlt : g < w.heap.size := by
   rcases Nat.lt_or_ge g w.heap.size with h' | h'
   ·exact h'
   ·rw [Array.getElem?_eq_none h'] at hh; cases hh
  exact .inr ⟨g, cap, cur, hv, hg, (kp.block g hlt (hr g (by rw [hv]; rfl))).trans hh, r⟩
theorem info90 : (Tryz.prog.info? 90).map (fun i => (i.zero, i.size, i.bytes)) = some (some (.agg #[.int .i64 0, .int .i64 0, .int .i64 0]), 3, 24) := by kernel_rfl
end Go.Proofs.YtpdedfpacklnoaaGreatDoor
