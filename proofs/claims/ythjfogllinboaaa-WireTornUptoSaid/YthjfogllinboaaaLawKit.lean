/- Small words for the walks of the laws. -/
import Derived.Test.YthjfogllinboaaaEq
import Derived.Test.YthjfogllinboaaaReadsLaw
namespace Go.Proofs.Ythjfogllinboaaa
open Go.RowKit Go.BL Go.Wr
theorem equal_same' (A C : Option Addr) (n cap cap' : Nat) (bs : List Nat) (w : World) (hr : Rd w A n bs) (hs : Rd w C n bs) :
    Calls Try.prog 13 #[.slice A n cap, .slice C n cap'] w (RetV (.bool true) w) :=
  (equal_any A C n n cap cap' bs bs w hr hs).mono fun e w' ⟨he, k, hw⟩ => by
    subst hw
    refine ⟨by rw [he, decide_eq_true rfl], ⟨rfl, rfl, rfl, Nat.le_refl _, fun _ _ => rfl⟩⟩
theorem own_rd {w : World} {B n cap : Nat} {A : Option Addr} {bs : List Nat} (h : Own w B (.slice A n cap) bs) : Rd w A bs.length bs := by
  obtain ⟨A', cap', e, hr⟩ := h.rd
  injection e with e1 _ _
  subst e1
  exact hr
theorem rows_own {A : Option Addr} {n c g : Nat} (h : (Value.slice A n c).ownBlock = some g) : g ∈ rowsOf A := by
  cases A with
  | none => cases h
  | some a => simp only [Value.ownBlock, Option.some.injEq] at h; simp [rowsOf, h]
end Go.Proofs.Ythjfogllinboaaa
