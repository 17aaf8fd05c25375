/- Contract of the document's causal Can: canX. -/
import Derived.Test.YtpdedfpacklnoaaGreatDoorTqRfD
import Derived.BigQuiet
namespace Go.Proofs.YtpdedfpacklnoaaGreatDoor.R
open Go.RowKit Go.BL Go.Ct Go.Sl

/-- The one ahead of the k-th. -/
def prv (l : List Dt) : Nat → Option Dt
 | 0 => none
 | k + 1 => l[k]?
theorem prv_succ {l : List Dt} {k : Nat} (h : k < l.length) : prv l (k + 1) = some l[k] := List.getElem?_eq_getElem h
theorem ms_bad {p : Option Dt} {m : Dt} {r : List Dt} (h : mayD m = false) : canMs p (m :: r) = false := by
 cases p <;> simp [canMs, h]
theorem cl_step (ms : List Dt) (p : Option Dt) (d : Dt) (r : List Dt) : canCl ms p (d :: r) = (mayD d && decide (markOf ms d.n d.l + 1 < d.c) && (match p with | none => true | some x => belowD x d) && canCl ms (some d) r) := by
 cases p <;> simp [canCl]
theorem mark_range {ms : List Dt} (h : ∀ m ∈ ms, mayD m = true) (n l : Int) : 0 ≤ markOf ms n l ∧ markOf ms n l ≤ 1099511627776 := by
 rcases mark_may ms h n l with h0 | ⟨m, hm, _, _, hc⟩
 ·omega
 ·have := may_iff.1 (h m hm)
  omega
theorem ms_zero {d : Dt} {r : List Dt} {b : Bool} (h : mayD d = true) (e : canMs none (d :: r) = b) : canMs (some d) r = b := by rw [← e]; simp [canMs, h]
theorem ms_some {x d : Dt} {r : List Dt} {b : Bool} (h : mayD d = true) (h2 : belowA x d = true) (e : canMs (some x) (d :: r) = b) : canMs (some d) r = b := by rw [← e]; simp [canMs, h, h2]
theorem ms_no {x d : Dt} {r : List Dt} (h2 : belowA x d = false) : canMs (some x) (d :: r) = false := by simp [canMs, h2]
end Go.Proofs.YtpdedfpacklnoaaGreatDoor.R
