/- Plain: an answer that can be written. No program. -/
import Derived.Test.YtpdedfpacklnoaaGreatDoorTzRdP
set_option maxRecDepth 100000
namespace Go.Proofs.YtpdedfpacklnoaaGreatDoor
open Go.RowKit Go.BL Go.Ct Go.Sl

/-- An answer that can be written. -/
def GoodA (a : H.Ans) : Prop := (H.reasonL a.st ≠ [] ∧ a.hs.all H.fieldL = true ∧ a.hs.length < 32 ∧ a.b.length ≤ 4096 ∧ (H.headA a).length ≤ 65540) ∧ ∀ x ∈ a.hs, x.1.length ≤ 100000 ∧ x.2.length ≤ 100000
theorem good_refA (st : Int) : GoodA (refA st) := ⟨refA_wr st, fun x hx => by cases hx⟩
theorem good_answerA (kind st : Int) (c : Ct) (hp : ∀ e ∈ c.es, e.p < 18446744073709551616) : GoodA (answerL kind st c) := by
 refine ⟨answer_wr kind st c hp, ?_⟩
 unfold answerL
 by_cases h0 : st ≠ 200
 ·rw [if_pos h0]; intro x hx; cases hx
 rw [if_neg h0]
 by_cases h1 : canC c ≠ 0
 ·rw [if_pos h1]; intro x hx; cases hx
 rw [if_neg h1]
 have ht := tok_len (Decidable.not_not.1 h1) hp
 split
 ·intro x hx; rw [List.mem_singleton.1 hx]; exact ⟨by show 12 ≤ 100000; omega, by show (tokT c).length ≤ 100000; omega⟩
 ·intro x hx; rw [List.mem_singleton.1 hx]; exact ⟨by show 12 ≤ 100000; omega, by show (tokT c).length ≤ 100000; omega⟩
theorem same_selfA (a : H.Ans) : H.sameA a a = true := by unfold H.sameA; simp
end Go.Proofs.YtpdedfpacklnoaaGreatDoor
