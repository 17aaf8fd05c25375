/- Contract of the document's Can of a cart: canC. -/
import Derived.Test.YtpdedfpacklnoaaGreatDoorTqRfA
import Derived.Test.YtpdedfpacklnoaaGreatDoorTqRfE
import Derived.Test.YtpdedfpacklnoaaGreatDoorTqRfF
import Derived.Deep.CutRange
set_option maxRecDepth 100000
namespace Go.Proofs.YtpdedfpacklnoaaGreatDoor
open Go.RowKit Go.BL Go.Ct Go.Sl

/-- What stands ahead of the k-th, the last one first. -/
def preE (l : List En) (k : Nat) : List En := (l.take k).reverse
theorem preE_succ {l : List En} {k : Nat} (h : k < l.length) : preE l (k + 1) = l[k] :: preE l k := by
 unfold preE; rw [List.take_succ_eq_append_getElem h, List.reverse_append]; rfl
theorem preE_any {l : List En} {k : Nat} {d : Dt} : (preE l k).any (fun y => decide (y.d = d)) = (l.take k).any (fun y => decide (y.d = d)) := by
 unfold preE; rw [List.any_reverse]
def abvP (p : List En) (e : En) : Bool := match p with | [] => true | y :: _ => aboveE e y
theorem entE_pre (x : Cx) (p : List En) (e : En) : entE x p e = if isName e.it = false then 6 else if e.q < 1 ∨ 1000000 < e.q then 52 else if isPrice e.p = false then 53
  else if (covers x e.d && abvP p e) = false then 50 else if p.any (fun y => decide (y.d = e.d)) = true then 50 else 0 := by
 cases p with
 | nil => unfold entE abvP; cases covers x e.d <;> simp
 | cons y r =>
  have h : (covers x e.d = false ∨ (!aboveE e y) = true) ↔ (covers x e.d && aboveE e y) = false := by cases covers x e.d <;> cases aboveE e y <;> simp
  unfold entE abvP
  dsimp only
  by_cases h1 : isName e.it = false
  ·rw [if_pos h1, if_pos h1]
  rw [if_neg h1, if_neg h1]
  by_cases h2 : e.q < 1 ∨ 1000000 < e.q
  ·rw [if_pos h2, if_pos h2]
  rw [if_neg h2, if_neg h2]
  by_cases h3 : isPrice e.p = false
  ·rw [if_pos h3, if_pos h3]
  rw [if_neg h3, if_neg h3]
  by_cases hh : (covers x e.d && aboveE e y) = false
  ·rw [if_pos (h.2 hh), if_pos hh]
  rw [if_neg (fun a => hh (h.1 a)), if_neg hh]
theorem entE_as (x : Cx) (l : List En) (k : Nat) (e : En) : entE x (preE l k) e = if isName e.it = false then 6 else if e.q < 1 ∨ 1000000 < e.q then 52 else if isPrice e.p = false then 53
  else if (covers x e.d && abvP (preE l k) e) = false then 50 else if (l.take k).any (fun y => decide (y.d = e.d)) = true then 50 else 0 := by
 rw [entE_pre, preE_any]
theorem ents_step (x : Cx) (l : List En) {k : Nat} (h : k < l.length) : entsE x (preE l k) (l.drop k) = if entE x (preE l k) l[k] ≠ 0 then entE x (preE l k) l[k] else entsE x (preE l (k + 1)) (l.drop (k + 1)) := by
 rw [List.drop_eq_getElem_cons h, preE_succ h]; rfl
theorem any_take {l : List En} {d : Dt} {j : Nat} (h : j < l.length) (h1 : (l.take j).any (fun y => decide (y.d = d)) = false) (h2 : l[j].d ≠ d) : (l.take (j + 1)).any (fun y => decide (y.d = d)) = false := by
 rw [List.take_succ_eq_append_getElem h, List.any_append, h1]; simp [h2]
theorem any_hit {l : List En} {d : Dt} {j k : Nat} (h : j < l.length) (hj : j < k) (h2 : l[j].d = d) : (l.take k).any (fun y => decide (y.d = d)) = true := by
 rw [List.any_eq_true]
 exact ⟨l[j], List.mem_take_iff_getElem.2 ⟨j, by omega, rfl⟩, by simp [h2]⟩
theorem can_of {x : Cx} {es : List En} (hx : canX x = true) (hl : es.length ≤ 64) : canC ⟨es, x⟩ = if entsE x [] es ≠ 0 then entsE x [] es else if 32 < itemsF none es then 51 else 0 := by
 unfold canC; dsimp only; rw [hx, if_neg (by simp), if_neg (by omega)]
end Go.Proofs.YtpdedfpacklnoaaGreatDoor
