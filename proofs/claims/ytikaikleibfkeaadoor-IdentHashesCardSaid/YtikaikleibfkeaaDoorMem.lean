/- Words on memory: a slice of bytes that reads as a list of numbers. -/
import Derived.Test.YtikaikleibfkeaaDoorRows
import Derived.WalkKit
import Derived.Lib.Hide
namespace Go.Proofs.YtikaikleibfkeaaDoor
open Go.RowKit

theorem ret_int {k : IntKind} {a b : Int} (h : a = b) : Ending.returned (.int k a) = .returned (.int k b) := by rw [h]
theorem ret_bool {a b : Bool} (h : a = b) : Ending.returned (.bool a) = .returned (.bool b) := by rw [h]
/-- The slice (address A, n elements) reads as the bytes bs. -/
def Rd (w : World) (A : Option Addr) (n : Nat) (bs : List Nat) : Prop :=
  bs.length = n ∧ n ≤ maxLen ∧ (∀ x ∈ bs, x < 256) ∧ (0 < n → ∃ b off, A = some ⟨b, off, none⟩ ∧ ∀ i, i < n → w.cell? ⟨b, off + i, none⟩ = some (.int .u8 ((bs.getD i 0 : Nat) : Int)))
theorem Rd.keep {w w' : World} {A : Option Addr} {n : Nat} {bs : List Nat} (h : Rd w A n bs) (hk : ∀ p, w'.cell? p = w.cell? p ∨ w.cell? p = none) : Rd w' A n bs := by
  refine ⟨h.1, h.2.1, h.2.2.1, fun hn => ?_⟩
  obtain ⟨b, off, e, hc⟩ := h.2.2.2 hn
  refine ⟨b, off, e, fun i hi => ?_⟩
  have := hc i hi
  rcases hk ⟨b, off + i, none⟩ with h1 | h1
  · rw [h1]; exact this
  · rw [this] at h1; cases h1
theorem getD_lt {bs : List Nat} (h : ∀ x ∈ bs, x < 256) (i : Nat) : bs.getD i 0 < 256 := by
  rw [List.getD_eq_getElem?_getD]
  cases e : bs[i]? with
  | none => simp
  | some x => exact h x (List.mem_of_getElem? e)
theorem take_snoc' (bs : List Nat) (k : Nat) (h : k < bs.length) : bs.take (k + 1) = bs.take k ++ [bs.getD k 0] := by
  rw [List.take_succ_eq_append_getElem h, List.getD_eq_getElem?_getD, List.getElem?_eq_getElem h]; rfl
end Go.Proofs.YtikaikleibfkeaaDoor
