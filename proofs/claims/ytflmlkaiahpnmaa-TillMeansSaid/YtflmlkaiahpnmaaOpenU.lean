/- A slice of words that came in, opened to its cells. -/
import Derived.Test.YtflmlkaiahpnmaaUL
import Derived.Test.YtflmlkaiahpnmaaOpen
import Derived.Test.YtflmlkaiahpnmaaRows
import Derived.ChangeSlices
import Derived.ChangeSame
namespace Go.Proofs.Ytflmlkaiahpnmaa
open Go.ChangeShapes Go.WideShapes Go.UL
theorem open_words {H : Type} {enc : TypeId × Value → H} {P : Program} {W : World} {t e : TypeId} {a : Option Addr} {len cap : Nat} {d : DataW H} {p : List MemPlace}
    (ht : P.underlying t = some (.slice e)) (he : P.underlying e = some (.int .u64)) (hc : P.cellsOf e = 1)
    (h : DataW.Trod enc P W 0 (fun _ => true) true t (.slice a len cap) d p) :
    ∃ bs : List Nat, Rd W a len bs ∧ (len = 0 ∨ ∃ elems spare, d = .slice elems spare ∧ elems.length = len) := by
  obtain ⟨fuel, hf⟩ := h
  have hcs : (Value.slice a len cap).cells.toList = [Value.slice a len cap] := rfl
  rcases open_ints ht he hc hf with ⟨h1, _⟩ | ⟨x, l, c, zs, h1, _, hl, hm, hz, hx, hi, hwf⟩
  · rw [hcs] at h1
    simp only [List.cons.injEq, Value.slice.injEq, and_true] at h1
    obtain ⟨rfl, rfl, rfl⟩ := h1
    exact ⟨[], Rd.none_, .inl rfl⟩
  · rw [hcs] at h1
    simp only [List.cons.injEq, Value.slice.injEq, and_true] at h1
    obtain ⟨rfl, rfl, rfl⟩ := h1
    simp only [if_true] at hz
    simp only [Prod.mk.injEq] at hx
    refine ⟨(zs.take len).map Int.toNat, ⟨by simp; omega, by omega, ?_, ?_⟩, .inr ⟨_, _, hx.1, by simp [lits]; omega⟩⟩
    · intro y hy
      simp only [List.mem_map] at hy
      obtain ⟨z, hz', rfl⟩ := hy
      have h1 := wf_u64_pos (hwf z (List.mem_of_mem_take hz'))
      have h2 := wf_u64_lt (hwf z (List.mem_of_mem_take hz'))
      omega
    · intro hpos
      have h0 := hi 0 (by omega)
      obtain ⟨b, off, spot⟩ := x
      have hspot : spot = none := by simpa [Addr.add] using World.cell?_spot h0
      subst hspot
      refine ⟨b, off, rfl, by simpa [Addr.add] using UL.lt_block h0, fun i hil => ?_⟩
      have h1 := hi i (by omega)
      rw [UL.add_none] at h1
      rw [h1]
      have hlz : i < zs.length := by omega
      have hw := wf_u64_pos (hwf _ (List.getElem_mem (l := zs) hlz))
      congr 2
      rw [List.getD_eq_getElem?_getD, List.getD_eq_getElem?_getD, List.getElem?_map, List.getElem?_take_of_lt hil, List.getElem?_eq_getElem hlz]
      simp only [Option.map_some, Option.getD_some]
      omega
end Go.Proofs.Ytflmlkaiahpnmaa
