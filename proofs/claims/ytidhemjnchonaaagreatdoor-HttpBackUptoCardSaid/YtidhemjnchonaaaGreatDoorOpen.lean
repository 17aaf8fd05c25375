/- A byte slice that came in, opened to its cells; and the bound of the narrowed form. -/
import Derived.Test.YtidhemjnchonaaaGreatDoorBL
import Derived.Test.YtidhemjnchonaaaGreatDoorRows
import Derived.ChangeSlices
import Derived.ChangeSame
import Derived.Lib.SlBytesRowKit
import Derived.Test.YtidhemjnchonaaaGreatDoorEq
namespace Go.Proofs.YtidhemjnchonaaaGreatDoor
open Go.ChangeShapes Go.WideShapes Go.BL
theorem wf_u8' {x : Int} (h : (Lit.int .u8 x).wf = true) : 0 ≤ x ∧ x < 256 := by
  have h2 := h
  simp only [Lit.wf, IntKind.min, IntKind.max, IntKind.signed, IntKind.bits, Bool.and_eq_true] at h2
  have h3 : (2:Int) ^ 8 - 1 = 255 := by decide
  simp at h2
  omega
theorem wf_i64' {x : Int} (h : (Lit.int .i64 x).wf = true) : -9223372036854775808 ≤ x ∧ x ≤ 9223372036854775807 := by
  have h2 := h
  simp only [Lit.wf, IntKind.min, IntKind.max, IntKind.signed, IntKind.bits, Bool.and_eq_true] at h2
  have h3 : (2:Int) ^ 63 - 1 = 9223372036854775807 := by decide
  simp at h2
  omega
theorem open_bytes {H : Type} {enc : TypeId × Value → H} {P : Program} {W : World} {t e : TypeId} {a : Option Addr} {len cap : Nat} {d : DataW H} {p : List MemPlace}
    (ht : P.underlying t = some (.slice e)) (he : P.underlying e = some (.int .u8)) (hc : P.cellsOf e = 1)
    (h : DataW.Trod enc P W 0 (fun _ => true) true t (.slice a len cap) d p) :
    ∃ bs : List Nat, Rd W a len bs ∧ (len = 0 ∨ ∃ elems spare, d = .slice elems spare ∧ elems.length = len) := by
  obtain ⟨fuel, hf⟩ := h
  have hcs : (Value.slice a len cap).cells.toList = [Value.slice a len cap] := rfl
  rcases open_ints ht he hc hf with ⟨h1, _⟩ | ⟨x, l, c, zs, h1, _, hl, hm, hz, hx, hi, hwf⟩
  · rw [hcs] at h1
    simp only [List.cons.injEq, Value.slice.injEq, and_true] at h1
    obtain ⟨rfl, rfl, rfl⟩ := h1
    exact ⟨[], Rd.none_, .inl rfl⟩
  · rw [hcs] at h1
    simp only [List.cons.injEq, Value.slice.injEq, and_true] at h1
    obtain ⟨rfl, rfl, rfl⟩ := h1
    simp only [if_true] at hz
    simp only [Prod.mk.injEq] at hx
    refine ⟨(zs.take len).map Int.toNat, ⟨by simp; omega, by omega, ?_, ?_⟩, .inr ⟨_, _, hx.1, by simp [lits]; omega⟩⟩
    · intro y hy
      simp only [List.mem_map] at hy
      obtain ⟨z, hz', rfl⟩ := hy
      have := wf_u8' (hwf z (List.mem_of_mem_take hz'))
      omega
    · intro hpos
      have h0 := hi 0 (by omega)
      obtain ⟨b, off, spot⟩ := x
      have hspot : spot = none := by simpa [Addr.add] using World.cell?_spot h0
      subst hspot
      refine ⟨b, off, rfl, by simpa [Addr.add] using lt_block h0, fun i hil => ?_⟩
      have h1 := hi i (by omega)
      rw [add_none] at h1
      rw [h1]
      have hlz : i < zs.length := by omega
      have hw := wf_u8' (hwf _ (List.getElem_mem (l := zs) hlz))
      congr 2
      rw [List.getD_eq_getElem?_getD, List.getD_eq_getElem?_getD, List.getElem?_map, List.getElem?_take_of_lt hil, List.getElem?_eq_getElem hlz]
      simp only [Option.map_some, Option.getD_some]
      omega
theorem open_bsl {H : Type} {enc : TypeId × Value → H} {P : Program} {W : World} {t e : TypeId} {a : Option Addr} {len cap : Nat} {d : DataW H} {p : List MemPlace}
    (ht : P.underlying t = some (.slice e)) (he : P.underlying e = some (.int .u8)) (hc : P.cellsOf e = 1)
    (h : DataW.Trod enc P W 0 (fun _ => true) true t (.slice a len cap) d p) (hl : len ≤ 1048576) : ∃ b : List UInt8, Bsl W (.slice a len cap) b ∧ b.length = len := by
  obtain ⟨bs, hr, _⟩ := open_bytes ht he hc h
  obtain ⟨_, _, hcap, _, _, _, hnil⟩ := Go.RowKit.opened_bytes ht he hc h
  rcases Nat.eq_zero_or_pos len with h0 | h0
  · subst h0
    exact ⟨[], ⟨by decide, .inl ⟨a, cap, rfl, rfl, hnil⟩⟩, rfl⟩
  · obtain ⟨blk, off, rfl, hlt, hcell⟩ := hr.2.2.2 h0
    have hlen : (bs.map Nat.toUInt8).length = len := by rw [List.length_map]; exact hr.1
    refine ⟨bs.map Nat.toUInt8, ⟨by omega, .inr ⟨blk, off, cap, by rw [hlen], by omega, hlt, fun j hj => ?_⟩⟩, hlen⟩
    have hj' : j < bs.length := by rw [List.length_map] at hj; exact hj
    rw [hcell j (by omega), List.getD_eq_getElem?_getD, List.getElem?_eq_getElem hj']
    have := hr.2.2.1 _ (List.getElem_mem hj')
    simp only [Option.getD_some, List.getElem_map, Nat.toUInt8]
    rw [UInt8.toNat_ofNat']
    congr 3
    omega
end Go.Proofs.YtidhemjnchonaaaGreatDoor
