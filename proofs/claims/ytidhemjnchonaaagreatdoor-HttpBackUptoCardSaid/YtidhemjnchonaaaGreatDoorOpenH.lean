/- A slice of headers that came in, opened to its cells. -/
import Derived.Test.YtidhemjnchonaaaGreatDoorFind
import Derived.Test.YtidhemjnchonaaaGreatDoorBulk
import Derived.Deep.Slices
import Derived.Deep.Fields
import Derived.ChangeSame
import Derived.SizedLaws
namespace Go.Proofs.YtidhemjnchonaaaGreatDoor
open Go.ChangeShapes Go.WideShapes Go.Deep
section
variable {H : Type} {enc : TypeId × Value → H} {P : Program} {w : World} {base : Nat} {spare : Nat → Bool} {held : Bool}
theorem open_slice_fields {t e : TypeId} {fs : Array Field} {fuel : Nat} {cs : List Value} {x : DataW H × List MemPlace} (ht : P.underlying t = some (.slice e)) (he : P.underlying e = some (.struct fs))
    (hone : oneCellFields P fs = true) (hC : P.cellsOf e = fs.size) (h : DataW.trod enc P w base spare held fuel t cs = some x) :
    (cs = [.slice none 0 0] ∧ x = (.nil, [])) ∨
    ∃ (a : Addr) (len cap m : Nat) (D : Nat → DataW H) (Pl : Nat → List MemPlace), cs = [.slice (some a) len cap] ∧ base ≤ a.block ∧ len ≤ cap ∧ cap ≤ maxLen ∧ m = (if spare a.block then cap else len) ∧
      x = (.slice ((List.range len).map D) ((List.range (m - len)).map fun j => D (len + j)), MemPlace.row a (m * fs.size) ++ (List.range m).flatMap Pl) ∧
      ∀ i, i < m → ∃ (ys : List (DataW H × List MemPlace)) (n : Nat), D i = .agg (ys.map (·.1)) ∧ Pl i = ys.flatMap (·.2) ∧ ys.length = fs.size ∧
        ∀ (j : Nat) (f : Field), fs[j]? = some f → ∃ (v : Value) (y : DataW H × List MemPlace), w.cell? (a.add (i * fs.size + j)) = some v ∧ ys[j]? = some y ∧ DataW.trod enc P w base spare held n f.type [v] = some y := by
  rcases open_slice ht h with h0 | ⟨a, len, cap, m, n, D, Pl, hcs, hb, hl, hm, hmm, hx, hi⟩
  · exact .inl h0
  · refine .inr ⟨a, len, cap, m, D, Pl, hcs, hb, hl, hm, hmm, by rw [hC] at hx; exact hx, fun i him => ?_⟩
    obtain ⟨cs', hc, ht'⟩ := hi i him
    rw [hC] at hc
    obtain ⟨ys, n', hn', hy, hlen, hyl, hf⟩ := DataW.trod_struct he ht'
    obtain ⟨_, hcl, hat⟩ := World.cells?_some hc
    simp only [Prod.mk.injEq] at hy
    refine ⟨ys, n', hy.1, hy.2, hyl, fun j f hj => ?_⟩
    obtain ⟨ho, hk⟩ := hone_of hone j f hj
    have hjl : j < fs.size := (Array.getElem?_eq_some_iff.1 hj).1
    have hcell := hat j hjl
    have hv : cs'[j]? = some (cs'[j]'(by omega)) := List.getElem?_eq_getElem (by omega)
    have h1 := hf j f hj
    rw [ho, hk] at h1
    have hone' : (cs'.drop j).take 1 = [cs'[j]'(by omega)] := by
      rw [List.drop_eq_getElem_cons (by omega)]
      rfl
    rw [hone'] at h1
    have hys : ys[j]? = some (ys[j]'(by omega)) := List.getElem?_eq_getElem (by omega)
    refine ⟨_, _, ?_, hys, h1.trans hys⟩
    rw [← Go.Deep.add_add, hcell, hv]
end

theorem list_of {α : Type} {p : Nat → α → Prop} : ∀ (n : Nat), (∀ i, i < n → ∃ x, p i x) → ∃ l : List α, l.length = n ∧ ∀ (i : Nat) (x : α), l[i]? = some x → p i x
  | 0, _ => ⟨[], rfl, fun i x h => by simp at h⟩
  | n + 1, h => by
    obtain ⟨l, hl, hp⟩ := list_of n (fun i hi => h i (by omega))
    obtain ⟨x, hx⟩ := h n (by omega)
    refine ⟨l ++ [x], by simp [hl], fun i y hy => ?_⟩
    rcases Nat.lt_or_ge i n with hi | hi
    · rw [List.getElem?_append_left (by omega)] at hy; exact hp i y hy
    · rw [List.getElem?_append_right (by omega)] at hy
      rcases Nat.eq_or_lt_of_le hi with e | e
      · subst e
        rw [show n - l.length = 0 by omega] at hy
        simp at hy
        subst hy; exact hx
      · rw [List.getElem?_eq_none (by simp; omega)] at hy
        cases hy


theorem open_hdrs {H : Type} {enc : TypeId × Value → H} {W : World} {a : Option Addr} {len cap : Nat} {d : DataW H} {p : List MemPlace}
    (h : DataW.Trod enc Tryz.prog W 0 (fun _ => true) true 22 (.slice a len cap) d p) (hb : Rows.uptoBulk d ≤ 1048576) :
    ∃ hs : List Hdr, Hdrs W (.slice a len cap) hs ∧ ∀ h ∈ hs, h.1.length ≤ 1048576 := by
  obtain ⟨fuel, hf⟩ := h
  have hcs : (Value.slice a len cap).cells.toList = [Value.slice a len cap] := rfl
  rcases open_slice_fields Tryz.underlying22 Tryz.underlying44 (by kernel_rfl) (by kernel_rfl) hf with ⟨h1, _⟩ | ⟨x, l, c, m, D, Pl, h1, _, hl, hm, hmm, hx, hi⟩
  · rw [hcs] at h1
    simp only [List.cons.injEq, Value.slice.injEq, and_true] at h1
    obtain ⟨rfl, rfl, rfl⟩ := h1
    exact ⟨[], ⟨by decide, none, 0, rfl, fun h => absurd h (by decide)⟩, fun h hm => by cases hm⟩
  · rw [hcs] at h1
    simp only [List.cons.injEq, Value.slice.injEq, and_true] at h1
    obtain ⟨rfl, rfl, rfl⟩ := h1
    simp only [if_true] at hmm
    subst hmm
    simp only [Prod.mk.injEq] at hx
    have hd : d = .slice ((List.range len).map D) ((List.range (m - len)).map fun j => D (len + j)) := hx.1
    have hlen : len ≤ 1048576 := by
      have := bulks.slice_le ((List.range len).map D) ((List.range (m - len)).map fun j => D (len + j))
      rw [← hd] at this
      simp at this
      omega
    have key : ∀ i, i < len → ∃ y : Hdr, y.1.length ≤ 1048576 ∧ W.cell? (x.add (i * 2)) = some (.string ⟨y.1.toArray⟩) ∧ W.cell? (x.add (i * 2 + 1)) = some (.string ⟨y.2.toArray⟩) := by
      intro i hil
      obtain ⟨ys, n, hD, _, _, hfd⟩ := hi i (by omega)
      obtain ⟨v0, y0, c0, g0, t0⟩ := hfd 0 _ rfl
      obtain ⟨v1, y1, c1, _, t1⟩ := hfd 1 _ rfl
      obtain ⟨s, e0, z0, hs⟩ := DataW.trod_string Tryz.underlying9 t0
      obtain ⟨r, e1, _, hr⟩ := DataW.trod_string Tryz.underlying9 t1
      simp only [List.cons.injEq, and_true] at e0 e1
      subst e0 e1
      refine ⟨(s.data.toList, r.data.toList), ?_, c0, c1⟩
      have b1 := bulks.slice_elems ((List.range len).map D) ((List.range (m - len)).map fun j => D (len + j))
      rw [← hd] at b1
      have b2 := bulks.part_le (d := D i) (l := (List.range len).map D) (List.mem_map.2 ⟨i, List.mem_range.2 hil, rfl⟩)
      have b3 : Rows.uptoBulk (D i) = Rows.uptoBulkAll (ys.map (·.1)) + 1 := by rw [hD]; rfl
      have b4 := bulks.part_le (d := y0.1) (l := ys.map (·.1)) (List.mem_map.2 ⟨y0, List.mem_of_getElem? g0, rfl⟩)
      have b5 : Rows.uptoBulk y0.1 = s.data.toList.length + 1 := by rw [z0]; exact bulks.string_eq _
      show s.data.toList.length ≤ 1048576
      omega
    obtain ⟨hs, hll, hls⟩ := list_of len key
    subst hll
    refine ⟨hs, ⟨by omega, _, _, rfl, fun hpos => ?_⟩, fun h hm => ?_⟩
    · obtain ⟨y0, _, hc0, _⟩ := key 0 hpos
      obtain ⟨b, off, spot⟩ := x
      have hspot : spot = none := by simpa [Addr.add] using World.cell?_spot hc0
      subst hspot
      refine ⟨b, off, rfl, by simpa [Addr.add] using Go.BL.lt_block hc0, fun i hi => ?_⟩
      obtain ⟨_, h0, h1⟩ := hls i _ (List.getElem?_eq_getElem hi)
      rw [Go.BL.add_none] at h0 h1
      exact ⟨h0, by rw [← Nat.add_assoc] at h1; exact h1⟩
    · obtain ⟨i, hi', rfl⟩ := List.mem_iff_getElem.1 hm
      exact (hls i _ (List.getElem?_eq_getElem hi')).1
end Go.Proofs.YtidhemjnchonaaaGreatDoor
