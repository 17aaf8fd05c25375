/- A slice of headers that came in, opened to its cells, with a bound of all its letters. -/
import Derived.Test.YtidhemjnchonaaaGreatDoorOpenH
import Derived.Test.YtidhemjnchonaaaGreatDoorPrnP
namespace Go.Proofs.YtidhemjnchonaaaGreatDoor
open Go.ChangeShapes Go.WideShapes Go.Deep
theorem sum_bulk {H : Type} : ∀ (hs : List Hdr) (ds : List (DataW H)), hs.length = ds.length → (∀ (i : Nat) (x : Hdr) (d : DataW H), hs[i]? = some x → ds[i]? = some d → x.1.length + x.2.length + 3 ≤ Rows.uptoBulk d) → (textL hs).length ≤ Rows.uptoBulkAll ds + hs.length
  | [], [], _, _ => by simp [textL]
  | x :: r, d :: ds, hl, h => by
    have h0 := h 0 x d rfl rfl
    have ih := sum_bulk r ds (by simpa using hl) (fun i y e hy he => h (i + 1) y e (by simpa using hy) (by simpa using he))
    have e : (lineT x).length = x.1.length + x.2.length + 4 := by simp [lineT]; omega
    simp only [textL, List.length_append, e, Rows.uptoBulkAll, List.length_cons]
    omega
  | [], _ :: _, hl, _ => by simp at hl
  | _ :: _, [], hl, _ => by simp at hl
theorem open_hdrs2 {H : Type} {enc : TypeId × Value → H} {W : World} {a : Option Addr} {len cap : Nat} {d : DataW H} {p : List MemPlace}
    (h : DataW.Trod enc Tryz.prog W 0 (fun _ => true) true 22 (.slice a len cap) d p) (hb : Rows.uptoBulk d ≤ 1048576) :
    ∃ hs : List Hdr, Hdrs W (.slice a len cap) hs ∧ (textL hs).length ≤ Rows.uptoBulk d + 1048576 := by
  obtain ⟨fuel, hf⟩ := h
  have hcs : (Value.slice a len cap).cells.toList = [Value.slice a len cap] := rfl
  rcases open_slice_fields Tryz.underlying22 Tryz.underlying44 (by kernel_rfl) (by kernel_rfl) hf with ⟨h1, _⟩ | ⟨x, l, c, m, D, Pl, h1, _, hl, hm, hmm, hx, hi⟩
  · rw [hcs] at h1
    simp only [List.cons.injEq, Value.slice.injEq, and_true] at h1
    obtain ⟨rfl, rfl, rfl⟩ := h1
    exact ⟨[], ⟨by decide, none, 0, rfl, fun h => absurd h (by decide)⟩, by simp [textL]⟩
  · rw [hcs] at h1
    simp only [List.cons.injEq, Value.slice.injEq, and_true] at h1
    obtain ⟨rfl, rfl, rfl⟩ := h1
    simp only [if_true] at hmm
    subst hmm
    simp only [Prod.mk.injEq] at hx
    have hd : d = .slice ((List.range len).map D) ((List.range (m - len)).map fun j => D (len + j)) := hx.1
    have hlen : len ≤ 1048576 := by
      have := bulks.slice_le ((List.range len).map D) ((List.range (m - len)).map fun j => D (len + j))
      rw [← hd] at this
      simp at this
      omega
    have key : ∀ i, i < len → ∃ y : Hdr, y.1.length + y.2.length + 3 ≤ Rows.uptoBulk (D i) ∧ W.cell? (x.add (i * 2)) = some (.string ⟨y.1.toArray⟩) ∧ W.cell? (x.add (i * 2 + 1)) = some (.string ⟨y.2.toArray⟩) := by
      intro i hil
      obtain ⟨ys, n, hD, _, hyl, hfd⟩ := hi i (by omega)
      obtain ⟨v0, y0, c0, g0, t0⟩ := hfd 0 _ rfl
      obtain ⟨v1, y1, c1, g1, t1⟩ := hfd 1 _ rfl
      obtain ⟨s, e0, z0, hs⟩ := DataW.trod_string Tryz.underlying9 t0
      obtain ⟨r, e1, z1, hr⟩ := DataW.trod_string Tryz.underlying9 t1
      simp only [List.cons.injEq, and_true] at e0 e1
      subst e0 e1
      refine ⟨(s.data.toList, r.data.toList), ?_, c0, c1⟩
      have b3 : Rows.uptoBulk (D i) = Rows.uptoBulkAll (ys.map (·.1)) + 1 := by rw [hD]; rfl
      have hl2 : ys.length = 2 := hyl
      match ys, hl2, g0, g1, b3 with
      | [a0, a1], _, g0, g1, b3 =>
        injection g0 with g0
        injection g1 with g1
        subst g0 g1
        have b5 : Rows.uptoBulk a0.1 = s.data.toList.length + 1 := by rw [z0]; exact bulks.string_eq _
        have b6 : Rows.uptoBulk a1.1 = r.data.toList.length + 1 := by rw [z1]; exact bulks.string_eq _
        simp only [List.map_cons, List.map_nil, Rows.uptoBulkAll] at b3
        show s.data.toList.length + r.data.toList.length + 3 ≤ Rows.uptoBulk (D i)
        omega
    obtain ⟨hs, hll, hls⟩ := list_of len key
    subst hll
    refine ⟨hs, ⟨by omega, _, _, rfl, fun hpos => ?_⟩, ?_⟩
    · obtain ⟨y0, _, hc0, _⟩ := key 0 hpos
      obtain ⟨b, off, spot⟩ := x
      have hspot : spot = none := by simpa [Addr.add] using World.cell?_spot hc0
      subst hspot
      refine ⟨b, off, rfl, by simpa [Addr.add] using Go.BL.lt_block hc0, fun i hi => ?_⟩
      obtain ⟨_, h0, h1⟩ := hls i _ (List.getElem?_eq_getElem hi)
      rw [Go.BL.add_none] at h0 h1
      exact ⟨h0, by rw [← Nat.add_assoc] at h1; exact h1⟩
    · have b1 := bulks.slice_elems ((List.range hs.length).map D) ((List.range (m - hs.length)).map fun j => D (hs.length + j))
      rw [← hd] at b1
      have b2 := sum_bulk hs ((List.range hs.length).map D) (by simp) (fun i x d hx hd => by
        have hi' : i < hs.length := (List.getElem?_eq_some_iff.1 hx).1
        have e : ((List.range hs.length).map D)[i]? = some (D i) := by simp [hi']
        rw [e] at hd
        injection hd with hd
        subst hd
        exact (hls i x hx).1)
      omega
end Go.Proofs.YtidhemjnchonaaaGreatDoor
