/- A request that came in, opened to its cells: the headers' slice, and every text within the bound. -/
import Derived.Test.YtpdedfpacklnoaaGreatDoorRtMO
import Derived.Test.YtpdedfpacklnoaaGreatDoorRtSam
import Derived.Lib.SmallJoins
namespace Go.Proofs.YtpdedfpacklnoaaGreatDoor
open Go.ChangeShapes Go.WideShapes Go.Deep Go.Joins
theorem open_hdrs {K : Type} {enc : TypeId × Value → K} {W : World} {a : Option Addr} {len cap : Nat} {d : DataW K} {p : List MemPlace}
  (h : DataW.Trod enc Tryz.prog W 0 (fun _ => true) true 22 (.slice a len cap) d p) (hb : Rows.uptoBulk d ≤ 1048576) :
  ∃ hs : List H.Hdr, H.Hdrs W (.slice a len cap) hs ∧ hs.length ≤ 1048576 ∧ ∀ x ∈ hs, x.1.length ≤ 1048576 ∧ x.2.length ≤ 1048576 := by
 obtain ⟨fuel, hf⟩ := h
 have hcs : (Value.slice a len cap).cells.toList = [Value.slice a len cap] := rfl
 rcases open_slice_fields Tryz.underlying22 Tryz.underlying45 (by kernel_rfl) (by kernel_rfl) hf with ⟨h1, _⟩ | ⟨x, l, c, m, D, Pl, h1, _, hl, hm, hmm, hx, hi⟩
 ·rw [hcs] at h1
  simp only [List.cons.injEq, Value.slice.injEq, and_true] at h1
  obtain ⟨rfl, rfl, rfl⟩ := h1
  exact ⟨[], ⟨by decide, none, 0, rfl, fun h => absurd h (by decide)⟩, by decide, fun x hm => by cases hm⟩
 ·rw [hcs] at h1
  simp only [List.cons.injEq, Value.slice.injEq, and_true] at h1
  obtain ⟨rfl, rfl, rfl⟩ := h1
  simp only [if_true] at hmm
  subst hmm
  simp only [Prod.mk.injEq] at hx
  have hd : d = .slice ((List.range len).map D) ((List.range (m - len)).map fun j => D (len + j)) := hx.1
  have hlen : len ≤ 1048576 := by
   have := bulks.slice_le ((List.range len).map D) ((List.range (m - len)).map fun j => D (len + j))
   rw [← hd] at this
   simp at this
   omega
  have key : ∀ i, i < len → ∃ y : H.Hdr, (y.1.length ≤ 1048576 ∧ y.2.length ≤ 1048576) ∧ W.cell? (x.add (i * 2)) = some (.string ⟨y.1.toArray⟩) ∧ W.cell? (x.add (i * 2 + 1)) = some (.string ⟨y.2.toArray⟩) := by
   intro i hil
   obtain ⟨ys, n, hD, _, _, hfd⟩ := hi i (by omega)
   obtain ⟨v0, y0, c0, g0, t0⟩ := hfd 0 _ rfl
   obtain ⟨v1, y1, c1, g1, t1⟩ := hfd 1 _ rfl
   obtain ⟨s, e0, z0, hs⟩ := DataW.trod_string Tryz.underlying9 t0
   obtain ⟨r, e1, z1, hr⟩ := DataW.trod_string Tryz.underlying9 t1
   simp only [List.cons.injEq, and_true] at e0 e1
   subst e0 e1
   have b1 := bulks.slice_elems ((List.range len).map D) ((List.range (m - len)).map fun j => D (len + j))
   rw [← hd] at b1
   have b2 := bulks.part_le (d := D i) (l := (List.range len).map D) (List.mem_map.2 ⟨i, List.mem_range.2 hil, rfl⟩)
   have b3 : Rows.uptoBulk (D i) = Rows.uptoBulkAll (ys.map (·.1)) + 1 := by rw [hD]; rfl
   have b4 := bulks.part_le (d := y0.1) (l := ys.map (·.1)) (List.mem_map.2 ⟨y0, List.mem_of_getElem? g0, rfl⟩)
   have b4' := bulks.part_le (d := y1.1) (l := ys.map (·.1)) (List.mem_map.2 ⟨y1, List.mem_of_getElem? g1, rfl⟩)
   have b5 : Rows.uptoBulk y0.1 = s.data.toList.length + 1 := by rw [z0]; exact bulks.string_eq _
   have b5' : Rows.uptoBulk y1.1 = r.data.toList.length + 1 := by rw [z1]; exact bulks.string_eq _
   refine ⟨(s.data.toList, r.data.toList), ⟨?_, ?_⟩, c0, c1⟩
   ·show s.data.toList.length ≤ 1048576
    omega
   ·show r.data.toList.length ≤ 1048576
    omega
  obtain ⟨hs, hll, hls⟩ := list_of len key
  subst hll
  refine ⟨hs, ⟨by omega, _, _, rfl, fun hpos => ?_⟩, hlen, fun h hm => ?_⟩
  ·obtain ⟨y0, _, hc0, _⟩ := key 0 hpos
   obtain ⟨b, off, spot⟩ := x
   have hspot : spot = none := by simpa [Addr.add] using World.cell?_spot hc0
   subst hspot
   refine ⟨b, off, rfl, by simpa [Addr.add] using Go.BL.lt_block hc0, fun i hi => ?_⟩
   obtain ⟨_, h0, h1⟩ := hls i _ (List.getElem?_eq_getElem hi)
   rw [Go.BL.add_none] at h0 h1
   exact ⟨h0, by rw [← Nat.add_assoc] at h1; exact h1⟩
  ·obtain ⟨i, hi', rfl⟩ := List.mem_iff_getElem.1 hm
   exact (hls i _ (List.getElem?_eq_getElem hi')).1
set_option maxRecDepth 100000 in
/-- A request. -/
theorem open_req {K : Type} {enc : TypeId × Value → K} {W : World} {base : Nat} {v : Value} {d : DataW K} {p : List MemPlace}
  (hv : Value.okWide Tryz.prog W .any base 24 v) (h : DataW.Trod enc Tryz.prog W 0 (fun _ => true) true 24 v d p) (hb : Rows.uptoBulk d ≤ 1048576) :
  ∃ (q : Rq) (u : Value), v = rqV q u ∧ H.Hdrs W u q.hs ∧ Small q ∧ q.m.length ≤ 1048576 ∧ q.hs.length ≤ 1048576 := by
 obtain ⟨v0, v1, v2, v3, y0, y1, y2, y3, n, rfl, rfl, rfl, t0, t1, t2, t3⟩ := open_agg4 Tryz.underlying24 (by kernel_rfl) (by kernel_rfl) hv h
 obtain ⟨s0, e0, z0, _⟩ := DataW.trod_string Tryz.underlying9 t0
 obtain ⟨s1, e1, z1, _⟩ := DataW.trod_string Tryz.underlying9 t1
 obtain ⟨s3, e3, z3, _⟩ := DataW.trod_string Tryz.underlying9 t3
 simp only [List.cons.injEq, and_true] at e0 e1 e3
 subst e0 e1 e3
 obtain ⟨A, len, cap, rfl⟩ : ∃ A len cap, v2 = .slice A len cap := by
  rcases open_slice_fields Tryz.underlying22 Tryz.underlying45 (by kernel_rfl) (by kernel_rfl) t2 with ⟨e2, _⟩ | ⟨a, len, cap, m, D, Pl, e2, _⟩
  ·simp only [List.cons.injEq, and_true] at e2; exact ⟨_, _, _, e2⟩
  ·simp only [List.cons.injEq, and_true] at e2; exact ⟨_, _, _, e2⟩
 have b0 : Rows.uptoBulk y0.1 = s0.data.toList.length + 1 := by rw [z0]; exact bulks.string_eq _
 have b1 : Rows.uptoBulk y1.1 = s1.data.toList.length + 1 := by rw [z1]; exact bulks.string_eq _
 have b3 : Rows.uptoBulk y3.1 = s3.data.toList.length + 1 := by rw [z3]; exact bulks.string_eq _
 have b4 : Rows.uptoBulk (DataW.agg [y0.1, y1.1, y2.1, y3.1]) = Rows.uptoBulkAll [y0.1, y1.1, y2.1, y3.1] + 1 := rfl
 simp only [Rows.uptoBulkAll] at b4
 obtain ⟨hs, w2, hn, hb2⟩ := open_hdrs (show DataW.Trod enc Tryz.prog W 0 (fun _ => true) true 22 (.slice A len cap) y2.1 y2.2 from ⟨n, t2⟩) (by omega)
 refine ⟨⟨s0.data.toList, s1.data.toList, hs, s3.data.toList⟩, .slice A len cap, rfl, w2, ⟨?_, ?_, hb2⟩, ?_, hn⟩
 ·show s1.data.toList.length ≤ 1048576
  omega
 ·show s3.data.toList.length ≤ 1048576
  omega
 ·show s0.data.toList.length ≤ 1048576
  omega
end Go.Proofs.YtpdedfpacklnoaaGreatDoor
