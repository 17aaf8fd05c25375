/- A request that came in, opened to its cells. -/
import Derived.Test.YtidhemjnchonaaaGreatDoorOpenR
import Derived.Lib.SmallJoins
namespace Go.Proofs.YtidhemjnchonaaaGreatDoor
open Go.ChangeShapes Go.WideShapes Go.Deep Go.Joins
set_option maxRecDepth 100000 in
theorem open_req {H : Type} {enc : TypeId × Value → H} {W : World} {base : Nat} {v : Value} {d : DataW H} {p : List MemPlace}
    (hv : Value.okWide Tryz.prog W .any base 31 v) (h : DataW.Trod enc Tryz.prog W 0 (fun _ => true) true 31 v d p) (hb : Rows.uptoBulk d ≤ 1048576) :
    ∃ (q : Req) (u : Value), v = reqV q u ∧ Hdrs W u q.hs ∧ (printB q).length ≤ 536870912 := by
  obtain ⟨v0, v1, v2, v3, y0, y1, y2, y3, n, rfl, rfl, rfl, t0, t1, t2, t3⟩ := open_agg4 Tryz.underlying31 (by kernel_rfl) (by kernel_rfl) hv h
  obtain ⟨s0, e0, z0, _⟩ := DataW.trod_string Tryz.underlying9 t0
  obtain ⟨s1, e1, z1, _⟩ := DataW.trod_string Tryz.underlying9 t1
  obtain ⟨s3, e3, z3, _⟩ := DataW.trod_string Tryz.underlying9 t3
  simp only [List.cons.injEq, and_true] at e0 e1 e3
  subst e0 e1 e3
  obtain ⟨A, len, cap, rfl⟩ : ∃ A len cap, v2 = .slice A len cap := by
    rcases open_slice_fields Tryz.underlying22 Tryz.underlying44 (by kernel_rfl) (by kernel_rfl) t2 with ⟨e2, _⟩ | ⟨a, len, cap, m, D, Pl, e2, _⟩
    · simp only [List.cons.injEq, and_true] at e2; exact ⟨_, _, _, e2⟩
    · simp only [List.cons.injEq, and_true] at e2; exact ⟨_, _, _, e2⟩
  have b0 : Rows.uptoBulk y0.1 = s0.data.toList.length + 1 := by rw [z0]; exact bulks.string_eq _
  have b1 : Rows.uptoBulk y1.1 = s1.data.toList.length + 1 := by rw [z1]; exact bulks.string_eq _
  have b3 : Rows.uptoBulk y3.1 = s3.data.toList.length + 1 := by rw [z3]; exact bulks.string_eq _
  have b4 : Rows.uptoBulk (DataW.agg [y0.1, y1.1, y2.1, y3.1]) = Rows.uptoBulkAll [y0.1, y1.1, y2.1, y3.1] + 1 := rfl
  simp only [Rows.uptoBulkAll] at b4
  obtain ⟨hs, w2, hb2⟩ := open_hdrs2 (show DataW.Trod enc Tryz.prog W 0 (fun _ => true) true 22 (.slice A len cap) y2.1 y2.2 from ⟨n, t2⟩) (by omega)
  refine ⟨⟨s0.data.toList, s1.data.toList, hs, s3.data.toList⟩, .slice A len cap, rfl, w2, ?_⟩
  rw [print_len]
  show s0.data.toList.length + s1.data.toList.length + (textL hs).length + s3.data.toList.length + 14 ≤ 536870912
  omega
end Go.Proofs.YtidhemjnchonaaaGreatDoor
