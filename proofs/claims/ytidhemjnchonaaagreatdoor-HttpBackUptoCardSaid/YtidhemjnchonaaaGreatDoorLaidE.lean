/- From the row's list to the two errors of strconv; an answer that came in, opened to its cells. -/
import Derived.Test.YtidhemjnchonaaaGreatDoorLaid
import Derived.Test.YtidhemjnchonaaaGreatDoorAnsD
import Derived.Test.YtidhemjnchonaaaGreatDoorOpenR
import Derived.Lib.SmallJoins
import Derived.Lib.ItoaLen
import Derived.Test.YtidhemjnchonaaaGreatDoorAnsB
namespace Go.Proofs.YtidhemjnchonaaaGreatDoor
open Go.RowKit Go.ChangeShapes Go.WideShapes Go.Deep Go.Joins

theorem gSyn : Tryz.prog.globalNamed "strconv.ErrSyntax" = some 1 := by kernel_rfl
theorem gRan : Tryz.prog.globalNamed "strconv.ErrRange" = some 2 := by kernel_rfl
theorem gSynType : (Tryz.prog.globals[1]?).map (·.type) = some 91 := by kernel_rfl
theorem gRanType : (Tryz.prog.globals[2]?).map (·.type) = some 91 := by kernel_rfl
theorem errStar : "*" ++ "errors.errorString" = "*errors.errorString" := by decide
theorem errRow (u : TypeId) (h : Tryz.prog.typeName? 3 u = some "*errors.errorString") : u = 151 :=
  typeName_ptr_named (nm := "errors.errorString") (by rw [errStar]; kernel_rfl) (by kernel_rfl) (by decide) u (by rw [errStar]; exact h)
theorem errs_of_laid {W : World} (h : laidMetH Tryz.prog laidList W) : Errs W := by
  have h' : laidMet Tryz.prog laidList W := h
  have h4 := h'.tail.tail.tail.tail
  obtain ⟨a, _, hv, _⟩ := laid_sentinel h4 gRan gRanType Tryz.underlying91 errRow Tryz.underlying151 Tryz.underlying153 rfl rfl Tryz.underlying9 (by kernel_rfl) (by kernel_rfl)
  obtain ⟨b, _, hu, _⟩ := laid_sentinel h4.tail gSyn gSynType Tryz.underlying91 errRow Tryz.underlying151 Tryz.underlying153 rfl rfl Tryz.underlying9 (by kernel_rfl) (by kernel_rfl)
  exact ⟨⟨_, _, by simpa using World.var?_cell gSyn hu 0⟩, _, _, by simpa using World.var?_cell gRan hv 0⟩
theorem reason_le (n : Int) : (reasonL n).length ≤ 31 := by
  by_cases h : reasonL n = []
  · rw [h]; decide
  · have : ∀ n ∈ statuses, (reasonL n).length ≤ 31 := by decide +kernel
    exact this n (reason_in h)
theorem text_head (a : Ans) (h : -9223372036854775808 ≤ a.st ∧ a.st ≤ 9223372036854775807) (hb : a.b.length ≤ 1048576) : (headA a).length ≤ (textL a.hs).length + 1000 := by
  have h1 := reason_le a.st
  have h2 := Lib.itoa_length_le a.st h.1 h.2
  have h3 := Lib.itoa_length_le (a.b.length : Int) (by omega) (by omega)
  rw [head_len, line_len]
  omega
set_option maxRecDepth 100000 in
theorem open_ans {H : Type} {enc : TypeId × Value → H} {W : World} {base : Nat} {v : Value} {d : DataW H} {p : List MemPlace}
    (hv : Value.okWide Tryz.prog W .any base 53 v) (h : DataW.Trod enc Tryz.prog W 0 (fun _ => true) true 53 v d p) (hb : Rows.uptoBulk d ≤ 1048576) :
    ∃ (a : Ans) (u : Value), v = .agg #[.int .i64 a.st, u, .string ⟨a.b.toArray⟩] ∧ Hdrs W u a.hs ∧ a.b.length ≤ 1048576 ∧ (textL a.hs).length ≤ 2097152 ∧ (Lit.int .i64 a.st).wf = true := by
  obtain ⟨v0, v1, v2, y0, y1, y2, n, rfl, rfl, rfl, t0, t1, t2⟩ := open_agg3 Tryz.underlying53 (by kernel_rfl) (by kernel_rfl) hv h
  obtain ⟨s0, e0, z0, k0⟩ := DataW.trod_int Tryz.underlying3 t0
  obtain ⟨s2, e2, z2, _⟩ := DataW.trod_string Tryz.underlying9 t2
  simp only [List.cons.injEq, and_true] at e0 e2
  subst e0 e2
  obtain ⟨A, len, cap, rfl⟩ : ∃ A len cap, v1 = .slice A len cap := by
    rcases open_slice_fields Tryz.underlying22 Tryz.underlying44 (by kernel_rfl) (by kernel_rfl) t1 with ⟨e1, _⟩ | ⟨a, len, cap, m, D, Pl, e1, _⟩
    · simp only [List.cons.injEq, and_true] at e1; exact ⟨_, _, _, e1⟩
    · simp only [List.cons.injEq, and_true] at e1; exact ⟨_, _, _, e1⟩
  have b2 : Rows.uptoBulk y2.1 = s2.data.toList.length + 1 := by rw [z2]; exact bulks.string_eq _
  have b4 : Rows.uptoBulk (DataW.agg [y0.1, y1.1, y2.1]) = Rows.uptoBulkAll [y0.1, y1.1, y2.1] + 1 := rfl
  simp only [Rows.uptoBulkAll] at b4
  obtain ⟨hs, w2, hb2⟩ := open_hdrs2 (show DataW.Trod enc Tryz.prog W 0 (fun _ => true) true 22 (.slice A len cap) y1.1 y1.2 from ⟨n, t1⟩) (by omega)
  exact ⟨⟨s0, hs, s2.data.toList⟩, .slice A len cap, rfl, w2, by show s2.data.toList.length ≤ 1048576; omega, by show (textL hs).length ≤ 2097152; omega, k0⟩
end Go.Proofs.YtidhemjnchonaaaGreatDoor
