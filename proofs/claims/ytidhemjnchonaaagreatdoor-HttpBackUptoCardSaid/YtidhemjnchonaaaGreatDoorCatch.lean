/- Parse's deferred closure: what it leaves behind a panic, and where nothing panicked. -/
import Derived.Test.YtidhemjnchonaaaGreatDoorAny
import Derived.Defers
import Derived.Recover
import Derived.Laws.Pointers
namespace Go.Proofs.YtidhemjnchonaaaGreatDoor
open Go.RowKit Go.BL

/-- The cells of Parse's two results: a request's four, a status. -/
structure PBox (w : World) (B : Nat) (m p h b st : Value) : Prop where
  c0 : w.cell? ⟨B, 0, none⟩ = some m
  c1 : w.cell? ⟨B, 1, none⟩ = some p
  c2 : w.cell? ⟨B, 2, none⟩ = some h
  c3 : w.cell? ⟨B, 3, none⟩ = some b
  c4 : w.cell? ⟨B + 1, 0, none⟩ = some st
  z0 : w.frozen? ⟨B, 0, none⟩ = false
  z1 : w.frozen? ⟨B, 1, none⟩ = false
  z2 : w.frozen? ⟨B, 2, none⟩ = false
  z3 : w.frozen? ⟨B, 3, none⟩ = false
  z4 : w.frozen? ⟨B + 1, 0, none⟩ = false
theorem PBox.below {w w' : World} {B C : Nat} {m p h b st : Value} (k : PBox w B m p h b st) (hb : Below C w w') (hC : B + 1 < C) : PBox w' B m p h b st :=
  ⟨(hb.cell (show B < C by omega)).trans k.c0, (hb.cell (show B < C by omega)).trans k.c1, (hb.cell (show B < C by omega)).trans k.c2, (hb.cell (show B < C by omega)).trans k.c3, (hb.cell hC).trans k.c4,
   (hb.frozen (show B < C by omega)).trans k.z0, (hb.frozen (show B < C by omega)).trans k.z1, (hb.frozen (show B < C by omega)).trans k.z2, (hb.frozen (show B < C by omega)).trans k.z3, (hb.frozen hC).trans k.z4⟩
set_option maxRecDepth 100000 in
theorem catch_idle (p q : Addr) (w : World) :
    CallsD Tryz.prog 34 #[.pointer (some p), .pointer (some q)] .returning w fun e u' w' => e = .returned (.tuple #[]) ∧ u' = .returning ∧ w' = w := by
  refine callsD_of_wpS Tryz.func34 rfl fun c₀ cs hu => ?_
  apply wpS_seq
  apply wpS_region
  simp [wpOpsS, go_sem, recoverD, hu, Tryz.ntmps34, Exit.thenS]
  apply wpS_seq
  apply wpS_region
  simp [wpOpsS, go_sem, Exit.thenS]
  refine wpS_cond (t := false) (by simp [Act.eval, Array.replicate]) ?_
  simp only [Bool.false_eq_true, if_false]
  refine wpS_of_wp (wp_skip ?_)
  cases c₀
  simp_all [bodyPostS, results, Tryz.results34]
set_option maxRecDepth 100000 in
theorem catch_panicking (B : Nat) (m p h b st : Value) (n : Int) (older : List PanicEntry) (w : World) (k : PBox w B m p h b st) :
    CallsD Tryz.prog 34 #[.pointer (some ⟨B, 0, none⟩), .pointer (some ⟨B + 1, 0, none⟩)] (.panicking ({ v := .iface 60 (.int .i64 n), recovered := false } :: older)) w fun e u' w' =>
      e = .returned (.tuple #[]) ∧ u' = .panicking ({ v := .iface 60 (.int .i64 n), recovered := true } :: older) ∧
      w' = ((((w.setCell ⟨B, 0, none⟩ (.string ⟨#[]⟩)).setCell ⟨B, 1, none⟩ (.string ⟨#[]⟩)).setCell ⟨B, 2, none⟩ (.slice none 0 0)).setCell ⟨B, 3, none⟩ (.string ⟨#[]⟩)).setCell ⟨B + 1, 0, none⟩ (.int .i64 n) := by
  obtain ⟨c0, c1, c2, c3, c4, z0, z1, z2, z3, z4⟩ := k
  have hta : ∀ w, (Instr.typeAssert (.iface 60 (.int .i64 n)) 20 60 true).run Tryz.prog w = .ok (.tuple #[.int .i64 n, .bool true]) w := fun w => by
    rfl
  refine callsD_of_wpS Tryz.func34 rfl fun c₀ cs hu => ?_
  apply wpS_seq
  apply wpS_region
  simp [wpOpsS, go_sem, recoverD, hu, Tryz.ntmps34, Exit.thenS]
  apply wpS_seq
  apply wpS_region
  simp [wpOpsS, go_sem, Exit.thenS]
  refine wpS_cond (t := true) (by simp [Act.eval, Array.replicate]) ?_
  simp only [if_true]
  refine wpS_of_wp ?_
  go_wp2_with fail
  simp [bodyPostS, results, Tryz.results34]
end Go.Proofs.YtidhemjnchonaaaGreatDoor
