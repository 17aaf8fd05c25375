/- Contract of http.header: a line's header, or the panic by which it is refused. -/
import Derived.Test.YtidhemjnchonaaaGreatDoorText
import Derived.Handy
namespace Go.Proofs.YtidhemjnchonaaaGreatDoor
open Go.RowKit Go.BL

/-- The cell of the library's variable MaxLen holds some number. -/
def Env (w : World) : Prop := ∃ m, w.cell? ⟨0, 0, none⟩ = some (.int .i64 m)
theorem Env.below {w w' : World} (h : Env w) (hb : Below w.heap.size w w') : Env w' := by
  obtain ⟨m, hm⟩ := h
  exact ⟨m, (hb.cell (lt_block hm)).trans hm⟩
def PanN (n : Int) (w : World) (e : Ending) (w' : World) : Prop := e = .panicked [{ v := .iface 60 (.int .i64 n), recovered := false }] ∧ Below w.heap.size w w'
theorem drewN_below (w : World) : ∀ n, Below w.heap.size w (w.drewN n)
  | 0 => Below.refl _ _
  | n + 1 => (drewN_below w n).drew
def cutL (s sep : List UInt8) : List UInt8 × List UInt8 × Bool := Lib.cut s sep
theorem cut_any (s sep : List UInt8) (hs : s.length < 4294967281) (w : World) (he : Env w) :
    Calls Tryz.prog 55 #[.string ⟨s.toArray⟩, .string ⟨sep.toArray⟩] w (RetV (.tuple #[.string ⟨(cutL s sep).1.toArray⟩, .string ⟨(cutL s sep).2.1.toArray⟩, .bool (cutL s sep).2.2]) w) := by
  obtain ⟨m, hm⟩ := he
  refine (Tryz.strings_Cut ⟨s.toArray⟩ ⟨sep.toArray⟩ m w hs hm).mono ?_
  rintro e w' ⟨rfl, n, rfl⟩
  exact ⟨rfl, drewN_below w n⟩
def headerL (line : List UInt8) : Option (List UInt8 × List UInt8) :=
  if (cutL line [58]).2.2 && tokenL (cutL line [58]).1 && valueL (trimL (cutL line [58]).2.1) then some (smallL (cutL line [58]).1, trimL (cutL line [58]).2.1) else none
theorem cut_le (s sep : List UInt8) : (cutL s sep).1.length ≤ s.length ∧ (cutL s sep).2.1.length ≤ s.length := by
  unfold cutL Lib.cut
  split <;> simp <;> omega
theorem trim_le (s : List UInt8) : (trimL s).length ≤ s.length := by
  unfold trimL Lib.trimS Lib.trimLeftS Lib.trimRightS
  refine Nat.le_trans (List.dropWhile_sublist _).length_le ?_
  rw [List.length_reverse]
  refine Nat.le_trans (List.dropWhile_sublist _).length_le ?_
  rw [List.length_reverse]
  exact Nat.le_refl _
theorem Env.alloc {w : World} (h : Env w) (o : Obj) : Env (w.alloc o) := h.below ((Below.refl _ _).alloc (Nat.le_refl _) o)
theorem below_alloc {w w' : World} {o : Obj} (h : Below (w.alloc o).heap.size (w.alloc o) w') : Below w.heap.size w w' := ((Below.refl _ _).alloc (Nat.le_refl _) o).trans (h.mono (by simp))
theorem box2 {w w' : World} {x y : Value} {t : TypeId} (h : Below (w.alloc (.cells #[x, y] t)).heap.size (w.alloc (.cells #[x, y] t)) w') :
    (w'.cell? ⟨w.heap.size, 0, none⟩ = some x ∧ w'.cell? ⟨w.heap.size, 1, none⟩ = some y) ∧ w'.frozen? ⟨w.heap.size, 0, none⟩ = false ∧ w'.frozen? ⟨w.heap.size, 1, none⟩ = false := by
  have hlt : ∀ k, (⟨w.heap.size, k, none⟩ : Addr).block < (w.alloc (.cells #[x, y] t)).heap.size := by intro k; simp
  rw [h.cell (hlt 0), h.cell (hlt 1), h.frozen (hlt 0), h.frozen (hlt 1)]
  refine ⟨⟨?_, ?_⟩, ?_, ?_⟩
  · rw [World.cell?_alloc_at _ _ _ _ rfl]; rfl
  · rw [World.cell?_alloc_at _ _ _ _ rfl]; rfl
  · exact World.frozen?_alloc_new w _ t 0
  · exact World.frozen?_alloc_new w _ t 1
set_option maxRecDepth 100000 in
theorem header_any (s : List UInt8) (hs : s.length ≤ 4294967280) (w : World) (he : Env w) : Calls Tryz.prog 40 #[.string ⟨s.toArray⟩] w
    (match headerL s with | some (n, v) => RetV (.agg #[.string ⟨n.toArray⟩, .string ⟨v.toArray⟩]) w | none => PanN 400 w) := by
  obtain ⟨l1, l2⟩ := cut_le s [58]
  have hc := cut_any s [58] (by omega)
  unfold headerL
  generalize cutL s [58] = r at *
  obtain ⟨a, b, f⟩ := r
  have ht := trim_any b (by simp only at l2; omega)
  have l3 := trim_le b
  generalize trimL b = v at *
  have hk := token_any a (by simp only at l1; omega)
  have hv := value_any v (by simp only at l2; omega)
  have hl := small_any a (by simp only at l1; omega)
  have HE := Lib.hid he
  simp only at hc l1 l2 ⊢
  generalize tokenL a = k at *
  generalize valueL v = u at *
  generalize smallL a = n at *
  clear he hs l1 l2 l3
  cases f
  case false =>
    simp only [Bool.false_and, Bool.false_eq_true, if_false]
    go_enter Tryz.func40, Tryz.ntmps40
    go_wp2_with (first | (go_at_call 55; refine (hc _ (HE.out.alloc _)).mono ?_; rintro e w1 ⟨rfl, hb⟩; have H1 := Lib.hid hb; clear hb) | (go_at_call 72; refine (ht _).mono ?_; rintro e w2 ⟨rfl, hb⟩; have H2 := Lib.hid (chain H1.out hb); clear hb) | (go_at_call 36; refine (check_no _ _).mono ?_; rintro e w3 ⟨rfl, rfl⟩))
    exact ⟨rfl, rfl, below_alloc H2.out⟩
  case true =>
    cases k
    case false =>
      simp only [Bool.and_false, Bool.false_and, Bool.false_eq_true, if_false]
      go_enter Tryz.func40, Tryz.ntmps40
      go_wp2_with (first | (go_at_call 55; refine (hc _ (HE.out.alloc _)).mono ?_; rintro e w1 ⟨rfl, hb⟩; have H1 := Lib.hid hb; clear hb) | (go_at_call 72; refine (ht _).mono ?_; rintro e w2 ⟨rfl, hb⟩; have H2 := Lib.hid (chain H1.out hb); clear hb) | (go_at_call 73; refine (hk _).mono ?_; rintro e w3 ⟨rfl, rfl⟩) | (go_at_call 36; refine (check_no _ _).mono ?_; rintro e w3 ⟨rfl, rfl⟩))
      exact ⟨rfl, rfl, below_alloc H2.out⟩
    case true =>
      cases u
      case false =>
        simp only [Bool.and_false, Bool.false_eq_true, if_false]
        go_enter Tryz.func40, Tryz.ntmps40
        go_wp2_with (first | (go_at_call 55; refine (hc _ (HE.out.alloc _)).mono ?_; rintro e w1 ⟨rfl, hb⟩; have H1 := Lib.hid hb; clear hb) | (go_at_call 72; refine (ht _).mono ?_; rintro e w2 ⟨rfl, hb⟩; have H2 := Lib.hid (chain H1.out hb); clear hb) | (go_at_call 73; refine (hk _).mono ?_; rintro e w3 ⟨rfl, rfl⟩) | (go_at_call 74; refine (hv _).mono ?_; rintro e w4 ⟨rfl, hb⟩; have H3 := Lib.hid (chain H2.out hb); clear hb) | (go_at_call 36; refine (check_no _ _).mono ?_; rintro e w3 ⟨rfl, rfl⟩))
        exact ⟨rfl, rfl, below_alloc H3.out⟩
      case true =>
        simp only [Bool.and_self, if_true]
        go_enter Tryz.func40, Tryz.ntmps40
        go_wp2_with (first | (go_at_call 55; refine (hc _ (HE.out.alloc _)).mono ?_; rintro e w1 ⟨rfl, hb⟩; have H1 := Lib.hid hb; clear hb) | (go_at_call 72; refine (ht _).mono ?_; rintro e w2 ⟨rfl, hb⟩; have H2 := Lib.hid (chain H1.out hb); clear hb) | (go_at_call 73; refine (hk _).mono ?_; rintro e w3 ⟨rfl, rfl⟩) | (go_at_call 74; refine (hv _).mono ?_; rintro e w4 ⟨rfl, hb⟩; have H3 := Lib.hid (chain H2.out hb); clear hb) | (go_at_call 36; refine (check_ok _ _).mono ?_; rintro e w3 ⟨rfl, rfl⟩) | (go_at_call 32; refine (hl _).mono ?_; rintro e w5 ⟨rfl, hb⟩; have H4 := Lib.hid (chain H3.out hb); clear hb; obtain ⟨⟨q0, q1⟩, z0, z1⟩ := box2 H4.out))
        have s0 : ∀ x, (w5.setCell ⟨w.heap.size, 0, none⟩ x).cell? ⟨w.heap.size, 0, none⟩ = some x := fun x => World.cell?_setCell_same _ _ _ q0
        have s1 : ∀ x y, ((w5.setCell ⟨w.heap.size, 0, none⟩ x).setCell ⟨w.heap.size, 1, none⟩ y).cell? ⟨w.heap.size, 1, none⟩ = some y := fun x y => World.cell?_setCell_same _ _ _ (by rw [World.cell?_setCell_other _ _ _ _ (by simp)]; exact q1)
        refine bodyPost_ret (by simp [results, Tryz.results40, go_sem, s0, s1]; try rfl) rfl ?_
        exact ⟨rfl, ((below_alloc H4.out).setCell (Nat.le_refl _) _).setCell (Nat.le_refl _) _⟩
end Go.Proofs.YtidhemjnchonaaaGreatDoor
