/- The contracts of slices.Clone and slices.Equal at bytes. -/
import Derived.Test.YthjfogllinboaaaPutR
import Derived.WalkSpells
import Derived.BigQuiet
import Derived.Deep.QuietTactic
namespace Go.Proofs.Ythjfogllinboaaa
open Go.RowKit Go.BL Go.Wr

theorem clone_any (A : Option Addr) (m cap : Nat) (bs : List Nat) (w : World) (hr : Rd w A m bs) (hm : m ≤ 140737488355328) :
    Calls Try.prog 10 #[.slice A m cap] w (RetO bs w) := by
  have heq := fun (w : World) (a : Option Addr) (n c n' c' : Nat) => Lib.run_eql_slice_nil (P := Try.prog) w 22 5 a n c n' c' Try.underlying22
  have Hr := Lib.hid hr
  clear hr
  cases A with
  | none =>
    have hb : Hid (bs = []) := Lib.hid (by
      have h0 : m = 0 := by
        rcases Nat.eq_zero_or_pos m with h | h
        · exact h
        · obtain ⟨_, _, e, _⟩ := Hr.out.2.2.2 h; cases e
      exact List.eq_nil_of_length_eq_zero (by rw [Hr.out.1, h0]))
    go_enter Try.func10, Try.ntmps10
    go_wp2
    go_ret
    exact ⟨_, rfl, by rw [hb.out]; exact Own.nil _ _, Below.refl _ _⟩
  | some a =>
    go_enter Try.func10, Try.ntmps10
    go_wp2_with (at_builtin; refine wpList_appB rfl (.tmp 5) (.tmp 6) 22 rfl Try.underlying22 info5 rfl (Own.empty w w.heap.size w.heap.size rfl (Nat.le_refl _)) rfl (Hr.out.alloc _) (by simp; omega) (by simp) ?_; intro v w1 ho hb; have Ho := Lib.hid ho; have Hb := Lib.hid hb; clear ho hb)
    go_ret
    exact ⟨_, rfl, Ho.out, ((Below.refl _ _).alloc (Nat.le_refl _) _).trans Hb.out⟩

/-- The call returns v; draws were made. -/
def RetD (v : Value) (w : World) (e : Ending) (w' : World) : Prop := e = .returned v ∧ ∃ n, w' = w.drewN n

theorem eq_no {bs cs : List Nat} {k : Nat} (h : bs.getD k 0 ≠ cs.getD k 0) : decide (bs = cs) = false := decide_eq_false (fun e => h (by rw [e]))
theorem eq_yes {bs cs : List Nat} (hl : bs.length = cs.length) (h : ∀ j, j < bs.length → bs.getD j 0 = cs.getD j 0) : decide (bs = cs) = true := decide_eq_true (by
  apply List.ext_getElem hl
  intro i h1 h2
  have := h i h1
  simpa [List.getD_eq_getElem?_getD, List.getElem?_eq_getElem h1, List.getElem?_eq_getElem h2] using this)

theorem equal_any (A C : Option Addr) (m n cap cap' : Nat) (bs cs : List Nat) (w : World) (hr : Rd w A m bs) (hs : Rd w C n cs) :
    Calls Try.prog 13 #[.slice A m cap, .slice C n cap'] w (RetD (.bool (decide (bs = cs))) w) := by
  have hm := hr.2.1
  unfold maxLen at hm
  have Hr := Lib.hid hr
  have Hs := Lib.hid hs
  clear hr hs
  by_cases hmn : m = n
  · subst hmn
    go_enter Try.func13, Try.ntmps13
    go_wp2
    go_loopw [13] (fun i wr => ∃ k N : Nat, k ≤ m ∧ i = .int .i64 k ∧ wr = w.drewN N ∧ Hid (∀ j, j < k → bs.getD j 0 = cs.getD j 0)) (fun i _ => m - (intOf i).toNat)
    case atStart => exact ⟨0, 0, Nat.zero_le _, rfl, rfl, Lib.hid (fun j hj => by omega)⟩
    case round =>
      obtain ⟨k, N, hk, rfl, rfl, HE⟩ := hrel
      by_cases hlt : k < m
      · obtain ⟨b, off, rfl, _, hcb⟩ := Hr.out.2.2.2 (by omega)
        obtain ⟨c, off', rfl, _, hcc⟩ := Hs.out.2.2.2 (by omega)
        have h1 := hcb k hlt
        have h2 := hcc k hlt
        have hlt' : (k : Int) < (m : Int) := by omega
        clear hcb hcc
        by_cases hxy : bs.getD k 0 = cs.getD k 0
        · have HE2 : Hid (∀ j, j < k + 1 → bs.getD j 0 = cs.getD j 0) := Lib.hid (fun j hj => by
            rcases Nat.lt_or_ge j k with h | h
            · exact HE.out j h
            · rw [show j = k by omega]; exact hxy)
          rw [hxy] at h1
          generalize cs.getD k 0 = x at *
          clear hxy
          go_wp2
          go_quiet (fail)
          go_wp2
          go_roundw
          case rel => exact ⟨k + 1, _, by omega, by go_num, rfl, HE2⟩
          case measure => simp [intOf]; omega
        · have HD : Hid (decide (bs = cs) = false) := Lib.hid (eq_no hxy)
          generalize bs.getD k 0 = x at *
          generalize cs.getD k 0 = y at *
          have hne : ((x : Int) != (y : Int)) = true := bne_iff_ne.2 (by omega)
          clear hxy
          go_wp2
          go_quiet (fail)
          go_wp2
          go_ret
          exact ⟨by rw [HD.out]; rfl, by simp only [World.drewN_drewN]; exact ⟨_, rfl⟩⟩
      · obtain rfl : k = m := by omega
        have HD : Hid (decide (bs = cs) = true) := Lib.hid (eq_yes (by rw [Hr.out.1, Hs.out.1]) (by rw [Hr.out.1]; exact HE.out))
        go_wp2
        go_ret
        exact ⟨by rw [HD.out]; rfl, _, rfl⟩
  · have HD : Hid (decide (bs = cs) = false) := Lib.hid (decide_eq_false (fun e => hmn (by rw [← Hr.out.1, ← Hs.out.1, e])))
    have hne : ((m : Int) != (n : Int)) = true := bne_iff_ne.2 (by omega)
    go_enter Try.func13, Try.ntmps13
    go_wp2
    go_ret
    exact ⟨by rw [HD.out]; rfl, 0, rfl⟩
end Go.Proofs.Ythjfogllinboaaa
