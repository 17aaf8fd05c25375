/- The contracts of slices.Clone and slices.Equal at bytes. -/
import Derived.Test.YtidhemjnchonaaaGreatDoorAwake
import Derived.WalkSpells
import Derived.BigQuiet
import Derived.Deep.QuietTactic
namespace Go.Proofs.YtidhemjnchonaaaGreatDoor
open Go.RowKit Go.BL

theorem info5 : (Tryz.prog.info? 5).map (fun i => (i.zero, i.size, i.bytes)) = some (some (.int .u8 0), 1, 1) := by kernel_rfl

theorem clone_rd (A : Option Addr) (m cap : Nat) (bs : List Nat) (w : World) (hr : Rd w A m bs) (hm : m ≤ 140737488355328) :
    Calls Tryz.prog 18 #[.slice A m cap] w (RetO bs w) := by
  have heq := fun (w : World) (a : Option Addr) (n c n' c' : Nat) => Lib.run_eql_slice_nil (P := Tryz.prog) w 28 5 a n c n' c' Tryz.underlying28
  have Hr := Lib.hid hr
  clear hr
  cases A with
  | none =>
    have hb : Hid (bs = []) := Lib.hid (by
      have h0 : m = 0 := by
        rcases Nat.eq_zero_or_pos m with h | h
        · exact h
        · obtain ⟨_, _, e, _⟩ := Hr.out.2.2.2 h; cases e
      exact List.eq_nil_of_length_eq_zero (by rw [Hr.out.1, h0]))
    go_enter Tryz.func18, Tryz.ntmps18
    go_wp2
    go_ret
    exact ⟨_, rfl, by rw [hb.out]; exact Own.nil _ _, Below.refl _ _⟩
  | some a =>
    go_enter Tryz.func18, Tryz.ntmps18
    go_wp2_with (at_builtin; refine wpList_appB rfl (.tmp 5) (.tmp 6) 28 rfl Tryz.underlying28 info5 rfl (Own.empty w w.heap.size w.heap.size rfl (Nat.le_refl _)) rfl (Hr.out.alloc _) (by simp; omega) (by simp) ?_; intro v w1 ho hb; have Ho := Lib.hid ho; have Hb := Lib.hid hb; clear ho hb)
    go_ret
    exact ⟨_, rfl, Ho.out, ((Below.refl _ _).alloc (Nat.le_refl _) _).trans Hb.out⟩

/-- The call returns v; draws were made. -/
def RetD (v : Value) (w : World) (e : Ending) (w' : World) : Prop := e = .returned v ∧ ∃ n, w' = w.drewN n

theorem eq_no {bs cs : List Nat} {k : Nat} (h : bs.getD k 0 ≠ cs.getD k 0) : decide (bs = cs) = false := decide_eq_false (fun e => h (by rw [e]))
theorem eq_yes {bs cs : List Nat} (hl : bs.length = cs.length) (h : ∀ j, j < bs.length → bs.getD j 0 = cs.getD j 0) : decide (bs = cs) = true := decide_eq_true (by
  apply List.ext_getElem hl
  intro i h1 h2
  have := h i h1
  simpa [List.getD_eq_getElem?_getD, List.getElem?_eq_getElem h1, List.getElem?_eq_getElem h2] using this)

theorem equal_any (A C : Option Addr) (m n cap cap' : Nat) (bs cs : List Nat) (w : World) (hr : Rd w A m bs) (hs : Rd w C n cs) :
    Calls Tryz.prog 22 #[.slice A m cap, .slice C n cap'] w (RetD (.bool (decide (bs = cs))) w) := by
  have hm := hr.2.1
  unfold maxLen at hm
  have Hr := Lib.hid hr
  have Hs := Lib.hid hs
  clear hr hs
  by_cases hmn : m = n
  · subst hmn
    go_enter Tryz.func22, Tryz.ntmps22
    go_wp2
    go_loopw [13] (fun i wr => ∃ k N : Nat, k ≤ m ∧ i = .int .i64 k ∧ wr = w.drewN N ∧ Hid (∀ j, j < k → bs.getD j 0 = cs.getD j 0)) (fun i _ => m - (intOf i).toNat)
    case atStart => exact ⟨0, 0, Nat.zero_le _, rfl, rfl, Lib.hid (fun j hj => by omega)⟩
    case round =>
      obtain ⟨k, N, hk, rfl, rfl, HE⟩ := hrel
      by_cases hlt : k < m
      · obtain ⟨b, off, rfl, _, hcb⟩ := Hr.out.2.2.2 (by omega)
        obtain ⟨c, off', rfl, _, hcc⟩ := Hs.out.2.2.2 (by omega)
        have h1 := hcb k hlt
        have h2 := hcc k hlt
        have hlt' : (k : Int) < (m : Int) := by omega
        clear hcb hcc
        by_cases hxy : bs.getD k 0 = cs.getD k 0
        · have HE2 : Hid (∀ j, j < k + 1 → bs.getD j 0 = cs.getD j 0) := Lib.hid (fun j hj => by
            rcases Nat.lt_or_ge j k with h | h
            · exact HE.out j h
            · rw [show j = k by omega]; exact hxy)
          rw [hxy] at h1
          generalize cs.getD k 0 = x at *
          clear hxy
          go_wp2
          go_quiet (fail)
          go_wp2
          go_roundw
          case rel => exact ⟨k + 1, _, by omega, by go_num, rfl, HE2⟩
          case measure => simp [intOf]; omega
        · have HD : Hid (decide (bs = cs) = false) := Lib.hid (eq_no hxy)
          generalize bs.getD k 0 = x at *
          generalize cs.getD k 0 = y at *
          have hne : ((x : Int) != (y : Int)) = true := bne_iff_ne.2 (by omega)
          clear hxy
          go_wp2
          go_quiet (fail)
          go_wp2
          go_ret
          exact ⟨by rw [HD.out]; rfl, by simp only [World.drewN_drewN]; exact ⟨_, rfl⟩⟩
      · obtain rfl : k = m := by omega
        have HD : Hid (decide (bs = cs) = true) := Lib.hid (eq_yes (by rw [Hr.out.1, Hs.out.1]) (by rw [Hr.out.1]; exact HE.out))
        go_wp2
        go_ret
        exact ⟨by rw [HD.out]; rfl, _, rfl⟩
  · have HD : Hid (decide (bs = cs) = false) := Lib.hid (decide_eq_false (fun e => hmn (by rw [← Hr.out.1, ← Hs.out.1, e])))
    have hne : ((m : Int) != (n : Int)) = true := bne_iff_ne.2 (by omega)
    go_enter Tryz.func22, Tryz.ntmps22
    go_wp2
    go_ret
    exact ⟨by rw [HD.out]; rfl, 0, rfl⟩

def nats (b : List UInt8) : List Nat := b.map UInt8.toNat
theorem nats_len (b : List UInt8) : (nats b).length = b.length := by simp [nats]
theorem nats_get (b : List UInt8) (i : Nat) (h : i < b.length) : (nats b).getD i 0 = b[i].toNat := by simp [nats, List.getD_eq_getElem?_getD, h]
theorem nats_inj {a b : List UInt8} (h : nats a = nats b) : a = b := by
  unfold nats at h
  exact (List.map_inj_right (fun x y e => UInt8.toNat_inj.1 e)).1 h
theorem Bsl.rd {w : World} {A : Option Addr} {n c : Nat} {b : List UInt8} (h : Bsl w (.slice A n c) b) : n = b.length ∧ Rd w A n (nats b) := by
  obtain ⟨h0, ⟨A', c', e, rfl, _⟩ | ⟨blk, off, c', e, hcap, hlt, hr⟩⟩ := h
  · injection e with e1 e2 e3
    subst e1 e2
    exact ⟨rfl, Rd.zero _⟩
  · injection e with e1 e2 e3
    subst e1 e2
    refine ⟨rfl, nats_len b, by unfold maxLen; omega, ?_, fun _ => ⟨blk, off, rfl, hlt, fun i hi => ?_⟩⟩
    · intro x hx
      obtain ⟨c, _, rfl⟩ := List.mem_map.1 hx
      exact c.toNat_lt
    · rw [nats_get b i hi]; exact hr i hi
theorem own_bsl {w : World} {B : Nat} {v : Value} {b : List UInt8} (h : Own w B v (nats b)) (hb : b.length ≤ 4294967280) : Bsl w v b := by
  refine ⟨hb, ?_⟩
  rcases h.1.2 with ⟨rfl, h0⟩ | ⟨g, cap, cur, rfl, _, hh, hn, hm, hs, ht⟩
  · rw [nats_len] at h0
    exact .inl ⟨none, 0, rfl, List.eq_nil_of_length_eq_zero h0, fun _ => rfl⟩
  · rw [nats_len] at hn ht ⊢
    have hlt : g < w.heap.size := by
      rcases Nat.lt_or_ge g w.heap.size with h' | h'
      · exact h'
      · rw [Array.getElem?_eq_none h'] at hh; cases hh
    refine .inr ⟨g, 0, cap, rfl, hn, hlt, fun i hi => ?_⟩
    rw [Nat.zero_add, cell_of_row w g i cur 5 (0, 0) hh, ← nats_get b i hi, ← bv_at (by rw [nats_len]; exact hi), ← ht, List.getElem?_take_of_lt (by omega), Array.getElem?_toList]
/-- slices.Clone, of bytes. -/
theorem clone_any (v : Value) (b : List UInt8) (w : World) (hv : Bsl w v b) : Calls Tryz.prog 18 #[v] w fun e w' => ∃ v', e = .returned v' ∧ Bsl w' v' b ∧ Below w.heap.size w w' := by
  obtain ⟨A, c, rfl⟩ := hv.form
  obtain ⟨_, hr⟩ := hv.rd
  refine (clone_rd A b.length c (nats b) w hr (by have := hv.1; omega)).mono ?_
  rintro e w' ⟨v', rfl, ho, hb⟩
  exact ⟨v', rfl, own_bsl ho hv.1, hb⟩
/-- slices.Equal, of bytes. -/
theorem equal_bs (v u : Value) (a b : List UInt8) (w : World) (hv : Bsl w v a) (hu : Bsl w u b) : Calls Tryz.prog 22 #[v, u] w (RetV (.bool (decide (a = b))) w) := by
  obtain ⟨A, c, rfl⟩ := hv.form
  obtain ⟨D, d, rfl⟩ := hu.form
  refine (equal_any A D a.length b.length c d (nats a) (nats b) w hv.rd.2 hu.rd.2).mono ?_
  rintro e w' ⟨rfl, n, rfl⟩
  refine ⟨?_, drewN_below w n⟩
  congr 2
  exact decide_eq_decide.2 ⟨nats_inj, fun e => by rw [e]⟩
end Go.Proofs.YtidhemjnchonaaaGreatDoor
