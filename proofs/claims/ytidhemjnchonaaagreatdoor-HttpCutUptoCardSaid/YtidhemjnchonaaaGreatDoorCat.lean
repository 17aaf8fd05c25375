/- Contracts of slices.Grow (of nothing) and slices.Concat (of two slices of bytes). -/
import Derived.Test.YtidhemjnchonaaaGreatDoorEither
import Derived.Lib.AppendZerosOnto
import Derived.LoopN
namespace Go.Proofs.YtidhemjnchonaaaGreatDoor
open Go.RowKit Go.BL Go.Lib

theorem zeros_size (k : Nat) : (Builtin.zeroCells (Value.int .u8 0).cells k).size = k := by
  simp [Builtin.zeroCells, Value.cells]
theorem own_grown (w : World) (B g G : Nat) (cur : Array Value) (hg : B ≤ g) (h : w.heap[g]? = some (.cells cur 5)) (hs : cur.size = G) (hm : G ≤ maxLen) : Own w B (.slice (some ⟨g, 0, none⟩) 0 G) [] :=
  ⟨⟨rfl, .inr ⟨g, G, cur, rfl, hg, h, Nat.zero_le _, by omega, by omega, by simp [bv]⟩⟩, fun x hx => absurd hx (by simp)⟩
set_option maxHeartbeats 1000000 in
set_option maxRecDepth 100000 in
theorem grow_any (n : Nat) (hn : n ≤ 140737488355328) (w : World) : Calls Tryz.prog 52 #[.slice none 0 0, .int .i64 (n : Int)] w fun e w' => ∃ v, e = .returned v ∧ Own w' w.heap.size v [] ∧ Below w.heap.size w w' := by
  have h1 : ¬ ((n : Int) < 0) := by omega
  have h3 : wrap64 (n : Int) = (n : Int) := by unfold wrap64; omega
  by_cases h0 : n = 0
  · subst h0
    go_enter Tryz.func52, Tryz.ntmps52
    go_wp2_with fail
    go_ret
    exact ⟨_, rfl, Own.nil _ _, Below.refl _ _⟩
  · have h4 : (n : Int) > 0 := by omega
    obtain ⟨i0, hi0, hz0, hz1, hz2⟩ := info_parts (show (Tryz.prog.info? 5).map (fun i => (i.zero, i.size, i.bytes)) = some (some (.int .u8 0), 1, 1) by kernel_rfl)
    have hrz : ∀ ty, (Builtin.append_ #[28, 3] ty #[.slice none 0 0, .int .i64 (n : Int)]).run Tryz.prog w = .ok (.slice (some ⟨w.heap.size, 0, none⟩) n (grownCap w n 0 5))
        (w.drew.alloc (.cells (Builtin.zeroCells (Value.int .u8 0).cells n ++ Builtin.zeroCells (Value.int .u8 0).cells (grownCap w n 0 5 - n)) 5)) := fun ty => by
      have h := Lib.run_append_grow_zeros w 28 3 ty 5 i0 (.int .u8 0) .i64 .i64 Tryz.underlying28 Tryz.underlying3 hi0 hz0 none 0 0 [] (run_firstCells_none w.drew i0.size 0 0 0) n (by omega) (by omega) (by omega) (by omega) (by rw [hz2]; omega)
        (by have := growslice_fits (need := n) (old := 0) (bytes := i0.bytes) (by omega) (by rw [hz2]; omega); rw [Nat.zero_add]; exact this)
      simpa only [Nat.zero_add, List.nil_append, Array.empty_append, show (#[] : Array Value) = List.toArray [] from rfl] using h
    have hGn : n ≤ grownCap w n 0 5 := grownCap_ge w _ _ _
    have hG63 : grownCap w n 0 5 ≤ maxLen := grownCap_le_maxLen w n 0 5 (by unfold maxLen; omega)
    obtain ⟨G, hG⟩ : ∃ G, G = grownCap w n 0 5 := ⟨_, rfl⟩
    rw [← hG] at hrz hGn hG63
    obtain ⟨cur, hcur⟩ : ∃ cur, cur = Builtin.zeroCells (Value.int .u8 0).cells n ++ Builtin.zeroCells (Value.int .u8 0).cells (G - n) := ⟨_, rfl⟩
    rw [← hcur] at hrz
    have HS : Hid (cur.size = G) := Lib.hid (by rw [hcur, Array.size_append, zeros_size, zeros_size]; omega)
    have HM := Lib.hid hG63
    unfold maxLen at hG63
    clear hcur hG
    go_enter Tryz.func52, Tryz.ntmps52
    go_wp2_with (at_builtin; refine Lib.wpList_append_run _ rfl _ _ _ _ rfl _ _ rfl rfl _ _ (hrz _) ?_)
    go_ret
    refine ⟨_, rfl, own_grown _ _ w.heap.size G cur (Nat.le_refl _) ?_ HS.out HM.out, ?_⟩
    · show (w.heap.push _)[w.heap.size]? = _
      simp
    · exact ((Below.refl _ _).drew).alloc (Nat.le_refl _) _
theorem nats_app (a b : List UInt8) : nats (a ++ b) = nats a ++ nats b := by simp [nats]
theorem Bsl.open_ {w : World} {v : Value} {b : List UInt8} (h : Bsl w v b) : ∃ A c, v = .slice A b.length c ∧ Rd w A b.length (nats b) := by
  obtain ⟨A, c, rfl⟩ := h.form
  exact ⟨A, c, rfl, h.rd.2⟩
set_option maxHeartbeats 2000000 in
set_option maxRecDepth 100000 in
theorem concat_any (va vb : Value) (a b : List UInt8) (g : Nat) (w : World) (ha : Bsl w va a) (hb : Bsl w vb b) (hsum : a.length + b.length ≤ 4294967280)
    (hg : g < w.heap.size) (h0 : w.cell? ⟨g, 0, none⟩ = some va) (h1 : w.cell? ⟨g, 1, none⟩ = some vb) :
    Calls Tryz.prog 28 #[.slice (some ⟨g, 0, none⟩) 2 2] w fun e w' => ∃ v, e = .returned v ∧ Bsl w' v (a ++ b) ∧ Below w.heap.size w w' := by
  obtain ⟨A, c, rfl, hra⟩ := ha.open_
  obtain ⟨A', c', rfl, hrb⟩ := hb.open_
  have HRA := Lib.hid hra
  have HRB := Lib.hid hrb
  have hgr := grow_any (a.length + b.length) (by omega)
  rw [Int.natCast_add] at hgr
  have HSUM := Lib.hid hsum
  have n0 : ¬ ((a.length : Int) < 0) := by omega
  have n1 : ¬ ((a.length : Int) + (b.length : Int) < 0) := by omega
  have w0 : wrap64 (a.length : Int) = (a.length : Int) := by unfold wrap64; omega
  have w1 : wrap64 ((a.length : Int) + (b.length : Int)) = (a.length : Int) + (b.length : Int) := by unfold wrap64; omega
  clear ha hb hra hrb hsum
  go_enter Tryz.func28, Tryz.ntmps28
  go_wp2_with fail
  refine wp_loop_rounds 3 ?_
  rw [rounds_succ]
  go_wp2_with fail
  rw [rounds_succ]
  go_wp2_with fail
  rw [rounds_succ]
  go_wp2_with (go_at_call 52; refine (hgr _).mono ?_; rintro e w2 ⟨v2, rfl, ho, hb2⟩; have HO := Lib.hid ho; have HB := Lib.hid hb2; have k0 := (hb2.cell (p := ⟨g, 0, none⟩) hg).trans h0; have k1 := (hb2.cell (p := ⟨g, 1, none⟩) hg).trans h1; clear ho hb2)
  refine wp_loop_rounds 3 ?_
  rw [rounds_succ]
  go_wp2_with (at_builtin; refine wpList_appB rfl _ _ 28 rfl Tryz.underlying28 (by kernel_rfl) rfl HO.out rfl (HRA.out.below HB.out (Nat.le_refl _)) (by have := HSUM.out; simp; omega) HB.out.size ?_; intro v3 w3 ho hb3; have HO3 := Lib.hid ho; have HB3 := Lib.hid ((HB.out.trans (hb3.mono (Nat.le_refl _)))); have k2 := (HB3.out.cell (p := ⟨g, 0, none⟩) hg).trans h0; have k3 := (HB3.out.cell (p := ⟨g, 1, none⟩) hg).trans h1; clear ho hb3)
  rw [rounds_succ]
  go_wp2_with (at_builtin; refine wpList_appB rfl _ _ 28 rfl Tryz.underlying28 (by kernel_rfl) rfl HO3.out rfl (HRB.out.below HB3.out (Nat.le_refl _)) (by have := HSUM.out; simp [nats_len]; omega) HB3.out.size ?_; intro v4 w4 ho hb4; have HO4 := Lib.hid ho; have HB4 := Lib.hid (HB3.out.trans hb4); clear ho hb4)
  rw [rounds_succ]
  go_wp2_with fail
  go_ret
  refine ⟨_, rfl, own_bsl (B := w.heap.size) ?_ (by have := HSUM.out; simp; omega), HB4.out⟩
  rw [nats_app]
  exact HO4.out
end Go.Proofs.YtidhemjnchonaaaGreatDoor
