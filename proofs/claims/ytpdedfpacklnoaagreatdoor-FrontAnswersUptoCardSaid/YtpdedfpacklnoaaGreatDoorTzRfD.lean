/- Contract of the document's Covers. -/
import Derived.Test.YtpdedfpacklnoaaGreatDoorTzRfA
set_option maxRecDepth 100000
namespace Go.Proofs.YtpdedfpacklnoaaGreatDoor
open Go.RowKit Go.BL Go.Ct Go.Sl

theorem drop_no {l : List Dt} {d : Dt} {k : Nat} (h : d ∉ l.take k) (hk : k < l.length) (hn : l[k] ≠ d) : d ∉ l.take (k + 1) := by
 rw [List.take_succ_eq_append_getElem hk, List.mem_append]
 rintro (h2 | h2)
 ·exact h h2
 ·exact hn (List.mem_singleton.1 h2).symm
set_option maxHeartbeats 4000000 in
theorem coversR_any (x : Cx) (d : Dt) (mv cv : Value) (w : World) (hm : Dots w mv x.ms) (hc : Dots w cv x.cl) (hpos : ∀ e ∈ x.cl, 1 ≤ e.c) : Calls Tryz.prog 43 #[.agg #[mv, cv], dotV d] w (RetV (.bool (covers x d)) w) := by
 obtain ⟨A, ac, rfl⟩ := hm.form
 obtain ⟨D, dc, rfl⟩ := hc.form
 obtain ⟨n, l, c⟩ := d
 obtain ⟨ms, cl⟩ := x
 dsimp only [dotV] at hm hc ⊢
 have hmk := fun w hm => markR_any ms (.slice A ms.length ac) n l w hm
 obtain ⟨mk, hk⟩ : ∃ x, markOf ms n l = x := ⟨_, rfl⟩
 rw [hk] at hmk
 have HF : Hid (covers ⟨ms, cl⟩ ⟨n, l, c⟩ = ((decide (1 ≤ c) && decide (c ≤ mk)) || decide ((⟨n, l, c⟩ : Dt) ∈ cl))) := Lib.hid (by
  unfold covers; dsimp only; rw [hk]
  by_cases h : (⟨n, l, c⟩ : Dt) ∈ cl
  ·rw [decide_eq_true h, decide_eq_true (show 1 ≤ c from hpos _ h)]; simp
  ·rw [decide_eq_false h]; simp)
 clear hk hpos
 obtain ⟨w0, hw0⟩ : ∃ w0, (w.alloc (.cells #[.slice A ms.length ac, .slice D cl.length dc] 30)).alloc (.cells #[.int .i64 n, .int .i64 l, .int .i64 c] 90) = w0 := ⟨_, rfl⟩
 have HB : Hid (Below w.heap.size w w0) := Lib.hid (by rw [← hw0]; exact ((Below.refl _ _).alloc (Nat.le_refl _) _).alloc (by simp) _)
 have HS : Hid (w.heap.size + 1 < w0.heap.size) := Lib.hid (by rw [← hw0]; simp)
 have HS1 : Hid (w.heap.size < w0.heap.size) := Lib.hid (by have := HS.out; omega)
 have HQ : Hid (w0.cell? ⟨w.heap.size + 1, 0, none⟩ = some (.int .i64 n) ∧ w0.cell? ⟨w.heap.size + 1, 1, none⟩ = some (.int .i64 l) ∧ w0.cell? ⟨w.heap.size + 1, 2, none⟩ = some (.int .i64 c)) := Lib.hid (by rw [← hw0]; exact tri_at _ _ _ _ 90 _ (by simp))
 have HP : Hid (w0.cell? ⟨w.heap.size, 0, none⟩ = some (.slice A ms.length ac) ∧ w0.cell? ⟨w.heap.size, 1, none⟩ = some (.slice D cl.length dc)) := Lib.hid (by rw [← hw0]; exact ⟨(World.cell?_alloc_lt _ _ _ (by simp)).trans (pair_at w _ _ 30 _ rfl).1, (World.cell?_alloc_lt _ _ _ (by simp)).trans (pair_at w _ _ 30 _ rfl).2⟩)
 have HM := Lib.hid (hm.below HB.out (Nat.le_refl _))
 have HC := Lib.hid (hc.below HB.out (Nat.le_refl _))
 have hmx := hc.1
 obtain ⟨q2, q3, q4⟩ := HQ.out
 obtain ⟨q0, q1⟩ := HP.out
 clear hm hc
 go_enter Tryz.func43, Tryz.ntmps43
 go_upto_region 1 with fail
 clear hw0
 by_cases g1 : 1 ≤ c
 case neg =>
  have g1' : c < 1 := by omega
  have HVE : Hid ((⟨n, l, c⟩ : Dt) ∈ cl → covers ⟨ms, cl⟩ ⟨n, l, c⟩ = true) := Lib.hid (fun h => by rw [HF.out, decide_eq_true h]; simp)
  have HVN : Hid (¬ (⟨n, l, c⟩ : Dt) ∈ cl → covers ⟨ms, cl⟩ ⟨n, l, c⟩ = false) := Lib.hid (fun h => by rw [HF.out, decide_eq_false h, decide_eq_false g1]; simp)
  refine hstart (S := fun u => u.cell? ⟨w.heap.size, 0, none⟩ = some (.slice A ms.length ac) ∧ u.cell? ⟨w.heap.size, 1, none⟩ = some (.slice D cl.length dc) ∧ u.cell? ⟨w.heap.size + 1, 0, none⟩ = some (.int .i64 n) ∧ u.cell? ⟨w.heap.size + 1, 1, none⟩ = some (.int .i64 l) ∧ u.cell? ⟨w.heap.size + 1, 2, none⟩ = some (.int .i64 c)) (by kernel_rfl) (by repeat (first | exact PG.body | refine PG.then_ ?_ | refine PG.inBlock ?_)) ?_ (fun hPF hHeld => ?_)
  ·exact ⟨q0, q1, q2, q3, q4⟩
  refine htake (i := 0) (v := .pointer (some ⟨w.heap.size + 1, 2, none⟩)) rfl (by kernel_rfl) (by kernel_rfl) (by kernel_rfl) hPF (Or.inl ⟨by kernel_rfl, ?_⟩) hHeld ?_
  ·intro u hS; obtain ⟨p0, p1, p2, p3, p4⟩ := hS; go_simp
  refine htake (i := 1) (v := .int .i64 c) rfl (by kernel_rfl) (by kernel_rfl) (by kernel_rfl) hPF (Or.inl ⟨by kernel_rfl, ?_⟩) hHeld ?_
  ·intro u hS; obtain ⟨p0, p1, p2, p3, p4⟩ := hS; go_simp
  refine htake (i := 2) (v := .bool false) rfl (by kernel_rfl) (by kernel_rfl) (by kernel_rfl) hPF (Or.inl ⟨by kernel_rfl, ?_⟩) hHeld ?_
  ·intro u hS; obtain ⟨p0, p1, p2, p3, p4⟩ := hS; go_simp
  refine htake (i := 3) (v := .bool false) rfl (by kernel_rfl) (by kernel_rfl) (by kernel_rfl) hPF (Or.inl ⟨by kernel_rfl, ?_⟩) hHeld ?_
  ·intro u hS; obtain ⟨p0, p1, p2, p3, p4⟩ := hS; go_simp
  refine htake (i := 4) (v := undef) rfl (by kernel_rfl) (by kernel_rfl) (by kernel_rfl) hPF (Or.inr ⟨by kernel_rfl, rfl⟩) hHeld ?_
  refine htake (i := 5) (v := undef) rfl (by kernel_rfl) (by kernel_rfl) (by kernel_rfl) hPF (Or.inr ⟨by kernel_rfl, rfl⟩) hHeld ?_
  refine htake (i := 6) (v := undef) rfl (by kernel_rfl) (by kernel_rfl) (by kernel_rfl) hPF (Or.inr ⟨by kernel_rfl, rfl⟩) hHeld ?_
  refine htake (i := 7) (v := undef) rfl (by kernel_rfl) (by kernel_rfl) (by kernel_rfl) hPF (Or.inr ⟨by kernel_rfl, rfl⟩) hHeld ?_
  refine htake (i := 8) (v := undef) rfl (by kernel_rfl) (by kernel_rfl) (by kernel_rfl) hPF (Or.inr ⟨by kernel_rfl, rfl⟩) hHeld ?_
  refine htake (i := 9) (v := undef) rfl (by kernel_rfl) (by kernel_rfl) (by kernel_rfl) hPF (Or.inr ⟨by kernel_rfl, rfl⟩) hHeld ?_
  refine htake (i := 10) (v := undef) rfl (by kernel_rfl) (by kernel_rfl) (by kernel_rfl) hPF (Or.inr ⟨by kernel_rfl, rfl⟩) hHeld ?_
  refine htake (i := 11) (v := undef) rfl (by kernel_rfl) (by kernel_rfl) (by kernel_rfl) hPF (Or.inr ⟨by kernel_rfl, rfl⟩) hHeld ?_
  refine htake (i := 12) (v := undef) rfl (by kernel_rfl) (by kernel_rfl) (by kernel_rfl) hPF (Or.inr ⟨by kernel_rfl, rfl⟩) hHeld ?_
  refine htake (i := 13) (v := undef) rfl (by kernel_rfl) (by kernel_rfl) (by kernel_rfl) hPF (Or.inr ⟨by kernel_rfl, rfl⟩) hHeld ?_
  refine wpAnyH_ready (rs := [14]) (by kernel_rfl) (by simp) ?_
  refine AllReadyH.cons (i := 14) rfl (fun K hK => ?_) AllReadyH.nil
  go_simp
  refine hK.out _ _ ?_ (fun hHeld => ?_)
  ·exact ⟨q0, q1, q2, q3, q4⟩
  clear hK K
  refine wpAnyH_done (by kernel_rfl) ?_ _
  go_wp2_with fail
  go_loopw [25] (fun i wr => ∃ k : Nat, k ≤ cl.length ∧ i = .int .i64 (k : Int) ∧ Hid (Below w0.heap.size w0 wr) ∧ Hid ((⟨n, l, c⟩ : Dt) ∉ cl.take k)) (fun i _ => cl.length - (intOf i).toNat)
  case atStart => exact ⟨0, by omega, rfl, Lib.hid ((Below.refl w0.heap.size w0).drew), Lib.hid (by simp)⟩
  case round =>
   obtain ⟨k, hk, rfl, HR, HN⟩ := hrel
   by_cases hlt : k < cl.length
   ·obtain ⟨b, off, rfl, hbl, hcc⟩ := dot_cells HC.out (by omega)
    obtain ⟨c1, c2, c3⟩ := hcc k hlt
    obtain ⟨⟨dn, dl, dc⟩, hx⟩ : ∃ x, cl[k]'hlt = x := ⟨_, rfl⟩
    rw [hx] at c1 c2 c3
    have d1 := (HR.out.cell (p := ⟨b, off + k * 3, none⟩) hbl).trans c1
    have d2 := (HR.out.cell (p := ⟨b, off + k * 3 + 1, none⟩) hbl).trans c2
    have d3 := (HR.out.cell (p := ⟨b, off + k * 3 + 2, none⟩) hbl).trans c3
    have HX := Lib.hid hx
    have HSW : Hid (w.heap.size + 1 < wr.heap.size) := Lib.hid (Nat.lt_of_lt_of_le HS.out HR.out.size)
    have t2 := old_cell HR.out HS.out q2
    have t3 := old_cell HR.out HS.out q3
    have t4 := old_cell HR.out HS.out q4
    clear hcc c1 c2 c3 hx hbl
    obtain ⟨w1, hw1⟩ : ∃ w1, wr.alloc (.cells #[.int .i64 dn, .int .i64 dl, .int .i64 dc] 90) = w1 := ⟨_, rfl⟩
    have HW1 : Hid (Below w0.heap.size w0 w1) := Lib.hid (by rw [← hw1]; exact HR.out.alloc HR.out.size _)
    have HP1 : Hid (w1.cell? ⟨wr.heap.size, 0, none⟩ = some (.int .i64 dn) ∧ w1.cell? ⟨wr.heap.size, 1, none⟩ = some (.int .i64 dl) ∧ w1.cell? ⟨wr.heap.size, 2, none⟩ = some (.int .i64 dc)) := Lib.hid (by rw [← hw1]; exact tri_at wr _ _ _ 90 _ rfl)
    have HQ1 : Hid (w1.cell? ⟨w.heap.size + 1, 0, none⟩ = some (.int .i64 n) ∧ w1.cell? ⟨w.heap.size + 1, 1, none⟩ = some (.int .i64 l) ∧ w1.cell? ⟨w.heap.size + 1, 2, none⟩ = some (.int .i64 c)) := Lib.hid (by rw [← hw1]; exact ⟨(World.cell?_alloc_lt _ _ _ HSW.out).trans t2, (World.cell?_alloc_lt _ _ _ HSW.out).trans t3, (World.cell?_alloc_lt _ _ _ HSW.out).trans t4⟩)
    go_upto_region 6 with fail
    clear hw1 d1 d2 d3 t2 t3 t4
    obtain ⟨x0, x1, x2⟩ := HP1.out
    obtain ⟨y0, y1, y2⟩ := HQ1.out
    by_cases h1 : dn = n
    case neg =>
     have g1 : ¬ n = dn := fun h => h1 h.symm
     have HNX := Lib.hid (drop_no HN.out hlt (by rw [HX.out]; simp [h1]))
     go_wp2_with fail
     exact ⟨⟨k + 1, by omega, by go_num, HW1, HNX⟩, by simp [intOf]; omega⟩
    subst h1
    by_cases h2 : dl = l
    case neg =>
     have g2 : ¬ l = dl := fun h => h2 h.symm
     have HNX := Lib.hid (drop_no HN.out hlt (by rw [HX.out]; simp [h2]))
     go_wp2_with fail
     exact ⟨⟨k + 1, by omega, by go_num, HW1, HNX⟩, by simp [intOf]; omega⟩
    subst h2
    by_cases h3 : dc = c
    case neg =>
     have g3 : ¬ c = dc := fun h => h3 h.symm
     have HNX := Lib.hid (drop_no HN.out hlt (by rw [HX.out]; simp [h3]))
     go_wp2_with fail
     exact ⟨⟨k + 1, by omega, by go_num, HW1, HNX⟩, by simp [intOf]; omega⟩
    subst h3
    have HV := Lib.hid (HVE.out (by have := List.getElem_mem hlt; rwa [HX.out] at this))
    go_wp2_with fail
    go_ret
    exact ⟨by rw [HV.out]; rfl, HB.out.trans (HW1.out.mono HB.out.size)⟩
   ·have HV := Lib.hid (HVN.out (by have := HN.out; rwa [List.take_of_length_le (by omega)] at this))
    go_wp2_with fail
    go_ret
    exact ⟨by rw [HV.out]; rfl, HB.out.trans (HR.out.mono HB.out.size)⟩
 by_cases g2 : c ≤ mk
 case neg =>
  have g2' : mk < c := by omega
  have HVE : Hid ((⟨n, l, c⟩ : Dt) ∈ cl → covers ⟨ms, cl⟩ ⟨n, l, c⟩ = true) := Lib.hid (fun h => by rw [HF.out, decide_eq_true h]; simp)
  have HVN : Hid (¬ (⟨n, l, c⟩ : Dt) ∈ cl → covers ⟨ms, cl⟩ ⟨n, l, c⟩ = false) := Lib.hid (fun h => by rw [HF.out, decide_eq_false h, decide_eq_false g2]; simp)
  refine hstart (S := fun u => u.cell? ⟨w.heap.size, 0, none⟩ = some (.slice A ms.length ac) ∧ u.cell? ⟨w.heap.size, 1, none⟩ = some (.slice D cl.length dc) ∧ u.cell? ⟨w.heap.size + 1, 0, none⟩ = some (.int .i64 n) ∧ u.cell? ⟨w.heap.size + 1, 1, none⟩ = some (.int .i64 l) ∧ u.cell? ⟨w.heap.size + 1, 2, none⟩ = some (.int .i64 c)) (by kernel_rfl) (by repeat (first | exact PG.body | refine PG.then_ ?_ | refine PG.inBlock ?_)) ?_ (fun hPF hHeld => ?_)
  ·exact ⟨q0, q1, q2, q3, q4⟩
  refine htake (i := 0) (v := .pointer (some ⟨w.heap.size + 1, 2, none⟩)) rfl (by kernel_rfl) (by kernel_rfl) (by kernel_rfl) hPF (Or.inl ⟨by kernel_rfl, ?_⟩) hHeld ?_
  ·intro u hS; obtain ⟨p0, p1, p2, p3, p4⟩ := hS; go_simp
  refine htake (i := 1) (v := .int .i64 c) rfl (by kernel_rfl) (by kernel_rfl) (by kernel_rfl) hPF (Or.inl ⟨by kernel_rfl, ?_⟩) hHeld ?_
  ·intro u hS; obtain ⟨p0, p1, p2, p3, p4⟩ := hS; go_simp
  refine htake (i := 2) (v := .bool true) rfl (by kernel_rfl) (by kernel_rfl) (by kernel_rfl) hPF (Or.inl ⟨by kernel_rfl, ?_⟩) hHeld ?_
  ·intro u hS; obtain ⟨p0, p1, p2, p3, p4⟩ := hS; go_simp
  refine htake (i := 3) (v := .bool true) rfl (by kernel_rfl) (by kernel_rfl) (by kernel_rfl) hPF (Or.inl ⟨by kernel_rfl, ?_⟩) hHeld ?_
  ·intro u hS; obtain ⟨p0, p1, p2, p3, p4⟩ := hS; go_simp
  refine htake (i := 4) (v := .pointer (some ⟨w.heap.size + 1, 2, none⟩)) rfl (by kernel_rfl) (by kernel_rfl) (by kernel_rfl) hPF (Or.inl ⟨by kernel_rfl, ?_⟩) hHeld ?_
  ·intro u hS; obtain ⟨p0, p1, p2, p3, p4⟩ := hS; go_simp
  refine htake (i := 5) (v := .int .i64 c) rfl (by kernel_rfl) (by kernel_rfl) (by kernel_rfl) hPF (Or.inl ⟨by kernel_rfl, ?_⟩) hHeld ?_
  ·intro u hS; obtain ⟨p0, p1, p2, p3, p4⟩ := hS; go_simp
  refine htake (i := 6) (v := .pointer (some ⟨w.heap.size, 0, none⟩)) rfl (by kernel_rfl) (by kernel_rfl) (by kernel_rfl) hPF (Or.inl ⟨by kernel_rfl, ?_⟩) hHeld ?_
  ·intro u hS; obtain ⟨p0, p1, p2, p3, p4⟩ := hS; go_simp
  refine htake (i := 7) (v := .slice A ms.length ac) rfl (by kernel_rfl) (by kernel_rfl) (by kernel_rfl) hPF (Or.inl ⟨by kernel_rfl, ?_⟩) hHeld ?_
  ·intro u hS; obtain ⟨p0, p1, p2, p3, p4⟩ := hS; go_simp
  refine htake (i := 8) (v := .pointer (some ⟨w.heap.size + 1, 0, none⟩)) rfl (by kernel_rfl) (by kernel_rfl) (by kernel_rfl) hPF (Or.inl ⟨by kernel_rfl, ?_⟩) hHeld ?_
  ·intro u hS; obtain ⟨p0, p1, p2, p3, p4⟩ := hS; go_simp
  refine htake (i := 9) (v := .int .i64 n) rfl (by kernel_rfl) (by kernel_rfl) (by kernel_rfl) hPF (Or.inl ⟨by kernel_rfl, ?_⟩) hHeld ?_
  ·intro u hS; obtain ⟨p0, p1, p2, p3, p4⟩ := hS; go_simp
  refine htake (i := 10) (v := .pointer (some ⟨w.heap.size + 1, 1, none⟩)) rfl (by kernel_rfl) (by kernel_rfl) (by kernel_rfl) hPF (Or.inl ⟨by kernel_rfl, ?_⟩) hHeld ?_
  ·intro u hS; obtain ⟨p0, p1, p2, p3, p4⟩ := hS; go_simp
  refine htake (i := 11) (v := .int .i64 l) rfl (by kernel_rfl) (by kernel_rfl) (by kernel_rfl) hPF (Or.inl ⟨by kernel_rfl, ?_⟩) hHeld ?_
  ·intro u hS; obtain ⟨p0, p1, p2, p3, p4⟩ := hS; go_simp
  refine wpAnyH_ready (rs := [12]) (by kernel_rfl) (by simp) ?_
  refine AllReadyH.cons (i := 12) rfl (fun K hK => ?_) AllReadyH.nil
  go_simp
  go_at_call 91
  refine (hmk _ (show Dots w0.drew _ _ from HM.out)).mono ?_
  rintro e w2 ⟨rfl, hb⟩
  have HB2 := Lib.hid ((Below.refl w0.heap.size w0).drew.trans hb)
  clear hb
  have j0 := old_cell HB2.out (HS1.out) q0
  have j1 := old_cell HB2.out (HS1.out) q1
  have j2 := old_cell HB2.out (HS.out) q2
  have j3 := old_cell HB2.out (HS.out) q3
  have j4 := old_cell HB2.out (HS.out) q4
  refine hK.out _ _ ?_ (fun hHeld => ?_)
  ·exact ⟨j0, j1, j2, j3, j4⟩
  clear hK K
  refine htake (i := 13) (v := .bool false) rfl (by kernel_rfl) (by kernel_rfl) (by kernel_rfl) hPF (Or.inl ⟨by kernel_rfl, ?_⟩) hHeld ?_
  ·intro u hS; obtain ⟨p0, p1, p2, p3, p4⟩ := hS; go_simp
  refine wpAnyH_ready (rs := [14]) (by kernel_rfl) (by simp) ?_
  refine AllReadyH.cons (i := 14) rfl (fun K hK => ?_) AllReadyH.nil
  go_simp
  refine hK.out _ _ ?_ (fun hHeld => ?_)
  ·exact ⟨j0, j1, j2, j3, j4⟩
  clear hK K
  refine wpAnyH_done (by kernel_rfl) ?_ _
  go_wp2_with fail
  go_loopw [25] (fun i wr => ∃ k : Nat, k ≤ cl.length ∧ i = .int .i64 (k : Int) ∧ Hid (Below w0.heap.size w0 wr) ∧ Hid ((⟨n, l, c⟩ : Dt) ∉ cl.take k)) (fun i _ => cl.length - (intOf i).toNat)
  case atStart => exact ⟨0, by omega, rfl, Lib.hid (HB2.out), Lib.hid (by simp)⟩
  case round =>
   obtain ⟨k, hk, rfl, HR, HN⟩ := hrel
   by_cases hlt : k < cl.length
   ·obtain ⟨b, off, rfl, hbl, hcc⟩ := dot_cells HC.out (by omega)
    obtain ⟨c1, c2, c3⟩ := hcc k hlt
    obtain ⟨⟨dn, dl, dc⟩, hx⟩ : ∃ x, cl[k]'hlt = x := ⟨_, rfl⟩
    rw [hx] at c1 c2 c3
    have d1 := (HR.out.cell (p := ⟨b, off + k * 3, none⟩) hbl).trans c1
    have d2 := (HR.out.cell (p := ⟨b, off + k * 3 + 1, none⟩) hbl).trans c2
    have d3 := (HR.out.cell (p := ⟨b, off + k * 3 + 2, none⟩) hbl).trans c3
    have HX := Lib.hid hx
    have HSW : Hid (w.heap.size + 1 < wr.heap.size) := Lib.hid (Nat.lt_of_lt_of_le HS.out HR.out.size)
    have t2 := old_cell HR.out HS.out q2
    have t3 := old_cell HR.out HS.out q3
    have t4 := old_cell HR.out HS.out q4
    clear hcc c1 c2 c3 hx hbl
    obtain ⟨w1, hw1⟩ : ∃ w1, wr.alloc (.cells #[.int .i64 dn, .int .i64 dl, .int .i64 dc] 90) = w1 := ⟨_, rfl⟩
    have HW1 : Hid (Below w0.heap.size w0 w1) := Lib.hid (by rw [← hw1]; exact HR.out.alloc HR.out.size _)
    have HP1 : Hid (w1.cell? ⟨wr.heap.size, 0, none⟩ = some (.int .i64 dn) ∧ w1.cell? ⟨wr.heap.size, 1, none⟩ = some (.int .i64 dl) ∧ w1.cell? ⟨wr.heap.size, 2, none⟩ = some (.int .i64 dc)) := Lib.hid (by rw [← hw1]; exact tri_at wr _ _ _ 90 _ rfl)
    have HQ1 : Hid (w1.cell? ⟨w.heap.size + 1, 0, none⟩ = some (.int .i64 n) ∧ w1.cell? ⟨w.heap.size + 1, 1, none⟩ = some (.int .i64 l) ∧ w1.cell? ⟨w.heap.size + 1, 2, none⟩ = some (.int .i64 c)) := Lib.hid (by rw [← hw1]; exact ⟨(World.cell?_alloc_lt _ _ _ HSW.out).trans t2, (World.cell?_alloc_lt _ _ _ HSW.out).trans t3, (World.cell?_alloc_lt _ _ _ HSW.out).trans t4⟩)
    go_upto_region 6 with fail
    clear hw1 d1 d2 d3 t2 t3 t4
    obtain ⟨x0, x1, x2⟩ := HP1.out
    obtain ⟨y0, y1, y2⟩ := HQ1.out
    by_cases h1 : dn = n
    case neg =>
     have g1 : ¬ n = dn := fun h => h1 h.symm
     have HNX := Lib.hid (drop_no HN.out hlt (by rw [HX.out]; simp [h1]))
     go_wp2_with fail
     exact ⟨⟨k + 1, by omega, by go_num, HW1, HNX⟩, by simp [intOf]; omega⟩
    subst h1
    by_cases h2 : dl = l
    case neg =>
     have g2 : ¬ l = dl := fun h => h2 h.symm
     have HNX := Lib.hid (drop_no HN.out hlt (by rw [HX.out]; simp [h2]))
     go_wp2_with fail
     exact ⟨⟨k + 1, by omega, by go_num, HW1, HNX⟩, by simp [intOf]; omega⟩
    subst h2
    by_cases h3 : dc = c
    case neg =>
     have g3 : ¬ c = dc := fun h => h3 h.symm
     have HNX := Lib.hid (drop_no HN.out hlt (by rw [HX.out]; simp [h3]))
     go_wp2_with fail
     exact ⟨⟨k + 1, by omega, by go_num, HW1, HNX⟩, by simp [intOf]; omega⟩
    subst h3
    have HV := Lib.hid (HVE.out (by have := List.getElem_mem hlt; rwa [HX.out] at this))
    go_wp2_with fail
    go_ret
    exact ⟨by rw [HV.out]; rfl, HB.out.trans (HW1.out.mono HB.out.size)⟩
   ·have HV := Lib.hid (HVN.out (by have := HN.out; rwa [List.take_of_length_le (by omega)] at this))
    go_wp2_with fail
    go_ret
    exact ⟨by rw [HV.out]; rfl, HB.out.trans (HR.out.mono HB.out.size)⟩
 case pos =>
  have HV : Hid (covers ⟨ms, cl⟩ ⟨n, l, c⟩ = true) := Lib.hid (by rw [HF.out, decide_eq_true g1, decide_eq_true g2]; rfl)
  refine hstart (S := fun u => u.cell? ⟨w.heap.size, 0, none⟩ = some (.slice A ms.length ac) ∧ u.cell? ⟨w.heap.size, 1, none⟩ = some (.slice D cl.length dc) ∧ u.cell? ⟨w.heap.size + 1, 0, none⟩ = some (.int .i64 n) ∧ u.cell? ⟨w.heap.size + 1, 1, none⟩ = some (.int .i64 l) ∧ u.cell? ⟨w.heap.size + 1, 2, none⟩ = some (.int .i64 c)) (by kernel_rfl) (by repeat (first | exact PG.body | refine PG.then_ ?_ | refine PG.inBlock ?_)) ?_ (fun hPF hHeld => ?_)
  ·exact ⟨q0, q1, q2, q3, q4⟩
  refine htake (i := 0) (v := .pointer (some ⟨w.heap.size + 1, 2, none⟩)) rfl (by kernel_rfl) (by kernel_rfl) (by kernel_rfl) hPF (Or.inl ⟨by kernel_rfl, ?_⟩) hHeld ?_
  ·intro u hS; obtain ⟨p0, p1, p2, p3, p4⟩ := hS; go_simp
  refine htake (i := 1) (v := .int .i64 c) rfl (by kernel_rfl) (by kernel_rfl) (by kernel_rfl) hPF (Or.inl ⟨by kernel_rfl, ?_⟩) hHeld ?_
  ·intro u hS; obtain ⟨p0, p1, p2, p3, p4⟩ := hS; go_simp
  refine htake (i := 2) (v := .bool true) rfl (by kernel_rfl) (by kernel_rfl) (by kernel_rfl) hPF (Or.inl ⟨by kernel_rfl, ?_⟩) hHeld ?_
  ·intro u hS; obtain ⟨p0, p1, p2, p3, p4⟩ := hS; go_simp
  refine htake (i := 3) (v := .bool true) rfl (by kernel_rfl) (by kernel_rfl) (by kernel_rfl) hPF (Or.inl ⟨by kernel_rfl, ?_⟩) hHeld ?_
  ·intro u hS; obtain ⟨p0, p1, p2, p3, p4⟩ := hS; go_simp
  refine htake (i := 4) (v := .pointer (some ⟨w.heap.size + 1, 2, none⟩)) rfl (by kernel_rfl) (by kernel_rfl) (by kernel_rfl) hPF (Or.inl ⟨by kernel_rfl, ?_⟩) hHeld ?_
  ·intro u hS; obtain ⟨p0, p1, p2, p3, p4⟩ := hS; go_simp
  refine htake (i := 5) (v := .int .i64 c) rfl (by kernel_rfl) (by kernel_rfl) (by kernel_rfl) hPF (Or.inl ⟨by kernel_rfl, ?_⟩) hHeld ?_
  ·intro u hS; obtain ⟨p0, p1, p2, p3, p4⟩ := hS; go_simp
  refine htake (i := 6) (v := .pointer (some ⟨w.heap.size, 0, none⟩)) rfl (by kernel_rfl) (by kernel_rfl) (by kernel_rfl) hPF (Or.inl ⟨by kernel_rfl, ?_⟩) hHeld ?_
  ·intro u hS; obtain ⟨p0, p1, p2, p3, p4⟩ := hS; go_simp
  refine htake (i := 7) (v := .slice A ms.length ac) rfl (by kernel_rfl) (by kernel_rfl) (by kernel_rfl) hPF (Or.inl ⟨by kernel_rfl, ?_⟩) hHeld ?_
  ·intro u hS; obtain ⟨p0, p1, p2, p3, p4⟩ := hS; go_simp
  refine htake (i := 8) (v := .pointer (some ⟨w.heap.size + 1, 0, none⟩)) rfl (by kernel_rfl) (by kernel_rfl) (by kernel_rfl) hPF (Or.inl ⟨by kernel_rfl, ?_⟩) hHeld ?_
  ·intro u hS; obtain ⟨p0, p1, p2, p3, p4⟩ := hS; go_simp
  refine htake (i := 9) (v := .int .i64 n) rfl (by kernel_rfl) (by kernel_rfl) (by kernel_rfl) hPF (Or.inl ⟨by kernel_rfl, ?_⟩) hHeld ?_
  ·intro u hS; obtain ⟨p0, p1, p2, p3, p4⟩ := hS; go_simp
  refine htake (i := 10) (v := .pointer (some ⟨w.heap.size + 1, 1, none⟩)) rfl (by kernel_rfl) (by kernel_rfl) (by kernel_rfl) hPF (Or.inl ⟨by kernel_rfl, ?_⟩) hHeld ?_
  ·intro u hS; obtain ⟨p0, p1, p2, p3, p4⟩ := hS; go_simp
  refine htake (i := 11) (v := .int .i64 l) rfl (by kernel_rfl) (by kernel_rfl) (by kernel_rfl) hPF (Or.inl ⟨by kernel_rfl, ?_⟩) hHeld ?_
  ·intro u hS; obtain ⟨p0, p1, p2, p3, p4⟩ := hS; go_simp
  refine wpAnyH_ready (rs := [12]) (by kernel_rfl) (by simp) ?_
  refine AllReadyH.cons (i := 12) rfl (fun K hK => ?_) AllReadyH.nil
  go_simp
  go_at_call 91
  refine (hmk _ (show Dots w0.drew _ _ from HM.out)).mono ?_
  rintro e w2 ⟨rfl, hb⟩
  have HB2 := Lib.hid ((Below.refl w0.heap.size w0).drew.trans hb)
  clear hb
  have j0 := old_cell HB2.out (HS1.out) q0
  have j1 := old_cell HB2.out (HS1.out) q1
  have j2 := old_cell HB2.out (HS.out) q2
  have j3 := old_cell HB2.out (HS.out) q3
  have j4 := old_cell HB2.out (HS.out) q4
  refine hK.out _ _ ?_ (fun hHeld => ?_)
  ·exact ⟨j0, j1, j2, j3, j4⟩
  clear hK K
  refine htake (i := 13) (v := .bool true) rfl (by kernel_rfl) (by kernel_rfl) (by kernel_rfl) hPF (Or.inl ⟨by kernel_rfl, ?_⟩) hHeld ?_
  ·intro u hS; obtain ⟨p0, p1, p2, p3, p4⟩ := hS; go_simp
  refine wpAnyH_ready (rs := [14]) (by kernel_rfl) (by simp) ?_
  refine AllReadyH.cons (i := 14) rfl (fun K hK => ?_) AllReadyH.nil
  go_simp
  refine hK.out _ _ ?_ (fun hHeld => ?_)
  ·exact ⟨j0, j1, j2, j3, j4⟩
  clear hK K
  refine wpAnyH_done (by kernel_rfl) ?_ _
  go_wp2_with fail
  go_ret
  exact ⟨by rw [HV.out]; rfl, HB.out.trans (HB2.out.mono HB.out.size)⟩
end Go.Proofs.YtpdedfpacklnoaaGreatDoor
