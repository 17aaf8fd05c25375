/- Contract of the document's causal Can: canX. -/
import Derived.Test.YtpdedfpacklnoaaGreatDoorTzRfD
import Derived.BigQuiet
namespace Go.Proofs.YtpdedfpacklnoaaGreatDoor.R
open Go.RowKit Go.BL Go.Ct Go.Sl

/-- The one ahead of the k-th. -/
def prv (l : List Dt) : Nat → Option Dt
 | 0 => none
 | k + 1 => l[k]?
theorem prv_succ {l : List Dt} {k : Nat} (h : k < l.length) : prv l (k + 1) = some l[k] := List.getElem?_eq_getElem h
theorem ms_bad {p : Option Dt} {m : Dt} {r : List Dt} (h : mayD m = false) : canMs p (m :: r) = false := by
 cases p <;> simp [canMs, h]
theorem cl_step (ms : List Dt) (p : Option Dt) (d : Dt) (r : List Dt) : canCl ms p (d :: r) = (mayD d && decide (markOf ms d.n d.l + 1 < d.c) && (match p with | none => true | some x => belowD x d) && canCl ms (some d) r) := by
 cases p <;> simp [canCl]
theorem mark_range {ms : List Dt} (h : ∀ m ∈ ms, mayD m = true) (n l : Int) : 0 ≤ markOf ms n l ∧ markOf ms n l ≤ 1099511627776 := by
 rcases mark_may ms h n l with h0 | ⟨m, hm, _, _, hc⟩
 ·omega
 ·have := may_iff.1 (h m hm)
  omega
theorem ms_zero {d : Dt} {r : List Dt} {b : Bool} (h : mayD d = true) (e : canMs none (d :: r) = b) : canMs (some d) r = b := by rw [← e]; simp [canMs, h]
theorem ms_some {x d : Dt} {r : List Dt} {b : Bool} (h : mayD d = true) (h2 : belowA x d = true) (e : canMs (some x) (d :: r) = b) : canMs (some d) r = b := by rw [← e]; simp [canMs, h, h2]
theorem ms_no {x d : Dt} {r : List Dt} (h2 : belowA x d = false) : canMs (some x) (d :: r) = false := by simp [canMs, h2]
set_option maxHeartbeats 8000000 in
set_option maxRecDepth 100000 in
theorem canXR_any (x : Cx) (mv cv : Value) (w : World) (hm : Dots w mv x.ms) (hc : Dots w cv x.cl) : Calls Tryz.prog 39 #[.agg #[mv, cv]] w (RetV (.bool (canX x)) w) := by
 obtain ⟨A, ac, rfl⟩ := hm.form
 obtain ⟨D, dc, rfl⟩ := hc.form
 obtain ⟨ms, cl⟩ := x
 dsimp only at hm hc ⊢
 have hx1 := hm.1
 have hx2 := hc.1
 obtain ⟨w0, hw0⟩ : ∃ w0, w.alloc (.cells #[.slice A ms.length ac, .slice D cl.length dc] 30) = w0 := ⟨_, rfl⟩
 have HB : Hid (Below w.heap.size w w0) := Lib.hid (by rw [← hw0]; exact (Below.refl _ _).alloc (Nat.le_refl _) _)
 have HS : Hid (w.heap.size < w0.heap.size) := Lib.hid (by rw [← hw0]; simp)
 have HP : Hid (w0.cell? ⟨w.heap.size, 0, none⟩ = some (.slice A ms.length ac) ∧ w0.cell? ⟨w.heap.size, 1, none⟩ = some (.slice D cl.length dc)) := Lib.hid (by rw [← hw0]; exact pair_at w _ _ 30 _ rfl)
 have HM := Lib.hid (hm.below HB.out (Nat.le_refl _))
 have HC := Lib.hid (hc.below HB.out (Nat.le_refl _))
 obtain ⟨q0, q1⟩ := HP.out
 clear hm hc
 by_cases l1 : ms.length ≤ 64
 case neg =>
  have HF : Hid (canX ⟨ms, cl⟩ = false) := Lib.hid (by unfold canX; dsimp only; rw [decide_eq_false l1]; rfl)
  have g1 : (64 : Int) < (ms.length : Int) := by omega
  go_enter Tryz.func39, Tryz.ntmps39
  go_wp2_with fail
  go_ret
  exact ⟨by rw [HF.out]; rfl, HB.out⟩
 by_cases l2 : cl.length ≤ 64
 case neg =>
  have HF : Hid (canX ⟨ms, cl⟩ = false) := Lib.hid (by unfold canX; dsimp only; rw [decide_eq_false l2]; simp)
  have g1 : ¬ (64 : Int) < (ms.length : Int) := by omega
  have g2 : (64 : Int) < (cl.length : Int) := by omega
  go_enter Tryz.func39, Tryz.ntmps39
  go_wp2_with fail
  go_ret
  exact ⟨by rw [HF.out]; rfl, HB.out⟩
 have HF : Hid (canX ⟨ms, cl⟩ = (canMs none ms && canCl ms none cl)) := Lib.hid (by unfold canX; dsimp only; rw [decide_eq_true l1, decide_eq_true l2]; simp)
 have g1 : ¬ (64 : Int) < (ms.length : Int) := by omega
 have g2 : ¬ (64 : Int) < (cl.length : Int) := by omega
 clear l1 l2
 go_enter Tryz.func39, Tryz.ntmps39
 go_wp2_with fail
 clear hw0 g1 g2
 go_loopw [20] (fun j wr => ∃ k : Nat, k ≤ ms.length ∧ j = .int .i64 (k : Int) ∧ Hid (Below w0.heap.size w0 wr) ∧ Hid (canMs (prv ms k) (ms.drop k) = canMs none ms) ∧ Hid (∀ i (h : i < ms.length), i < k → mayD ms[i] = true)) (fun j _ => ms.length - (intOf j).toNat)
 case atStart => exact ⟨0, by omega, rfl, Lib.hid (Below.refl _ _), Lib.hid rfl, Lib.hid (fun _ _ h => absurd h (by omega))⟩
 case round =>
  obtain ⟨k, hk, rfl, HBr, HE, HY⟩ := hrel
  by_cases hlt : k < ms.length
  ·obtain ⟨b, off, rfl, hbl, hcs⟩ := dot_cells HM.out (by omega)
   obtain ⟨c1, c2, c3⟩ := hcs k hlt
   have HCS := Lib.hid hcs
   obtain ⟨⟨dn, dl, dcn⟩, hx⟩ : ∃ x, ms[k]'hlt = x := ⟨_, rfl⟩
   rw [hx] at c1 c2 c3
   have d1 := old_cell HBr.out hbl c1
   have d2 := old_cell HBr.out hbl c2
   have d3 := old_cell HBr.out hbl c3
   have HX := Lib.hid hx
   have HBL := Lib.hid hbl
   have he : canMs (prv ms k) (⟨dn, dl, dcn⟩ :: ms.drop (k + 1)) = canMs none ms := by rw [← hx, ← List.drop_eq_getElem_cons hlt]; exact HE.out
   have HE2 := Lib.hid he
   clear hcs c1 c2 c3 hx hbl he
   have hma := fun w => mayMark_any ⟨dn, dl, dcn⟩ w
   dsimp only [dotV] at hma
   obtain ⟨w1, hw1⟩ : ∃ w1, wr.alloc (.cells #[.int .i64 dn, .int .i64 dl, .int .i64 dcn] 150) = w1 := ⟨_, rfl⟩
   have hb1 : Below wr.heap.size wr w1 := by rw [← hw1]; exact (Below.refl _ _).alloc (Nat.le_refl _) _
   have HB1 := Lib.hid (HBr.out.trans (hb1.mono HBr.out.size))
   have HS1 : Hid (wr.heap.size < w1.heap.size) := Lib.hid (by rw [← hw1]; simp)
   have HT : Hid (w1.cell? ⟨wr.heap.size, 0, none⟩ = some (.int .i64 dn) ∧ w1.cell? ⟨wr.heap.size, 1, none⟩ = some (.int .i64 dl) ∧ w1.cell? ⟨wr.heap.size, 2, none⟩ = some (.int .i64 dcn)) := Lib.hid (by rw [← hw1]; exact tri_at wr _ _ _ 150 _ rfl)
   clear hb1
   obtain ⟨my, hmy⟩ : ∃ x, mayD ⟨dn, dl, dcn⟩ = x := ⟨_, rfl⟩
   rw [hmy] at hma
   have HMY := Lib.hid hmy
   clear hmy
   have HRS : Hid (w.heap.size < wr.heap.size) := Lib.hid (Nat.lt_of_lt_of_le HS.out HBr.out.size)
   go_upto_region 6 with fail
   clear hw1 d1 d2 d3
   obtain ⟨t0, t1, t2⟩ := HT.out
   cases my
   case false =>
    have HV : Hid (canX ⟨ms, cl⟩ = false) := Lib.hid (by rw [HF.out, ← HE2.out, ms_bad HMY.out]; rfl)
    go_wp2_with (go_at_call 89; refine (hma _).mono ?_; rintro e w2 ⟨rfl, hb⟩; have HB2 := Lib.hid (HB1.out.trans (hb.mono HB1.out.size)); clear hb)
    go_ret
    exact ⟨by rw [HV.out]; rfl, HB.out.trans (HB2.out.mono HB.out.size)⟩
   case true =>
   have HY2 : Hid (∀ i (h : i < ms.length), i < k + 1 → mayD ms[i] = true) := Lib.hid (fun i h hi => by
    rcases Nat.lt_or_ge i k with h' | h'
    ·exact HY.out i h h'
    ·obtain rfl : i = k := by omega
     rw [HX.out]; exact HMY.out)
   rcases Nat.eq_zero_or_pos k with h0 | h0
   ·subst h0
    have HE3 : Hid (canMs (prv ms (0 + 1)) (ms.drop (0 + 1)) = canMs none ms) := Lib.hid (by rw [prv_succ hlt, HX.out]; exact ms_zero HMY.out HE2.out)
    go_wp2_with (go_at_call 89; refine (hma _).mono ?_; rintro e w2 ⟨rfl, hb⟩; have HB2 := Lib.hid (HB1.out.trans (hb.mono HB1.out.size)); have HW2 := Lib.hid hb; clear hb)
    go_quiet (fail)
    go_wp2_with fail
    exact ⟨⟨0 + 1, by omega, by go_num, Lib.hid (H.below_drewN HB2.out _), HE3, HY2⟩, by simp [intOf]; omega⟩
   ·obtain ⟨k', rfl⟩ : ∃ k', k = k' + 1 := ⟨k - 1, by omega⟩
    have hlt' : k' < ms.length := by omega
    obtain ⟨e1, e2, e3⟩ := HCS.out k' hlt'
    obtain ⟨⟨xn, xl, xc⟩, hy⟩ : ∃ x, ms[k']'hlt' = x := ⟨_, rfl⟩
    rw [hy] at e1 e2 e3
    have hpv : prv ms (k' + 1) = some ⟨xn, xl, xc⟩ := by rw [prv_succ hlt', hy]
    have HE4 := HE2.out
    rw [hpv] at HE4
    have HE5 := Lib.hid HE4
    have hw : IntKind.i64.wrap (k' : Int) = (k' : Int) := by rw [IntKind.wrap_i64]; omega
    clear hy hpv HE4
    go_upto_region 8 with (go_at_call 89; refine (hma _).mono ?_; rintro e w2 ⟨rfl, hb⟩; have HB2 := Lib.hid (HB1.out.trans (hb.mono HB1.out.size)); have HW2 := Lib.hid hb; clear hb)
    have z0 := old_cell HB2.out HS.out q0
    have z1 := old_cell HB2.out HBL.out e1
    have z2 := old_cell HB2.out HBL.out e2
    have z3 := old_cell HW2.out HS1.out t0
    have z4 := old_cell HW2.out HS1.out t1
    clear q0 q1 e1 e2 e3 t0 t1 t2
    have hg0 : decide ((0 : Int) < (k' : Int) + 1) = true := decide_eq_true (by omega)
    by_cases b1 : dn < xn
    case pos =>
     have HOB : belowA ⟨xn, xl, xc⟩ ⟨dn, dl, dcn⟩ = false := by unfold belowA; dsimp only; rw [if_pos (by omega)]; exact decide_eq_false (by omega)
     have HV : Hid (canX ⟨ms, cl⟩ = false) := Lib.hid (by rw [HF.out, ← HE5.out, ms_no HOB]; rfl)
     clear HOB
     have b1' : decide (dn < xn) = true := decide_eq_true b1
     go_quiet (fail)
     go_wp2_with fail
     go_ret
     exact ⟨by rw [HV.out]; rfl, HB.out.trans ((H.below_drewN HB2.out _).mono HB.out.size)⟩
    have b1' : decide (dn < xn) = false := decide_eq_false b1
    by_cases b2 : xn = dn
    case neg =>
     have HOB : belowA ⟨xn, xl, xc⟩ ⟨dn, dl, dcn⟩ = true := by unfold belowA; dsimp only; rw [if_pos b2]; exact decide_eq_true (by omega)
     have b2' : (xn == dn) = false := beq_false_of_ne b2
     have HE3 : Hid (canMs (prv ms (k' + 1 + 1)) (ms.drop (k' + 1 + 1)) = canMs none ms) := Lib.hid (by rw [prv_succ hlt, HX.out]; exact ms_some HMY.out HOB HE5.out)
     clear HOB b2
     go_quiet (fail)
     go_wp2_with fail
     exact ⟨⟨k' + 1 + 1, by omega, by go_num, Lib.hid (H.below_drewN HB2.out _), HE3, HY2⟩, by simp [intOf]; omega⟩
    subst b2
    by_cases b3 : dl ≤ xl
    case pos =>
     have HOB : belowA ⟨xn, xl, xc⟩ ⟨xn, dl, dcn⟩ = false := by unfold belowA; dsimp only; rw [if_neg (by simp)]; exact decide_eq_false (by omega)
     have HV : Hid (canX ⟨ms, cl⟩ = false) := Lib.hid (by rw [HF.out, ← HE5.out, ms_no HOB]; rfl)
     clear HOB
     have b3' : decide (dl ≤ xl) = true := decide_eq_true b3
     go_quiet (fail)
     go_wp2_with fail
     go_ret
     exact ⟨by rw [HV.out]; rfl, HB.out.trans ((H.below_drewN HB2.out _).mono HB.out.size)⟩
    case neg =>
     have HOB : belowA ⟨xn, xl, xc⟩ ⟨xn, dl, dcn⟩ = true := by unfold belowA; dsimp only; rw [if_neg (by simp)]; exact decide_eq_true (by omega)
     have b3' : decide (dl ≤ xl) = false := decide_eq_false b3
     have HE3 : Hid (canMs (prv ms (k' + 1 + 1)) (ms.drop (k' + 1 + 1)) = canMs none ms) := Lib.hid (by rw [prv_succ hlt, HX.out]; exact ms_some HMY.out HOB HE5.out)
     clear HOB
     go_quiet (fail)
     go_wp2_with fail
     exact ⟨⟨k' + 1 + 1, by omega, by go_num, Lib.hid (H.below_drewN HB2.out _), HE3, HY2⟩, by simp [intOf]; omega⟩
  ·have hmm : canMs none ms = true := by have := HE.out; rw [List.drop_of_length_le (by omega)] at this; rw [← this]; cases prv ms k <;> rfl
   have HMM := Lib.hid hmm
   have HYA : Hid (∀ m ∈ ms, mayD m = true) := Lib.hid (ms_may _ _ hmm)
   clear hmm
   have r1 := old_cell HBr.out HS.out q1
   go_wp2_with fail
   go_loopw [70] (fun j wq => ∃ k : Nat, k ≤ cl.length ∧ j = .int .i64 (k : Int) ∧ Hid (Below w0.heap.size w0 wq) ∧ Hid (canCl ms (prv cl k) (cl.drop k) = canCl ms none cl)) (fun j _ => cl.length - (intOf j).toNat)
   case atStart => exact ⟨0, by omega, rfl, HBr, Lib.hid rfl⟩
   case round =>
    clear r1 HBr HE HY
    obtain ⟨k, hk, rfl, HBr, HE⟩ := hrel
    by_cases hlt : k < cl.length
    ·obtain ⟨b, off, rfl, hbl, hcs⟩ := dot_cells HC.out (by omega)
     obtain ⟨c1, c2, c3⟩ := hcs k hlt
     have HCS := Lib.hid hcs
     obtain ⟨⟨dn, dl, dcn⟩, hx⟩ : ∃ x, cl[k]'hlt = x := ⟨_, rfl⟩
     rw [hx] at c1 c2 c3
     have d1 := old_cell HBr.out hbl c1
     have d2 := old_cell HBr.out hbl c2
     have d3 := old_cell HBr.out hbl c3
     have HX := Lib.hid hx
     have HBL := Lib.hid hbl
     have he : canCl ms (prv cl k) (⟨dn, dl, dcn⟩ :: cl.drop (k + 1)) = canCl ms none cl := by rw [← hx, ← List.drop_eq_getElem_cons hlt]; exact HE.out
     have hma := fun w => mayR_any ⟨dn, dl, dcn⟩ w
     have hmk := fun w hm => markR_any ms (.slice A ms.length ac) dn dl w hm
     dsimp only [dotV] at hma
     obtain ⟨mk, hmk'⟩ : ∃ x, markOf ms dn dl = x := ⟨_, rfl⟩
     rw [cl_step] at he
     dsimp only at he
     rw [hmk'] at hmk he
     have hmr : 0 ≤ mk ∧ mk ≤ 1099511627776 := by rw [← hmk']; exact mark_range HYA.out dn dl
     have hwk : IntKind.i64.wrap (mk + 1) = mk + 1 := by rw [IntKind.wrap_i64]; omega
     obtain ⟨my, hmy⟩ : ∃ x, mayD ⟨dn, dl, dcn⟩ = x := ⟨_, rfl⟩
     rw [hmy] at hma he
     have HE2 := Lib.hid he
     clear hcs c1 c2 c3 hx hbl he hmk' hmy
     obtain ⟨w1, hw1⟩ : ∃ w1, wr.alloc (.cells #[.int .i64 dn, .int .i64 dl, .int .i64 dcn] 90) = w1 := ⟨_, rfl⟩
     have hb1 : Below wr.heap.size wr w1 := by rw [← hw1]; exact (Below.refl _ _).alloc (Nat.le_refl _) _
     have HB1 := Lib.hid (HBr.out.trans (hb1.mono HBr.out.size))
     have HS1 : Hid (wr.heap.size < w1.heap.size) := Lib.hid (by rw [← hw1]; simp)
     have HT : Hid (w1.cell? ⟨wr.heap.size, 0, none⟩ = some (.int .i64 dn) ∧ w1.cell? ⟨wr.heap.size, 1, none⟩ = some (.int .i64 dl) ∧ w1.cell? ⟨wr.heap.size, 2, none⟩ = some (.int .i64 dcn)) := Lib.hid (by rw [← hw1]; exact tri_at wr _ _ _ 90 _ rfl)
     obtain ⟨t0, t1, t2⟩ := HT.out
     clear hb1
     have s0 := old_cell HB1.out HS.out q0
     have s1 := t0
     have s2 := t1
     have s3 := t2
     go_upto_region 14 with fail
     clear hw1 d1 d2 d3
     cases my
     case false =>
      have HV : Hid (canX ⟨ms, cl⟩ = false) := Lib.hid (by rw [HF.out, HMM.out, ← HE2.out]; simp)
      refine hstart (S := fun u => u.cell? ⟨w.heap.size, 0, none⟩ = some (.slice A ms.length ac) ∧ u.cell? ⟨wr.heap.size, 0, none⟩ = some (.int .i64 dn) ∧ u.cell? ⟨wr.heap.size, 1, none⟩ = some (.int .i64 dl) ∧ u.cell? ⟨wr.heap.size, 2, none⟩ = some (.int .i64 dcn)) (by kernel_rfl) (by repeat (first | exact PG.body | refine PG.then_ ?_ | refine PG.inBlock ?_)) ?_ (fun hPF hHeld => ?_)
      ·exact ⟨s0, s1, s2, s3⟩
      refine htake (i := 0) (v := .agg #[.int .i64 dn, .int .i64 dl, .int .i64 dcn]) rfl (by kernel_rfl) (by kernel_rfl) (by kernel_rfl) hPF (Or.inl ⟨by kernel_rfl, ?_⟩) hHeld ?_
      ·intro u hS; obtain ⟨p0, p1, p2, p3⟩ := hS; go_simp
      refine wpAnyH_ready (rs := [1]) (by kernel_rfl) (by simp) ?_
      refine AllReadyH.cons (i := 1) rfl (fun K hK => ?_) AllReadyH.nil
      go_simp
      go_at_call 90
      refine (hma _).mono ?_
      rintro e w2 ⟨rfl, hb⟩
      have HW2 := Lib.hid ((Below.refl w1.heap.size w1).drew.trans hb)
      have HB2 := Lib.hid (HB1.out.trans (HW2.out.mono HB1.out.size))
      clear hb
      have i0 := old_cell HB2.out HS.out q0
      have i1 := old_cell HW2.out HS1.out t0
      have i2 := old_cell HW2.out HS1.out t1
      have i3 := old_cell HW2.out HS1.out t2
      refine hK.out _ _ ?_ (fun hHeld => ?_)
      ·exact ⟨i0, i1, i2, i3⟩
      clear hK K
      refine htake (i := 2) (v := .bool true) rfl (by kernel_rfl) (by kernel_rfl) (by kernel_rfl) hPF (Or.inl ⟨by kernel_rfl, ?_⟩) hHeld ?_
      ·intro u hS; obtain ⟨p0, p1, p2, p3⟩ := hS; go_simp
      refine htake (i := 3) (v := .bool true) rfl (by kernel_rfl) (by kernel_rfl) (by kernel_rfl) hPF (Or.inl ⟨by kernel_rfl, ?_⟩) hHeld ?_
      ·intro u hS; obtain ⟨p0, p1, p2, p3⟩ := hS; go_simp
      refine htake (i := 4) (v := undef) rfl (by kernel_rfl) (by kernel_rfl) (by kernel_rfl) hPF (Or.inr ⟨by kernel_rfl, rfl⟩) hHeld ?_
      refine htake (i := 5) (v := undef) rfl (by kernel_rfl) (by kernel_rfl) (by kernel_rfl) hPF (Or.inr ⟨by kernel_rfl, rfl⟩) hHeld ?_
      refine htake (i := 6) (v := undef) rfl (by kernel_rfl) (by kernel_rfl) (by kernel_rfl) hPF (Or.inr ⟨by kernel_rfl, rfl⟩) hHeld ?_
      refine htake (i := 7) (v := undef) rfl (by kernel_rfl) (by kernel_rfl) (by kernel_rfl) hPF (Or.inr ⟨by kernel_rfl, rfl⟩) hHeld ?_
      refine htake (i := 8) (v := undef) rfl (by kernel_rfl) (by kernel_rfl) (by kernel_rfl) hPF (Or.inr ⟨by kernel_rfl, rfl⟩) hHeld ?_
      refine htake (i := 9) (v := undef) rfl (by kernel_rfl) (by kernel_rfl) (by kernel_rfl) hPF (Or.inr ⟨by kernel_rfl, rfl⟩) hHeld ?_
      refine htake (i := 10) (v := undef) rfl (by kernel_rfl) (by kernel_rfl) (by kernel_rfl) hPF (Or.inr ⟨by kernel_rfl, rfl⟩) hHeld ?_
      refine htake (i := 11) (v := undef) rfl (by kernel_rfl) (by kernel_rfl) (by kernel_rfl) hPF (Or.inr ⟨by kernel_rfl, rfl⟩) hHeld ?_
      refine htake (i := 12) (v := undef) rfl (by kernel_rfl) (by kernel_rfl) (by kernel_rfl) hPF (Or.inr ⟨by kernel_rfl, rfl⟩) hHeld ?_
      refine htake (i := 13) (v := undef) rfl (by kernel_rfl) (by kernel_rfl) (by kernel_rfl) hPF (Or.inr ⟨by kernel_rfl, rfl⟩) hHeld ?_
      refine htake (i := 14) (v := undef) rfl (by kernel_rfl) (by kernel_rfl) (by kernel_rfl) hPF (Or.inr ⟨by kernel_rfl, rfl⟩) hHeld ?_
      refine wpAnyH_ready (rs := [15]) (by kernel_rfl) (by simp) ?_
      refine AllReadyH.cons (i := 15) rfl (fun K hK => ?_) AllReadyH.nil
      go_simp
      refine hK.out _ _ ?_ (fun hHeld => ?_)
      ·exact ⟨i0, i1, i2, i3⟩
      clear hK K
      refine wpAnyH_done (by kernel_rfl) ?_ _
      go_wp2_with fail
      go_ret
      exact ⟨by rw [HV.out]; rfl, HB.out.trans (HB2.out.mono HB.out.size)⟩
     case true =>
     by_cases g3 : dcn ≤ mk + 1
     case pos =>
      have HV : Hid (canX ⟨ms, cl⟩ = false) := Lib.hid (by rw [HF.out, HMM.out, ← HE2.out, decide_eq_false (show ¬ mk + 1 < dcn by omega)]; simp)
      refine hstart (S := fun u => u.cell? ⟨w.heap.size, 0, none⟩ = some (.slice A ms.length ac) ∧ u.cell? ⟨wr.heap.size, 0, none⟩ = some (.int .i64 dn) ∧ u.cell? ⟨wr.heap.size, 1, none⟩ = some (.int .i64 dl) ∧ u.cell? ⟨wr.heap.size, 2, none⟩ = some (.int .i64 dcn)) (by kernel_rfl) (by repeat (first | exact PG.body | refine PG.then_ ?_ | refine PG.inBlock ?_)) ?_ (fun hPF hHeld => ?_)
      ·exact ⟨s0, s1, s2, s3⟩
      refine htake (i := 0) (v := .agg #[.int .i64 dn, .int .i64 dl, .int .i64 dcn]) rfl (by kernel_rfl) (by kernel_rfl) (by kernel_rfl) hPF (Or.inl ⟨by kernel_rfl, ?_⟩) hHeld ?_
      ·intro u hS; obtain ⟨p0, p1, p2, p3⟩ := hS; go_simp
      refine wpAnyH_ready (rs := [1]) (by kernel_rfl) (by simp) ?_
      refine AllReadyH.cons (i := 1) rfl (fun K hK => ?_) AllReadyH.nil
      go_simp
      go_at_call 90
      refine (hma _).mono ?_
      rintro e w2 ⟨rfl, hb⟩
      have HW2 := Lib.hid ((Below.refl w1.heap.size w1).drew.trans hb)
      have HB2 := Lib.hid (HB1.out.trans (HW2.out.mono HB1.out.size))
      clear hb
      have i0 := old_cell HB2.out HS.out q0
      have i1 := old_cell HW2.out HS1.out t0
      have i2 := old_cell HW2.out HS1.out t1
      have i3 := old_cell HW2.out HS1.out t2
      refine hK.out _ _ ?_ (fun hHeld => ?_)
      ·exact ⟨i0, i1, i2, i3⟩
      clear hK K
      refine htake (i := 2) (v := .bool false) rfl (by kernel_rfl) (by kernel_rfl) (by kernel_rfl) hPF (Or.inl ⟨by kernel_rfl, ?_⟩) hHeld ?_
      ·intro u hS; obtain ⟨p0, p1, p2, p3⟩ := hS; go_simp
      refine htake (i := 3) (v := .bool false) rfl (by kernel_rfl) (by kernel_rfl) (by kernel_rfl) hPF (Or.inl ⟨by kernel_rfl, ?_⟩) hHeld ?_
      ·intro u hS; obtain ⟨p0, p1, p2, p3⟩ := hS; go_simp
      refine htake (i := 4) (v := .pointer (some ⟨wr.heap.size, 2, none⟩)) rfl (by kernel_rfl) (by kernel_rfl) (by kernel_rfl) hPF (Or.inl ⟨by kernel_rfl, ?_⟩) hHeld ?_
      ·intro u hS; obtain ⟨p0, p1, p2, p3⟩ := hS; go_simp
      refine htake (i := 5) (v := .int .i64 dcn) rfl (by kernel_rfl) (by kernel_rfl) (by kernel_rfl) hPF (Or.inl ⟨by kernel_rfl, ?_⟩) hHeld ?_
      ·intro u hS; obtain ⟨p0, p1, p2, p3⟩ := hS; go_simp
      refine htake (i := 6) (v := .pointer (some ⟨w.heap.size, 0, none⟩)) rfl (by kernel_rfl) (by kernel_rfl) (by kernel_rfl) hPF (Or.inl ⟨by kernel_rfl, ?_⟩) hHeld ?_
      ·intro u hS; obtain ⟨p0, p1, p2, p3⟩ := hS; go_simp
      refine htake (i := 7) (v := .slice A ms.length ac) rfl (by kernel_rfl) (by kernel_rfl) (by kernel_rfl) hPF (Or.inl ⟨by kernel_rfl, ?_⟩) hHeld ?_
      ·intro u hS; obtain ⟨p0, p1, p2, p3⟩ := hS; go_simp
      refine htake (i := 8) (v := .pointer (some ⟨wr.heap.size, 0, none⟩)) rfl (by kernel_rfl) (by kernel_rfl) (by kernel_rfl) hPF (Or.inl ⟨by kernel_rfl, ?_⟩) hHeld ?_
      ·intro u hS; obtain ⟨p0, p1, p2, p3⟩ := hS; go_simp
      refine htake (i := 9) (v := .int .i64 dn) rfl (by kernel_rfl) (by kernel_rfl) (by kernel_rfl) hPF (Or.inl ⟨by kernel_rfl, ?_⟩) hHeld ?_
      ·intro u hS; obtain ⟨p0, p1, p2, p3⟩ := hS; go_simp
      refine htake (i := 10) (v := .pointer (some ⟨wr.heap.size, 1, none⟩)) rfl (by kernel_rfl) (by kernel_rfl) (by kernel_rfl) hPF (Or.inl ⟨by kernel_rfl, ?_⟩) hHeld ?_
      ·intro u hS; obtain ⟨p0, p1, p2, p3⟩ := hS; go_simp
      refine htake (i := 11) (v := .int .i64 dl) rfl (by kernel_rfl) (by kernel_rfl) (by kernel_rfl) hPF (Or.inl ⟨by kernel_rfl, ?_⟩) hHeld ?_
      ·intro u hS; obtain ⟨p0, p1, p2, p3⟩ := hS; go_simp
      refine wpAnyH_ready (rs := [12]) (by kernel_rfl) (by simp) ?_
      refine AllReadyH.cons (i := 12) rfl (fun K hK => ?_) AllReadyH.nil
      go_simp
      go_at_call 91
      refine (hmk _ (HM.out.below HB2.out (Nat.le_refl _))).mono ?_
      rintro e w3 ⟨rfl, hb⟩
      have HW3 := Lib.hid (HW2.out.trans (hb.mono HW2.out.size))
      have HB3 := Lib.hid (HB1.out.trans (HW3.out.mono HB1.out.size))
      clear hb
      have j0 := old_cell HB3.out HS.out q0
      have j1 := old_cell HW3.out HS1.out t0
      have j2 := old_cell HW3.out HS1.out t1
      have j3 := old_cell HW3.out HS1.out t2
      refine hK.out _ _ ?_ (fun hHeld => ?_)
      ·exact ⟨j0, j1, j2, j3⟩
      clear hK K
      refine htake (i := 13) (v := .int .i64 (mk + 1)) rfl (by kernel_rfl) (by kernel_rfl) (by kernel_rfl) hPF (Or.inl ⟨by kernel_rfl, ?_⟩) hHeld ?_
      ·intro u hS; obtain ⟨p0, p1, p2, p3⟩ := hS; go_simp
      refine htake (i := 14) (v := .bool true) rfl (by kernel_rfl) (by kernel_rfl) (by kernel_rfl) hPF (Or.inl ⟨by kernel_rfl, ?_⟩) hHeld ?_
      ·intro u hS; obtain ⟨p0, p1, p2, p3⟩ := hS; go_simp
      refine wpAnyH_ready (rs := [15]) (by kernel_rfl) (by simp) ?_
      refine AllReadyH.cons (i := 15) rfl (fun K hK => ?_) AllReadyH.nil
      go_simp
      refine hK.out _ _ ?_ (fun hHeld => ?_)
      ·exact ⟨j0, j1, j2, j3⟩
      clear hK K
      refine wpAnyH_done (by kernel_rfl) ?_ _
      go_wp2_with fail
      go_ret
      exact ⟨by rw [HV.out]; rfl, HB.out.trans (HB3.out.mono HB.out.size)⟩
     case neg =>
     have g3' : mk + 1 < dcn := by omega
     have HE3 : Hid (((match prv cl k with | none => true | some x => belowD x ⟨dn, dl, dcn⟩) && canCl ms (some ⟨dn, dl, dcn⟩) (cl.drop (k + 1))) = canCl ms none cl) := Lib.hid (by have := HE2.out; rw [decide_eq_true g3'] at this; simpa using this)
     refine hstart (S := fun u => u.cell? ⟨w.heap.size, 0, none⟩ = some (.slice A ms.length ac) ∧ u.cell? ⟨wr.heap.size, 0, none⟩ = some (.int .i64 dn) ∧ u.cell? ⟨wr.heap.size, 1, none⟩ = some (.int .i64 dl) ∧ u.cell? ⟨wr.heap.size, 2, none⟩ = some (.int .i64 dcn)) (by kernel_rfl) (by repeat (first | exact PG.body | refine PG.then_ ?_ | refine PG.inBlock ?_)) ?_ (fun hPF hHeld => ?_)
     ·exact ⟨s0, s1, s2, s3⟩
     refine htake (i := 0) (v := .agg #[.int .i64 dn, .int .i64 dl, .int .i64 dcn]) rfl (by kernel_rfl) (by kernel_rfl) (by kernel_rfl) hPF (Or.inl ⟨by kernel_rfl, ?_⟩) hHeld ?_
     ·intro u hS; obtain ⟨p0, p1, p2, p3⟩ := hS; go_simp
     refine wpAnyH_ready (rs := [1]) (by kernel_rfl) (by simp) ?_
     refine AllReadyH.cons (i := 1) rfl (fun K hK => ?_) AllReadyH.nil
     go_simp
     go_at_call 90
     refine (hma _).mono ?_
     rintro e w2 ⟨rfl, hb⟩
     have HW2 := Lib.hid ((Below.refl w1.heap.size w1).drew.trans hb)
     have HB2 := Lib.hid (HB1.out.trans (HW2.out.mono HB1.out.size))
     clear hb
     have i0 := old_cell HB2.out HS.out q0
     have i1 := old_cell HW2.out HS1.out t0
     have i2 := old_cell HW2.out HS1.out t1
     have i3 := old_cell HW2.out HS1.out t2
     refine hK.out _ _ ?_ (fun hHeld => ?_)
     ·exact ⟨i0, i1, i2, i3⟩
     clear hK K
     refine htake (i := 2) (v := .bool false) rfl (by kernel_rfl) (by kernel_rfl) (by kernel_rfl) hPF (Or.inl ⟨by kernel_rfl, ?_⟩) hHeld ?_
     ·intro u hS; obtain ⟨p0, p1, p2, p3⟩ := hS; go_simp
     refine htake (i := 3) (v := .bool false) rfl (by kernel_rfl) (by kernel_rfl) (by kernel_rfl) hPF (Or.inl ⟨by kernel_rfl, ?_⟩) hHeld ?_
     ·intro u hS; obtain ⟨p0, p1, p2, p3⟩ := hS; go_simp
     refine htake (i := 4) (v := .pointer (some ⟨wr.heap.size, 2, none⟩)) rfl (by kernel_rfl) (by kernel_rfl) (by kernel_rfl) hPF (Or.inl ⟨by kernel_rfl, ?_⟩) hHeld ?_
     ·intro u hS; obtain ⟨p0, p1, p2, p3⟩ := hS; go_simp
     refine htake (i := 5) (v := .int .i64 dcn) rfl (by kernel_rfl) (by kernel_rfl) (by kernel_rfl) hPF (Or.inl ⟨by kernel_rfl, ?_⟩) hHeld ?_
     ·intro u hS; obtain ⟨p0, p1, p2, p3⟩ := hS; go_simp
     refine htake (i := 6) (v := .pointer (some ⟨w.heap.size, 0, none⟩)) rfl (by kernel_rfl) (by kernel_rfl) (by kernel_rfl) hPF (Or.inl ⟨by kernel_rfl, ?_⟩) hHeld ?_
     ·intro u hS; obtain ⟨p0, p1, p2, p3⟩ := hS; go_simp
     refine htake (i := 7) (v := .slice A ms.length ac) rfl (by kernel_rfl) (by kernel_rfl) (by kernel_rfl) hPF (Or.inl ⟨by kernel_rfl, ?_⟩) hHeld ?_
     ·intro u hS; obtain ⟨p0, p1, p2, p3⟩ := hS; go_simp
     refine htake (i := 8) (v := .pointer (some ⟨wr.heap.size, 0, none⟩)) rfl (by kernel_rfl) (by kernel_rfl) (by kernel_rfl) hPF (Or.inl ⟨by kernel_rfl, ?_⟩) hHeld ?_
     ·intro u hS; obtain ⟨p0, p1, p2, p3⟩ := hS; go_simp
     refine htake (i := 9) (v := .int .i64 dn) rfl (by kernel_rfl) (by kernel_rfl) (by kernel_rfl) hPF (Or.inl ⟨by kernel_rfl, ?_⟩) hHeld ?_
     ·intro u hS; obtain ⟨p0, p1, p2, p3⟩ := hS; go_simp
     refine htake (i := 10) (v := .pointer (some ⟨wr.heap.size, 1, none⟩)) rfl (by kernel_rfl) (by kernel_rfl) (by kernel_rfl) hPF (Or.inl ⟨by kernel_rfl, ?_⟩) hHeld ?_
     ·intro u hS; obtain ⟨p0, p1, p2, p3⟩ := hS; go_simp
     refine htake (i := 11) (v := .int .i64 dl) rfl (by kernel_rfl) (by kernel_rfl) (by kernel_rfl) hPF (Or.inl ⟨by kernel_rfl, ?_⟩) hHeld ?_
     ·intro u hS; obtain ⟨p0, p1, p2, p3⟩ := hS; go_simp
     refine wpAnyH_ready (rs := [12]) (by kernel_rfl) (by simp) ?_
     refine AllReadyH.cons (i := 12) rfl (fun K hK => ?_) AllReadyH.nil
     go_simp
     go_at_call 91
     refine (hmk _ (HM.out.below HB2.out (Nat.le_refl _))).mono ?_
     rintro e w3 ⟨rfl, hb⟩
     have HW3 := Lib.hid (HW2.out.trans (hb.mono HW2.out.size))
     have HB3 := Lib.hid (HB1.out.trans (HW3.out.mono HB1.out.size))
     clear hb
     have j0 := old_cell HB3.out HS.out q0
     have j1 := old_cell HW3.out HS1.out t0
     have j2 := old_cell HW3.out HS1.out t1
     have j3 := old_cell HW3.out HS1.out t2
     refine hK.out _ _ ?_ (fun hHeld => ?_)
     ·exact ⟨j0, j1, j2, j3⟩
     clear hK K
     refine htake (i := 13) (v := .int .i64 (mk + 1)) rfl (by kernel_rfl) (by kernel_rfl) (by kernel_rfl) hPF (Or.inl ⟨by kernel_rfl, ?_⟩) hHeld ?_
     ·intro u hS; obtain ⟨p0, p1, p2, p3⟩ := hS; go_simp
     refine htake (i := 14) (v := .bool false) rfl (by kernel_rfl) (by kernel_rfl) (by kernel_rfl) hPF (Or.inl ⟨by kernel_rfl, ?_⟩) hHeld ?_
     ·intro u hS; obtain ⟨p0, p1, p2, p3⟩ := hS; go_simp
     refine wpAnyH_ready (rs := [15]) (by kernel_rfl) (by simp) ?_
     refine AllReadyH.cons (i := 15) rfl (fun K hK => ?_) AllReadyH.nil
     go_simp
     refine hK.out _ _ ?_ (fun hHeld => ?_)
     ·exact ⟨j0, j1, j2, j3⟩
     clear hK K
     refine wpAnyH_done (by kernel_rfl) ?_ _
     go_upto_region 16 with fail
     rcases Nat.eq_zero_or_pos k with h0 | h0
     ·subst h0
      have HE4 : Hid (canCl ms (prv cl (0 + 1)) (cl.drop (0 + 1)) = canCl ms none cl) := Lib.hid (by rw [prv_succ hlt, HX.out, ← HE3.out]; simp [prv])
      go_quiet (fail)
      go_wp2_with fail
      exact ⟨⟨0 + 1, by omega, by go_num, Lib.hid (H.below_drewN HB3.out _), HE4⟩, by simp [intOf]; omega⟩
     ·obtain ⟨k', rfl⟩ : ∃ k', k = k' + 1 := ⟨k - 1, by omega⟩
      have hlt' : k' < cl.length := by omega
      obtain ⟨e1, e2, e3⟩ := HCS.out k' hlt'
      obtain ⟨⟨xn, xl, xc⟩, hy⟩ : ∃ x, cl[k']'hlt' = x := ⟨_, rfl⟩
      rw [hy] at e1 e2 e3
      have hpv : prv cl (k' + 1) = some ⟨xn, xl, xc⟩ := by rw [prv_succ hlt', hy]
      have hor := fun w => belowR_any ⟨xn, xl, xc⟩ ⟨dn, dl, dcn⟩ w
      dsimp only [dotV] at hor
      obtain ⟨bw, hbw⟩ : ∃ o, belowD ⟨xn, xl, xc⟩ ⟨dn, dl, dcn⟩ = o := ⟨_, rfl⟩
      rw [hbw] at hor
      have he5 := HE3.out
      rw [hpv] at he5
      dsimp only at he5
      rw [hbw] at he5
      have HE5 := Lib.hid he5
      have hw : IntKind.i64.wrap (k' : Int) = (k' : Int) := by rw [IntKind.wrap_i64]; omega
      have m0 := old_cell HB3.out HS.out q1
      have m1 := old_cell HB3.out HBL.out e1
      have m2 := old_cell HB3.out HBL.out e2
      have m3 := old_cell HB3.out HBL.out e3
      clear hy hpv hbw he5
      cases bw
      case false =>
       have HV : Hid (canX ⟨ms, cl⟩ = false) := Lib.hid (by rw [HF.out, HMM.out, ← HE5.out]; simp)
       refine hstart (S := fun u => u.cell? ⟨w.heap.size, 1, none⟩ = some (.slice (some ⟨b, off, none⟩) cl.length dc) ∧ u.cell? ⟨b, off + k' * 3, none⟩ = some (.int .i64 xn) ∧ u.cell? ⟨b, off + k' * 3 + 1, none⟩ = some (.int .i64 xl) ∧ u.cell? ⟨b, off + k' * 3 + 2, none⟩ = some (.int .i64 xc) ∧ u.cell? ⟨wr.heap.size, 0, none⟩ = some (.int .i64 dn) ∧ u.cell? ⟨wr.heap.size, 1, none⟩ = some (.int .i64 dl) ∧ u.cell? ⟨wr.heap.size, 2, none⟩ = some (.int .i64 dcn)) (by kernel_rfl) (by repeat (first | exact PG.body | refine PG.then_ ?_ | refine PG.inBlock ?_)) ?_ (fun hPF hHeld => ?_)
       ·exact ⟨m0, m1, m2, m3, j1, j2, j3⟩
       refine htake (i := 0) (v := .int .i64 ((k' : Int) + 1)) rfl (by kernel_rfl) (by kernel_rfl) (by kernel_rfl) hPF (Or.inl ⟨by kernel_rfl, ?_⟩) hHeld ?_
       ·intro u hS; obtain ⟨p0, p1, p2, p3, p4, p5, p6⟩ := hS; go_simp
       refine htake (i := 1) (v := .bool true) rfl (by kernel_rfl) (by kernel_rfl) (by kernel_rfl) hPF (Or.inl ⟨by kernel_rfl, ?_⟩) hHeld ?_
       ·intro u hS; obtain ⟨p0, p1, p2, p3, p4, p5, p6⟩ := hS; go_simp
       refine htake (i := 2) (v := .bool true) rfl (by kernel_rfl) (by kernel_rfl) (by kernel_rfl) hPF (Or.inl ⟨by kernel_rfl, ?_⟩) hHeld ?_
       ·intro u hS; obtain ⟨p0, p1, p2, p3, p4, p5, p6⟩ := hS; go_simp
       refine htake (i := 3) (v := .pointer (some ⟨w.heap.size, 1, none⟩)) rfl (by kernel_rfl) (by kernel_rfl) (by kernel_rfl) hPF (Or.inl ⟨by kernel_rfl, ?_⟩) hHeld ?_
       ·intro u hS; obtain ⟨p0, p1, p2, p3, p4, p5, p6⟩ := hS; go_simp
       refine htake (i := 4) (v := .slice (some ⟨b, off, none⟩) cl.length dc) rfl (by kernel_rfl) (by kernel_rfl) (by kernel_rfl) hPF (Or.inl ⟨by kernel_rfl, ?_⟩) hHeld ?_
       ·intro u hS; obtain ⟨p0, p1, p2, p3, p4, p5, p6⟩ := hS; go_simp
       refine htake (i := 5) (v := .int .i64 ((k' : Int) + 1)) rfl (by kernel_rfl) (by kernel_rfl) (by kernel_rfl) hPF (Or.inl ⟨by kernel_rfl, ?_⟩) hHeld ?_
       ·intro u hS; obtain ⟨p0, p1, p2, p3, p4, p5, p6⟩ := hS; go_simp
       refine htake (i := 6) (v := .int .i64 (k' : Int)) rfl (by kernel_rfl) (by kernel_rfl) (by kernel_rfl) hPF (Or.inl ⟨by kernel_rfl, ?_⟩) hHeld ?_
       ·intro u hS; obtain ⟨p0, p1, p2, p3, p4, p5, p6⟩ := hS; go_simp
       refine htake (i := 7) (v := .pointer (some ⟨b, off + k' * 3, none⟩)) rfl (by kernel_rfl) (by kernel_rfl) (by kernel_rfl) hPF (Or.inl ⟨by kernel_rfl, ?_⟩) hHeld ?_
       ·intro u hS; obtain ⟨p0, p1, p2, p3, p4, p5, p6⟩ := hS; go_simp
       refine htake (i := 8) (v := .agg #[.int .i64 xn, .int .i64 xl, .int .i64 xc]) rfl (by kernel_rfl) (by kernel_rfl) (by kernel_rfl) hPF (Or.inl ⟨by kernel_rfl, ?_⟩) hHeld ?_
       ·intro u hS; obtain ⟨p0, p1, p2, p3, p4, p5, p6⟩ := hS; go_simp
       refine htake (i := 9) (v := .agg #[.int .i64 dn, .int .i64 dl, .int .i64 dcn]) rfl (by kernel_rfl) (by kernel_rfl) (by kernel_rfl) hPF (Or.inl ⟨by kernel_rfl, ?_⟩) hHeld ?_
       ·intro u hS; obtain ⟨p0, p1, p2, p3, p4, p5, p6⟩ := hS; go_simp
       refine wpAnyH_ready (rs := [10]) (by kernel_rfl) (by simp) ?_
       refine AllReadyH.cons (i := 10) rfl (fun K hK => ?_) AllReadyH.nil
       go_simp
       go_at_call 92
       refine (hor _).mono ?_
       rintro e w4 ⟨rfl, hb⟩
       have HW4 := Lib.hid ((HW3.out.drew).trans (hb.mono HW3.out.size))
       have HB4 := Lib.hid (HB1.out.trans (HW4.out.mono HB1.out.size))
       clear hb
       have l0 := old_cell HB4.out HS.out q1
       have l1 := old_cell HB4.out HBL.out e1
       have l2 := old_cell HB4.out HBL.out e2
       have l3 := old_cell HB4.out HBL.out e3
       have l4 := old_cell HW4.out HS1.out t0
       have l5 := old_cell HW4.out HS1.out t1
       have l6 := old_cell HW4.out HS1.out t2
       refine hK.out _ _ ?_ (fun hHeld => ?_)
       ·exact ⟨l0, l1, l2, l3, l4, l5, l6⟩
       clear hK K
       refine htake (i := 11) (v := .bool true) rfl (by kernel_rfl) (by kernel_rfl) (by kernel_rfl) hPF (Or.inl ⟨by kernel_rfl, ?_⟩) hHeld ?_
       ·intro u hS; obtain ⟨p0, p1, p2, p3, p4, p5, p6⟩ := hS; go_simp
       refine wpAnyH_ready (rs := [12]) (by kernel_rfl) (by simp) ?_
       refine AllReadyH.cons (i := 12) rfl (fun K hK => ?_) AllReadyH.nil
       go_simp
       refine hK.out _ _ ?_ (fun hHeld => ?_)
       ·exact ⟨l0, l1, l2, l3, l4, l5, l6⟩
       clear hK K
       refine wpAnyH_done (by kernel_rfl) ?_ _
       go_wp2_with fail
       go_ret
       exact ⟨by rw [HV.out]; rfl, HB.out.trans (HB4.out.mono HB.out.size)⟩
      case true =>
       have HE4 : Hid (canCl ms (prv cl (k' + 1 + 1)) (cl.drop (k' + 1 + 1)) = canCl ms none cl) := Lib.hid (by rw [prv_succ hlt, HX.out, ← HE5.out]; simp)
       refine hstart (S := fun u => u.cell? ⟨w.heap.size, 1, none⟩ = some (.slice (some ⟨b, off, none⟩) cl.length dc) ∧ u.cell? ⟨b, off + k' * 3, none⟩ = some (.int .i64 xn) ∧ u.cell? ⟨b, off + k' * 3 + 1, none⟩ = some (.int .i64 xl) ∧ u.cell? ⟨b, off + k' * 3 + 2, none⟩ = some (.int .i64 xc) ∧ u.cell? ⟨wr.heap.size, 0, none⟩ = some (.int .i64 dn) ∧ u.cell? ⟨wr.heap.size, 1, none⟩ = some (.int .i64 dl) ∧ u.cell? ⟨wr.heap.size, 2, none⟩ = some (.int .i64 dcn)) (by kernel_rfl) (by repeat (first | exact PG.body | refine PG.then_ ?_ | refine PG.inBlock ?_)) ?_ (fun hPF hHeld => ?_)
       ·exact ⟨m0, m1, m2, m3, j1, j2, j3⟩
       refine htake (i := 0) (v := .int .i64 ((k' : Int) + 1)) rfl (by kernel_rfl) (by kernel_rfl) (by kernel_rfl) hPF (Or.inl ⟨by kernel_rfl, ?_⟩) hHeld ?_
       ·intro u hS; obtain ⟨p0, p1, p2, p3, p4, p5, p6⟩ := hS; go_simp
       refine htake (i := 1) (v := .bool true) rfl (by kernel_rfl) (by kernel_rfl) (by kernel_rfl) hPF (Or.inl ⟨by kernel_rfl, ?_⟩) hHeld ?_
       ·intro u hS; obtain ⟨p0, p1, p2, p3, p4, p5, p6⟩ := hS; go_simp
       refine htake (i := 2) (v := .bool true) rfl (by kernel_rfl) (by kernel_rfl) (by kernel_rfl) hPF (Or.inl ⟨by kernel_rfl, ?_⟩) hHeld ?_
       ·intro u hS; obtain ⟨p0, p1, p2, p3, p4, p5, p6⟩ := hS; go_simp
       refine htake (i := 3) (v := .pointer (some ⟨w.heap.size, 1, none⟩)) rfl (by kernel_rfl) (by kernel_rfl) (by kernel_rfl) hPF (Or.inl ⟨by kernel_rfl, ?_⟩) hHeld ?_
       ·intro u hS; obtain ⟨p0, p1, p2, p3, p4, p5, p6⟩ := hS; go_simp
       refine htake (i := 4) (v := .slice (some ⟨b, off, none⟩) cl.length dc) rfl (by kernel_rfl) (by kernel_rfl) (by kernel_rfl) hPF (Or.inl ⟨by kernel_rfl, ?_⟩) hHeld ?_
       ·intro u hS; obtain ⟨p0, p1, p2, p3, p4, p5, p6⟩ := hS; go_simp
       refine htake (i := 5) (v := .int .i64 ((k' : Int) + 1)) rfl (by kernel_rfl) (by kernel_rfl) (by kernel_rfl) hPF (Or.inl ⟨by kernel_rfl, ?_⟩) hHeld ?_
       ·intro u hS; obtain ⟨p0, p1, p2, p3, p4, p5, p6⟩ := hS; go_simp
       refine htake (i := 6) (v := .int .i64 (k' : Int)) rfl (by kernel_rfl) (by kernel_rfl) (by kernel_rfl) hPF (Or.inl ⟨by kernel_rfl, ?_⟩) hHeld ?_
       ·intro u hS; obtain ⟨p0, p1, p2, p3, p4, p5, p6⟩ := hS; go_simp
       refine htake (i := 7) (v := .pointer (some ⟨b, off + k' * 3, none⟩)) rfl (by kernel_rfl) (by kernel_rfl) (by kernel_rfl) hPF (Or.inl ⟨by kernel_rfl, ?_⟩) hHeld ?_
       ·intro u hS; obtain ⟨p0, p1, p2, p3, p4, p5, p6⟩ := hS; go_simp
       refine htake (i := 8) (v := .agg #[.int .i64 xn, .int .i64 xl, .int .i64 xc]) rfl (by kernel_rfl) (by kernel_rfl) (by kernel_rfl) hPF (Or.inl ⟨by kernel_rfl, ?_⟩) hHeld ?_
       ·intro u hS; obtain ⟨p0, p1, p2, p3, p4, p5, p6⟩ := hS; go_simp
       refine htake (i := 9) (v := .agg #[.int .i64 dn, .int .i64 dl, .int .i64 dcn]) rfl (by kernel_rfl) (by kernel_rfl) (by kernel_rfl) hPF (Or.inl ⟨by kernel_rfl, ?_⟩) hHeld ?_
       ·intro u hS; obtain ⟨p0, p1, p2, p3, p4, p5, p6⟩ := hS; go_simp
       refine wpAnyH_ready (rs := [10]) (by kernel_rfl) (by simp) ?_
       refine AllReadyH.cons (i := 10) rfl (fun K hK => ?_) AllReadyH.nil
       go_simp
       go_at_call 92
       refine (hor _).mono ?_
       rintro e w4 ⟨rfl, hb⟩
       have HW4 := Lib.hid ((HW3.out.drew).trans (hb.mono HW3.out.size))
       have HB4 := Lib.hid (HB1.out.trans (HW4.out.mono HB1.out.size))
       clear hb
       have l0 := old_cell HB4.out HS.out q1
       have l1 := old_cell HB4.out HBL.out e1
       have l2 := old_cell HB4.out HBL.out e2
       have l3 := old_cell HB4.out HBL.out e3
       have l4 := old_cell HW4.out HS1.out t0
       have l5 := old_cell HW4.out HS1.out t1
       have l6 := old_cell HW4.out HS1.out t2
       refine hK.out _ _ ?_ (fun hHeld => ?_)
       ·exact ⟨l0, l1, l2, l3, l4, l5, l6⟩
       clear hK K
       refine htake (i := 11) (v := .bool false) rfl (by kernel_rfl) (by kernel_rfl) (by kernel_rfl) hPF (Or.inl ⟨by kernel_rfl, ?_⟩) hHeld ?_
       ·intro u hS; obtain ⟨p0, p1, p2, p3, p4, p5, p6⟩ := hS; go_simp
       refine wpAnyH_ready (rs := [12]) (by kernel_rfl) (by simp) ?_
       refine AllReadyH.cons (i := 12) rfl (fun K hK => ?_) AllReadyH.nil
       go_simp
       refine hK.out _ _ ?_ (fun hHeld => ?_)
       ·exact ⟨l0, l1, l2, l3, l4, l5, l6⟩
       clear hK K
       refine wpAnyH_done (by kernel_rfl) ?_ _
       go_wp2_with fail
       exact ⟨⟨k' + 1 + 1, by omega, by go_num, HB4, HE4⟩, by simp [intOf]; omega⟩
    ·have hcc : canCl ms none cl = true := by have := HE.out; rw [List.drop_of_length_le (by omega)] at this; rw [← this]; cases prv cl k <;> rfl
     have HV : Hid (canX ⟨ms, cl⟩ = true) := Lib.hid (by rw [HF.out, HMM.out, hcc]; rfl)
     clear hcc
     go_wp2_with fail
     go_ret
     exact ⟨by rw [HV.out]; rfl, HB.out.trans (HBr.out.mono HB.out.size)⟩
end Go.Proofs.YtpdedfpacklnoaaGreatDoor.R
