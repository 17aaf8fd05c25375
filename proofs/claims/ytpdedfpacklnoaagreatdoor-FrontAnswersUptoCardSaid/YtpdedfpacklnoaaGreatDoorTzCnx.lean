/- Contract of causal.Can. -/
import Derived.Test.YtpdedfpacklnoaaGreatDoorTzMC
namespace Go.Proofs.YtpdedfpacklnoaaGreatDoor
open Go.RowKit Go.BL Go.Ct Go.Sl

/-- The one ahead of the k-th. -/
def prv (l : List Dt) : Nat → Option Dt
 | 0 => none
 | k + 1 => l[k]?
theorem prv_succ {l : List Dt} {k : Nat} (h : k < l.length) : prv l (k + 1) = some l[k] := List.getElem?_eq_getElem h
theorem ms_bad {p : Option Dt} {m : Dt} {r : List Dt} (h : mayD m = false) : canMs p (m :: r) = false := by
 cases p <;> simp [canMs, h]
theorem cl_step (ms : List Dt) (p : Option Dt) (d : Dt) (r : List Dt) : canCl ms p (d :: r) = (mayD d && decide (markOf ms d.n d.l + 1 < d.c) && (match p with | none => true | some x => belowD x d) && canCl ms (some d) r) := by
 cases p <;> simp [canCl]
theorem mark_range {ms : List Dt} (h : ∀ m ∈ ms, mayD m = true) (n l : Int) : 0 ≤ markOf ms n l ∧ markOf ms n l ≤ 1099511627776 := by
 rcases mark_may ms h n l with h0 | ⟨m, hm, _, _, hc⟩
 ·omega
 ·have := may_iff.1 (h m hm)
  omega
def PF (Q : Exit → Act → World → Prop) : Prop := ∀ (j : Option Tmp) (v : Value) c (a : Act) w, Q (.panic c) (a.put j v) w → Q (.panic c) a w
theorem PF.body {P : Program} {f : Func} {R : Ending → World → Prop} : PF (bodyPost P f R) := fun j _ _ _ _ h => by cases j <;> exact h
theorem PF.then_ {K : Act → World → Prop} {Q : Exit → Act → World → Prop} (h : PF Q) : PF (Exit.then K Q) := fun j v c a w q => h j v c a w q
theorem PF.inBlock {n : Nat} {Q : Exit → Act → World → Prop} (h : PF Q) : PF (Exit.inBlock n Q) := fun j v c a w q => h j v c a w q
theorem held_start {P : Program} {ops : Array Oper} {Q : Exit → Act → World → Prop} {S : World → Prop} {id : Nat} {a : Act} {w : World} (hm : P.follows .mixedOrders = true) (hQ : PF Q) (hS : S w.drew)
  (h : PF Q → S w.drew → wpAnyH P .any ops Q S ops.size (Array.replicate ops.size false) a w.drew) : (Code.region id ops true).wp P Q a w := wp_region_held_drew hm hS (h hQ)
theorem held_take {P : Program} {ops : Array Oper} {Q : Exit → Act → World → Prop} {md : Region.Mode} {S : World → Prop} {i : Nat} {oi : Oper} {v : Value} {fuel : Nat} {listed : Array Bool} {a : Act} {w : World} (hi : ops[i]? = some oi)
  (hs : Region.noSelect ops = true) (hf : Region.free md ops listed i = true) (hr : (Region.ready md ops listed).contains i = true) (hQ : PF Q) (hy : YieldsIf P ops S oi v a) (hS : S w)
  (h : wpAnyH P md ops Q S fuel (listed.setIfInBounds i true) (a.put oi.dst v) w) : wpAnyH P md ops Q S (fuel + 1) listed a w := wpAnyH_take hi hs hf hr (fun c a w h => hQ _ _ c a w h) hy hS h
theorem ms_zero {d : Dt} {r : List Dt} {b : Bool} (h : mayD d = true) (e : canMs none (d :: r) = b) : canMs (some d) r = b := by rw [← e]; simp [canMs, h]
theorem ms_some {x d : Dt} {r : List Dt} {b : Bool} (h : mayD d = true) (h2 : belowA x d = true) (e : canMs (some x) (d :: r) = b) : canMs (some d) r = b := by rw [← e]; simp [canMs, h, h2]
theorem ms_no {x d : Dt} {r : List Dt} (h2 : belowA x d = false) : canMs (some x) (d :: r) = false := by simp [canMs, h2]
set_option maxHeartbeats 8000000 in
set_option maxRecDepth 100000 in
theorem canX_any (x : Cx) (mv cv : Value) (w : World) (hm : Dots w mv x.ms) (hc : Dots w cv x.cl) : Calls Tryz.prog 219 #[.agg #[mv, cv]] w (RetV (.bool (canX x)) w) := by
 obtain ⟨A, ac, rfl⟩ := hm.form
 obtain ⟨D, dc, rfl⟩ := hc.form
 obtain ⟨ms, cl⟩ := x
 dsimp only at hm hc ⊢
 have hx1 := hm.1
 have hx2 := hc.1
 obtain ⟨w0, hw0⟩ : ∃ w0, w.alloc (.cells #[.slice A ms.length ac, .slice D cl.length dc] 30) = w0 := ⟨_, rfl⟩
 have HB : Hid (Below w.heap.size w w0) := Lib.hid (by rw [← hw0]; exact (Below.refl _ _).alloc (Nat.le_refl _) _)
 have HS : Hid (w.heap.size < w0.heap.size) := Lib.hid (by rw [← hw0]; simp)
 have HP : Hid (w0.cell? ⟨w.heap.size, 0, none⟩ = some (.slice A ms.length ac) ∧ w0.cell? ⟨w.heap.size, 1, none⟩ = some (.slice D cl.length dc)) := Lib.hid (by rw [← hw0]; exact pair_at w _ _ 30 _ rfl)
 have HM := Lib.hid (hm.below HB.out (Nat.le_refl _))
 have HC := Lib.hid (hc.below HB.out (Nat.le_refl _))
 obtain ⟨q0, q1⟩ := HP.out
 clear hm hc
 by_cases l1 : ms.length ≤ 64
 case neg =>
  have HF : Hid (canX ⟨ms, cl⟩ = false) := Lib.hid (by unfold canX; dsimp only; rw [decide_eq_false l1]; rfl)
  have g1 : (64 : Int) < (ms.length : Int) := by omega
  go_enter Tryz.func219, Tryz.ntmps219
  go_wp2_with fail
  go_ret
  exact ⟨by rw [HF.out]; rfl, HB.out⟩
 by_cases l2 : cl.length ≤ 64
 case neg =>
  have HF : Hid (canX ⟨ms, cl⟩ = false) := Lib.hid (by unfold canX; dsimp only; rw [decide_eq_false l2]; simp)
  have g1 : ¬ (64 : Int) < (ms.length : Int) := by omega
  have g2 : (64 : Int) < (cl.length : Int) := by omega
  go_enter Tryz.func219, Tryz.ntmps219
  go_wp2_with fail
  go_ret
  exact ⟨by rw [HF.out]; rfl, HB.out⟩
 have HF : Hid (canX ⟨ms, cl⟩ = (canMs none ms && canCl ms none cl)) := Lib.hid (by unfold canX; dsimp only; rw [decide_eq_true l1, decide_eq_true l2]; simp)
 have g1 : ¬ (64 : Int) < (ms.length : Int) := by omega
 have g2 : ¬ (64 : Int) < (cl.length : Int) := by omega
 clear l1 l2
 go_enter Tryz.func219, Tryz.ntmps219
 go_wp2_with fail
 clear hw0 g1 g2
 go_loopw [21] (fun j wr => ∃ k : Nat, k ≤ ms.length ∧ j = .int .i64 (k : Int) ∧ Hid (Below w0.heap.size w0 wr) ∧ Hid (canMs (prv ms k) (ms.drop k) = canMs none ms) ∧ Hid (∀ i (h : i < ms.length), i < k → mayD ms[i] = true)) (fun j _ => ms.length - (intOf j).toNat)
 case atStart => exact ⟨0, by omega, rfl, Lib.hid (Below.refl _ _), Lib.hid rfl, Lib.hid (fun _ _ h => absurd h (by omega))⟩
 case round =>
  obtain ⟨k, hk, rfl, HBr, HE, HY⟩ := hrel
  have r0 := old_cell HBr.out HS.out q0
  have r1 := old_cell HBr.out HS.out q1
  by_cases hlt : k < ms.length
  ·obtain ⟨b, off, rfl, hbl, hcs⟩ := dot_cells HM.out (by omega)
   obtain ⟨c1, c2, c3⟩ := hcs k hlt
   have HCS := Lib.hid hcs
   obtain ⟨⟨dn, dl, dcn⟩, hx⟩ : ∃ x, ms[k]'hlt = x := ⟨_, rfl⟩
   rw [hx] at c1 c2 c3
   have d1 := old_cell HBr.out hbl c1
   have d2 := old_cell HBr.out hbl c2
   have d3 := old_cell HBr.out hbl c3
   have HX := Lib.hid hx
   have HBL := Lib.hid hbl
   have he : canMs (prv ms k) (⟨dn, dl, dcn⟩ :: ms.drop (k + 1)) = canMs none ms := by rw [← hx, ← List.drop_eq_getElem_cons hlt]; exact HE.out
   have HE2 := Lib.hid he
   clear hcs c1 c2 c3 hx hbl he
   have hfi := fun w => first_any ⟨dn, dl, dcn⟩ w
   have hma := fun w => may_any ⟨dn, dl, dcn⟩ w
   dsimp only [dotV] at hfi hma
   obtain ⟨w1, hw1⟩ : ∃ w1, wr.alloc (.cells #[.int .i64 dn, .int .i64 dl, .int .i64 dcn] 150) = w1 := ⟨_, rfl⟩
   have hb1 : Below wr.heap.size wr w1 := by rw [← hw1]; exact (Below.refl _ _).alloc (Nat.le_refl _) _
   have HB1 := Lib.hid (HBr.out.trans (hb1.mono HBr.out.size))
   have HS1 : Hid (wr.heap.size < w1.heap.size) := Lib.hid (by rw [← hw1]; simp)
   have HT : Hid (w1.cell? ⟨wr.heap.size, 0, none⟩ = some (.int .i64 dn) ∧ w1.cell? ⟨wr.heap.size, 1, none⟩ = some (.int .i64 dl) ∧ w1.cell? ⟨wr.heap.size, 2, none⟩ = some (.int .i64 dcn)) := Lib.hid (by rw [← hw1]; exact tri_at wr _ _ _ 150 _ rfl)
   obtain ⟨t0, t1, t2⟩ := HT.out
   clear hb1
   obtain ⟨my, hmy⟩ : ∃ x, mayD ⟨dn, dl, dcn⟩ = x := ⟨_, rfl⟩
   rw [hmy] at hma
   have HMY := Lib.hid hmy
   clear hmy
   have HRS : Hid (w.heap.size < wr.heap.size) := Lib.hid (Nat.lt_of_lt_of_le HS.out HBr.out.size)
   cases my
   case false =>
    have HV : Hid (canX ⟨ms, cl⟩ = false) := Lib.hid (by rw [HF.out, ← HE2.out, ms_bad HMY.out]; rfl)
    go_wp2_with (first
     | (go_at_call 223; refine (hfi _).mono ?_; rintro e w2 ⟨rfl, hb⟩; have HB2 := Lib.hid (HB1.out.trans (hb.mono HB1.out.size)); clear hb)
     | (go_at_call 245; refine (hma _).mono ?_; rintro e w3 ⟨rfl, hb⟩; have HB3 := Lib.hid (HB2.out.trans (hb.mono HB2.out.size)); clear hb))
    go_ret
    exact ⟨by rw [HV.out]; rfl, HB.out.trans (HB3.out.mono HB.out.size)⟩
   case true =>
   have HY2 : Hid (∀ i (h : i < ms.length), i < k + 1 → mayD ms[i] = true) := Lib.hid (fun i h hi => by
    rcases Nat.lt_or_ge i k with h' | h'
    ·exact HY.out i h h'
    ·obtain rfl : i = k := by omega
     rw [HX.out]; exact HMY.out)
   rcases Nat.eq_zero_or_pos k with h0 | h0
   ·subst h0
    simp only [Nat.zero_mul, Nat.add_zero] at d1 d2 d3
    have HE3 : Hid (canMs (prv ms (0 + 1)) (ms.drop (0 + 1)) = canMs none ms) := Lib.hid (by rw [prv_succ hlt, HX.out]; exact ms_zero HMY.out HE2.out)
    go_wp2_with (first
     | (go_at_call 223; refine (hfi _).mono ?_; rintro e w2 ⟨rfl, hb⟩; have HB2 := Lib.hid (HB1.out.trans (hb.mono HB1.out.size)); clear hb)
     | (go_at_call 245; refine (hma _).mono ?_; rintro e w3 ⟨rfl, hb⟩; have HB3 := Lib.hid (HB2.out.trans (hb.mono HB2.out.size)); clear hb))
    exact ⟨⟨0 + 1, by omega, by go_num, HB3, HE3, HY2⟩, by simp [intOf]; omega⟩
   ·obtain ⟨k', rfl⟩ : ∃ k', k = k' + 1 := ⟨k - 1, by omega⟩
    have hlt' : k' < ms.length := by omega
    obtain ⟨e1, e2, e3⟩ := HCS.out k' hlt'
    obtain ⟨⟨xn, xl, xc⟩, hy⟩ : ∃ x, ms[k']'hlt' = x := ⟨_, rfl⟩
    rw [hy] at e1 e2 e3
    have hpv : prv ms (k' + 1) = some ⟨xn, xl, xc⟩ := by rw [prv_succ hlt', hy]
    have hmx : mayD ⟨xn, xl, xc⟩ = true := by rw [← hy]; exact HY.out k' hlt' (by omega)
    have hor := fun w => order_any ⟨xn, xl, 0⟩ ⟨dn, dl, 0⟩ w
    have hob := ord_belowA hmx HMY.out
    dsimp only [dotV] at hor
    dsimp only at hob
    obtain ⟨o, ho⟩ : ∃ o, ordD ⟨xn, xl, 0⟩ ⟨dn, dl, 0⟩ = o := ⟨_, rfl⟩
    rw [ho] at hor hob
    have HE4 := HE2.out
    rw [hpv] at HE4
    have HE5 := Lib.hid HE4
    have HE1 := Lib.hid (And.intro e1 (And.intro e2 e3))
    clear ho hmx hy hpv e1 e2 e3 HE4
    have hw : wrap64 ((k' : Int) + 1 - 1) = (k' : Int) := by unfold wrap64; omega
    obtain ⟨bl, hbl2⟩ : ∃ b, belowA ⟨xn, xl, xc⟩ ⟨dn, dl, dcn⟩ = b := ⟨_, rfl⟩
    rw [hbl2] at hob
    have HOB := Lib.hid hbl2
    have hgo : (0 ≤ o) ↔ bl = false := by rw [← decide_eq_true_iff (p := 0 ≤ o), hob]; cases bl <;> simp
    clear hbl2 hob
    cases bl
    case false =>
     have HV : Hid (canX ⟨ms, cl⟩ = false) := Lib.hid (by rw [HF.out, ← HE5.out, ms_no HOB.out]; rfl)
     have g0 : 0 ≤ o := hgo.2 rfl
     clear hgo
     go_wp2_with (first
      | (go_at_call 223; refine (hfi _).mono ?_; rintro e w2 ⟨rfl, hb⟩; have HB2 := Lib.hid (HB1.out.trans (hb.mono HB1.out.size)); have HW2 := Lib.hid hb; clear hb)
      | (go_at_call 245; refine (hma _).mono ?_; rintro e w3 ⟨rfl, hb⟩; have HB3 := Lib.hid (HB2.out.trans (hb.mono HB2.out.size)); have HW3 := Lib.hid (HW2.out.trans (hb.mono HW2.out.size)); clear hb; have z0 := old_cell HB3.out HS.out q0; have z1 := old_cell HB3.out HBL.out HE1.out.1; have z2 := old_cell HB3.out HBL.out HE1.out.2.1; have z3 := old_cell HB3.out HBL.out HE1.out.2.2; have y0 := old_cell HW3.out HS1.out t0; have y1 := old_cell HW3.out HS1.out t1; have y2 := old_cell HW3.out HS1.out t2; have HY3 : Hid (wr.heap.size < w3.heap.size) := Lib.hid (Nat.lt_of_lt_of_le HS1.out HW3.out.size); obtain ⟨w4, hw4⟩ : ∃ w4, w3.alloc (.cells #[.int .i64 xn, .int .i64 xl, .int .i64 xc] 150) = w4 := ⟨_, rfl⟩; have HB4 : Hid (Below w0.heap.size w0 w4) := Lib.hid (by rw [← hw4]; exact HB3.out.alloc HB3.out.size _); obtain ⟨x0, x1, x2⟩ : w4.cell? ⟨w3.heap.size, 0, none⟩ = some (.int .i64 xn) ∧ w4.cell? ⟨w3.heap.size, 1, none⟩ = some (.int .i64 xl) ∧ w4.cell? ⟨w3.heap.size, 2, none⟩ = some (.int .i64 xc) := (by rw [← hw4]; exact tri_at w3 _ _ _ 150 _ rfl); have y0 : w4.cell? ⟨wr.heap.size, 0, none⟩ = some (.int .i64 dn) := (by rw [← hw4]; exact (World.cell?_alloc_lt _ _ _ HY3.out).trans y0); have y1 : w4.cell? ⟨wr.heap.size, 1, none⟩ = some (.int .i64 dl) := (by rw [← hw4]; exact (World.cell?_alloc_lt _ _ _ HY3.out).trans y1))
      | (go_at_call 246; refine (hor _).mono ?_; rintro e w5 ⟨rfl, hb⟩; have HB5 := Lib.hid (HB4.out.trans (hb.mono HB4.out.size)); clear hb))
     go_ret
     exact ⟨by rw [HV.out]; rfl, HB.out.trans (HB5.out.mono HB.out.size)⟩
    case true =>
     have g0 : ¬ 0 ≤ o := fun h => by have := hgo.1 h; cases this
     have g0' : o < 0 := by omega
     clear hgo
     have HE3 : Hid (canMs (prv ms (k' + 1 + 1)) (ms.drop (k' + 1 + 1)) = canMs none ms) := Lib.hid (by rw [prv_succ hlt, HX.out]; exact ms_some HMY.out HOB.out HE5.out)
     go_wp2_with (first
      | (go_at_call 223; refine (hfi _).mono ?_; rintro e w2 ⟨rfl, hb⟩; have HB2 := Lib.hid (HB1.out.trans (hb.mono HB1.out.size)); have HW2 := Lib.hid hb; clear hb)
      | (go_at_call 245; refine (hma _).mono ?_; rintro e w3 ⟨rfl, hb⟩; have HB3 := Lib.hid (HB2.out.trans (hb.mono HB2.out.size)); have HW3 := Lib.hid (HW2.out.trans (hb.mono HW2.out.size)); clear hb; have z0 := old_cell HB3.out HS.out q0; have z1 := old_cell HB3.out HBL.out HE1.out.1; have z2 := old_cell HB3.out HBL.out HE1.out.2.1; have z3 := old_cell HB3.out HBL.out HE1.out.2.2; have y0 := old_cell HW3.out HS1.out t0; have y1 := old_cell HW3.out HS1.out t1; have y2 := old_cell HW3.out HS1.out t2; have HY3 : Hid (wr.heap.size < w3.heap.size) := Lib.hid (Nat.lt_of_lt_of_le HS1.out HW3.out.size); obtain ⟨w4, hw4⟩ : ∃ w4, w3.alloc (.cells #[.int .i64 xn, .int .i64 xl, .int .i64 xc] 150) = w4 := ⟨_, rfl⟩; have HB4 : Hid (Below w0.heap.size w0 w4) := Lib.hid (by rw [← hw4]; exact HB3.out.alloc HB3.out.size _); obtain ⟨x0, x1, x2⟩ : w4.cell? ⟨w3.heap.size, 0, none⟩ = some (.int .i64 xn) ∧ w4.cell? ⟨w3.heap.size, 1, none⟩ = some (.int .i64 xl) ∧ w4.cell? ⟨w3.heap.size, 2, none⟩ = some (.int .i64 xc) := (by rw [← hw4]; exact tri_at w3 _ _ _ 150 _ rfl); have y0 : w4.cell? ⟨wr.heap.size, 0, none⟩ = some (.int .i64 dn) := (by rw [← hw4]; exact (World.cell?_alloc_lt _ _ _ HY3.out).trans y0); have y1 : w4.cell? ⟨wr.heap.size, 1, none⟩ = some (.int .i64 dl) := (by rw [← hw4]; exact (World.cell?_alloc_lt _ _ _ HY3.out).trans y1))
      | (go_at_call 246; refine (hor _).mono ?_; rintro e w5 ⟨rfl, hb⟩; have HB5 := Lib.hid (HB4.out.trans (hb.mono HB4.out.size)); clear hb))
     exact ⟨⟨k' + 1 + 1, by omega, by go_num, HB5, HE3, HY2⟩, by simp [intOf]; omega⟩
  ·have hmm : canMs none ms = true := by have := HE.out; rw [List.drop_of_length_le (by omega)] at this; rw [← this]; cases prv ms k <;> rfl
   have HMM := Lib.hid hmm
   have HYA : Hid (∀ m ∈ ms, mayD m = true) := Lib.hid (ms_may _ _ hmm)
   clear hmm
   go_wp2_with fail
   go_loopw [54] (fun j wq => ∃ k : Nat, k ≤ cl.length ∧ j = .int .i64 (k : Int) ∧ Hid (Below w0.heap.size w0 wq) ∧ Hid (canCl ms (prv cl k) (cl.drop k) = canCl ms none cl) ∧ Hid (∀ i (h : i < cl.length), i < k → mayD cl[i] = true)) (fun j _ => cl.length - (intOf j).toNat)
   case atStart => exact ⟨0, by omega, rfl, HBr, Lib.hid rfl, Lib.hid (fun _ _ h => absurd h (by omega))⟩
   case round =>
    clear r0 r1 HBr HE HY
    obtain ⟨k, hk, rfl, HBr, HE, HY⟩ := hrel
    have a0 := old_cell HBr.out HS.out q0
    have a1 := old_cell HBr.out HS.out q1
    by_cases hlt : k < cl.length
    ·obtain ⟨b, off, rfl, hbl, hcs⟩ := dot_cells HC.out (by omega)
     obtain ⟨c1, c2, c3⟩ := hcs k hlt
     have HCS := Lib.hid hcs
     obtain ⟨⟨dn, dl, dcn⟩, hx⟩ : ∃ x, cl[k]'hlt = x := ⟨_, rfl⟩
     rw [hx] at c1 c2 c3
     have d1 := old_cell HBr.out hbl c1
     have d2 := old_cell HBr.out hbl c2
     have d3 := old_cell HBr.out hbl c3
     have HX := Lib.hid hx
     have HBL := Lib.hid hbl
     have he : canCl ms (prv cl k) (⟨dn, dl, dcn⟩ :: cl.drop (k + 1)) = canCl ms none cl := by rw [← hx, ← List.drop_eq_getElem_cons hlt]; exact HE.out
     have hma := fun w => may_any ⟨dn, dl, dcn⟩ w
     have hac := fun w => actor_any ⟨dn, dl, dcn⟩ w
     have hmk := fun w hm => mark_any ms (.slice A ms.length ac) (.slice (some ⟨b, off, none⟩) cl.length dc) dn dl w hm
     dsimp only [dotV] at hma hac
     obtain ⟨mk, hmk'⟩ : ∃ x, markOf ms dn dl = x := ⟨_, rfl⟩
     rw [cl_step] at he
     dsimp only at he
     rw [hmk'] at hmk he
     have hmr : 0 ≤ mk ∧ mk ≤ 1099511627776 := by rw [← hmk']; exact mark_range HYA.out dn dl
     have hwk : IntKind.i64.wrap (mk + 1) = mk + 1 := by rw [IntKind.wrap_i64]; omega
     obtain ⟨my, hmy⟩ : ∃ x, mayD ⟨dn, dl, dcn⟩ = x := ⟨_, rfl⟩
     have HMY := Lib.hid hmy
     rw [hmy] at hma he
     obtain ⟨rest, hrest⟩ : ∃ x, canCl ms (some ⟨dn, dl, dcn⟩) (cl.drop (k + 1)) = x := ⟨_, rfl⟩
     rw [hrest] at he
     obtain ⟨bw, hbw⟩ : ∃ x, (match prv cl k with | none => true | some x => belowD x ⟨dn, dl, dcn⟩) = x := ⟨_, rfl⟩
     rw [hbw] at he
     have HBW := Lib.hid hbw
     have HE2 := Lib.hid he
     have HRE := Lib.hid hrest
     clear hcs c1 c2 c3 hx hbl he hmk' hmy hrest hbw hmr
     have hlk : decide (dcn ≤ mk + 1) = !decide (mk + 1 < dcn) := by rw [Bool.eq_iff_iff]; simp
     have HLK := Lib.hid hlk
     clear hlk
     obtain ⟨w1, hw1⟩ : ∃ w1, wr.alloc (.cells #[.int .i64 dn, .int .i64 dl, .int .i64 dcn] 90) = w1 := ⟨_, rfl⟩
     have hb1 : Below wr.heap.size wr w1 := by rw [← hw1]; exact (Below.refl _ _).alloc (Nat.le_refl _) _
     have HB1 := Lib.hid (HBr.out.trans (hb1.mono HBr.out.size))
     have HW1 : Hid (Below w1.heap.size w1 w1) := Lib.hid (Below.refl _ _)
     have HS1 : Hid (wr.heap.size < w1.heap.size) := Lib.hid (by rw [← hw1]; simp)
     have HT : Hid (w1.cell? ⟨wr.heap.size, 0, none⟩ = some (.int .i64 dn) ∧ w1.cell? ⟨wr.heap.size, 1, none⟩ = some (.int .i64 dl) ∧ w1.cell? ⟨wr.heap.size, 2, none⟩ = some (.int .i64 dcn)) := Lib.hid (by rw [← hw1]; exact tri_at wr _ _ _ 90 _ rfl)
     obtain ⟨t0, t1, t2⟩ := HT.out
     clear hb1
     have s0 := old_cell HB1.out HS.out q0
     have s1 := old_cell HB1.out HS.out q1
     have s2 := t0
     have s3 := t1
     have s4 := t2
     have HRS : Hid (w.heap.size < wr.heap.size) := Lib.hid (Nat.lt_of_lt_of_le HS.out HBr.out.size)
     go_upto_region 16 with fail
     clear hw1 a0 a1 d1 d2 d3
     go_cut [86] from 55 to 87 (fun s86 wx => s86 = .bool (!(my && decide (mk + 1 < dcn) && bw)) ∧ Hid (Below w0.heap.size w0 wx))
     case first =>
      cases my
      case false =>
       have HOK : Hid ((!(false && decide (mk + 1 < dcn) && bw)) = true) := Lib.hid (by simp)
       refine held_start (S := fun u => u.cell? ⟨w.heap.size, 0, none⟩ = some (.slice A ms.length ac) ∧ u.cell? ⟨w.heap.size, 1, none⟩ = some (.slice (some ⟨b, off, none⟩) cl.length dc) ∧ u.cell? ⟨wr.heap.size, 0, none⟩ = some (.int .i64 dn) ∧ u.cell? ⟨wr.heap.size, 1, none⟩ = some (.int .i64 dl) ∧ u.cell? ⟨wr.heap.size, 2, none⟩ = some (.int .i64 dcn)) (by kernel_rfl) (by repeat (first | exact PF.body | refine PF.then_ ?_ | refine PF.inBlock ?_)) ?_ (fun hPF hHeld => ?_)
       ·exact ⟨s0, s1, s2, s3, s4⟩
       refine held_take (i := 0) (v := .agg #[.int .i64 dn, .int .i64 dl, .int .i64 dcn]) rfl (by kernel_rfl) (by kernel_rfl) (by kernel_rfl) hPF (Or.inl ⟨by kernel_rfl, ?_⟩) hHeld ?_
       ·intro u hS; obtain ⟨p0, p1, p2, p3, p4⟩ := hS; go_simp
       refine wpAnyH_ready (rs := [1]) (by kernel_rfl) (by simp) ?_
       refine AllReadyH.cons (i := 1) rfl (fun K hK => ?_) AllReadyH.nil
       go_simp
       go_at_call 245
       refine (hma _).mono ?_
       rintro e w_2 ⟨rfl, hb⟩
       have HB2 := Lib.hid (HB1.out.drew.trans (hb.mono HB1.out.drew.size))
       have HW2 := Lib.hid (HW1.out.drew.trans (hb.mono HW1.out.drew.size))
       clear hb
       have i0 := old_cell HB2.out HS.out q0
       have i1 := old_cell HB2.out HS.out q1
       have i2 := old_cell HW2.out HS1.out t0
       have i3 := old_cell HW2.out HS1.out t1
       have i4 := old_cell HW2.out HS1.out t2
       refine hK.out _ _ ?_ (fun hHeld => ?_)
       ·exact ⟨i0, i1, i2, i3, i4⟩
       clear hK K
       refine held_take (i := 2) (v := .bool true) rfl (by kernel_rfl) (by kernel_rfl) (by kernel_rfl) hPF (Or.inl ⟨by kernel_rfl, ?_⟩) hHeld ?_
       ·intro u hS; obtain ⟨p0, p1, p2, p3, p4⟩ := hS; go_simp
       refine held_take (i := 3) (v := .bool true) rfl (by kernel_rfl) (by kernel_rfl) (by kernel_rfl) hPF (Or.inl ⟨by kernel_rfl, ?_⟩) hHeld ?_
       ·intro u hS; obtain ⟨p0, p1, p2, p3, p4⟩ := hS; go_simp
       refine held_take (i := 4) (v := undef) rfl (by kernel_rfl) (by kernel_rfl) (by kernel_rfl) hPF (Or.inr ⟨by kernel_rfl, rfl⟩) hHeld ?_
       refine held_take (i := 5) (v := undef) rfl (by kernel_rfl) (by kernel_rfl) (by kernel_rfl) hPF (Or.inr ⟨by kernel_rfl, rfl⟩) hHeld ?_
       refine held_take (i := 6) (v := undef) rfl (by kernel_rfl) (by kernel_rfl) (by kernel_rfl) hPF (Or.inr ⟨by kernel_rfl, rfl⟩) hHeld ?_
       refine held_take (i := 7) (v := undef) rfl (by kernel_rfl) (by kernel_rfl) (by kernel_rfl) hPF (Or.inr ⟨by kernel_rfl, rfl⟩) hHeld ?_
       refine held_take (i := 8) (v := undef) rfl (by kernel_rfl) (by kernel_rfl) (by kernel_rfl) hPF (Or.inr ⟨by kernel_rfl, rfl⟩) hHeld ?_
       refine held_take (i := 9) (v := undef) rfl (by kernel_rfl) (by kernel_rfl) (by kernel_rfl) hPF (Or.inr ⟨by kernel_rfl, rfl⟩) hHeld ?_
       refine held_take (i := 10) (v := undef) rfl (by kernel_rfl) (by kernel_rfl) (by kernel_rfl) hPF (Or.inr ⟨by kernel_rfl, rfl⟩) hHeld ?_
       refine held_take (i := 11) (v := undef) rfl (by kernel_rfl) (by kernel_rfl) (by kernel_rfl) hPF (Or.inr ⟨by kernel_rfl, rfl⟩) hHeld ?_
       refine held_take (i := 12) (v := undef) rfl (by kernel_rfl) (by kernel_rfl) (by kernel_rfl) hPF (Or.inr ⟨by kernel_rfl, rfl⟩) hHeld ?_
       refine held_take (i := 13) (v := undef) rfl (by kernel_rfl) (by kernel_rfl) (by kernel_rfl) hPF (Or.inr ⟨by kernel_rfl, rfl⟩) hHeld ?_
       refine held_take (i := 14) (v := undef) rfl (by kernel_rfl) (by kernel_rfl) (by kernel_rfl) hPF (Or.inr ⟨by kernel_rfl, rfl⟩) hHeld ?_
       refine held_take (i := 15) (v := undef) rfl (by kernel_rfl) (by kernel_rfl) (by kernel_rfl) hPF (Or.inr ⟨by kernel_rfl, rfl⟩) hHeld ?_
       refine held_take (i := 16) (v := undef) rfl (by kernel_rfl) (by kernel_rfl) (by kernel_rfl) hPF (Or.inr ⟨by kernel_rfl, rfl⟩) hHeld ?_
       refine held_take (i := 17) (v := .bool true) rfl (by kernel_rfl) (by kernel_rfl) (by kernel_rfl) hPF (Or.inl ⟨by kernel_rfl, ?_⟩) hHeld ?_
       ·intro u hS; obtain ⟨p0, p1, p2, p3, p4⟩ := hS; go_simp
       refine held_take (i := 18) (v := .bool true) rfl (by kernel_rfl) (by kernel_rfl) (by kernel_rfl) hPF (Or.inl ⟨by kernel_rfl, ?_⟩) hHeld ?_
       ·intro u hS; obtain ⟨p0, p1, p2, p3, p4⟩ := hS; go_simp
       refine held_take (i := 19) (v := undef) rfl (by kernel_rfl) (by kernel_rfl) (by kernel_rfl) hPF (Or.inr ⟨by kernel_rfl, rfl⟩) hHeld ?_
       refine held_take (i := 20) (v := undef) rfl (by kernel_rfl) (by kernel_rfl) (by kernel_rfl) hPF (Or.inr ⟨by kernel_rfl, rfl⟩) hHeld ?_
       refine held_take (i := 21) (v := undef) rfl (by kernel_rfl) (by kernel_rfl) (by kernel_rfl) hPF (Or.inr ⟨by kernel_rfl, rfl⟩) hHeld ?_
       refine held_take (i := 22) (v := undef) rfl (by kernel_rfl) (by kernel_rfl) (by kernel_rfl) hPF (Or.inr ⟨by kernel_rfl, rfl⟩) hHeld ?_
       refine held_take (i := 23) (v := undef) rfl (by kernel_rfl) (by kernel_rfl) (by kernel_rfl) hPF (Or.inr ⟨by kernel_rfl, rfl⟩) hHeld ?_
       refine held_take (i := 24) (v := undef) rfl (by kernel_rfl) (by kernel_rfl) (by kernel_rfl) hPF (Or.inr ⟨by kernel_rfl, rfl⟩) hHeld ?_
       refine held_take (i := 25) (v := undef) rfl (by kernel_rfl) (by kernel_rfl) (by kernel_rfl) hPF (Or.inr ⟨by kernel_rfl, rfl⟩) hHeld ?_
       refine held_take (i := 26) (v := undef) rfl (by kernel_rfl) (by kernel_rfl) (by kernel_rfl) hPF (Or.inr ⟨by kernel_rfl, rfl⟩) hHeld ?_
       refine wpAnyH_ready (rs := [27]) (by kernel_rfl) (by simp) ?_
       refine AllReadyH.cons (i := 27) rfl (fun K hK => ?_) AllReadyH.nil
       go_simp
       refine hK.out _ _ ?_ (fun hHeld => ?_)
       ·exact ⟨i0, i1, i2, i3, i4⟩
       clear hK K
       refine wpAnyH_done (by kernel_rfl) ?_ _
       go_wp2_with fail
       go_meet
       case rel => exact ⟨by rw [HOK.out], HB2⟩
      case true =>
      rcases Nat.eq_zero_or_pos k with h0 | h0
      ·subst h0
       have hbw1 : bw = true := HBW.out.symm
       subst hbw1
       have HOK : Hid ((!(true && decide (mk + 1 < dcn) && true)) = decide (dcn ≤ mk + 1)) := Lib.hid (by rw [HLK.out]; simp)
       refine held_start (S := fun u => u.cell? ⟨w.heap.size, 0, none⟩ = some (.slice A ms.length ac) ∧ u.cell? ⟨w.heap.size, 1, none⟩ = some (.slice (some ⟨b, off, none⟩) cl.length dc) ∧ u.cell? ⟨wr.heap.size, 0, none⟩ = some (.int .i64 dn) ∧ u.cell? ⟨wr.heap.size, 1, none⟩ = some (.int .i64 dl) ∧ u.cell? ⟨wr.heap.size, 2, none⟩ = some (.int .i64 dcn)) (by kernel_rfl) (by repeat (first | exact PF.body | refine PF.then_ ?_ | refine PF.inBlock ?_)) ?_ (fun hPF hHeld => ?_)
       ·exact ⟨s0, s1, s2, s3, s4⟩
       refine held_take (i := 0) (v := .agg #[.int .i64 dn, .int .i64 dl, .int .i64 dcn]) rfl (by kernel_rfl) (by kernel_rfl) (by kernel_rfl) hPF (Or.inl ⟨by kernel_rfl, ?_⟩) hHeld ?_
       ·intro u hS; obtain ⟨p0, p1, p2, p3, p4⟩ := hS; go_simp
       refine wpAnyH_ready (rs := [1]) (by kernel_rfl) (by simp) ?_
       refine AllReadyH.cons (i := 1) rfl (fun K hK => ?_) AllReadyH.nil
       go_simp
       go_at_call 245
       refine (hma _).mono ?_
       rintro e w_2 ⟨rfl, hb⟩
       have HB2 := Lib.hid (HB1.out.drew.trans (hb.mono HB1.out.drew.size))
       have HW2 := Lib.hid (HW1.out.drew.trans (hb.mono HW1.out.drew.size))
       clear hb
       have i0 := old_cell HB2.out HS.out q0
       have i1 := old_cell HB2.out HS.out q1
       have i2 := old_cell HW2.out HS1.out t0
       have i3 := old_cell HW2.out HS1.out t1
       have i4 := old_cell HW2.out HS1.out t2
       refine hK.out _ _ ?_ (fun hHeld => ?_)
       ·exact ⟨i0, i1, i2, i3, i4⟩
       clear hK K
       refine held_take (i := 2) (v := .bool false) rfl (by kernel_rfl) (by kernel_rfl) (by kernel_rfl) hPF (Or.inl ⟨by kernel_rfl, ?_⟩) hHeld ?_
       ·intro u hS; obtain ⟨p0, p1, p2, p3, p4⟩ := hS; go_simp
       refine held_take (i := 3) (v := .bool false) rfl (by kernel_rfl) (by kernel_rfl) (by kernel_rfl) hPF (Or.inl ⟨by kernel_rfl, ?_⟩) hHeld ?_
       ·intro u hS; obtain ⟨p0, p1, p2, p3, p4⟩ := hS; go_simp
       refine held_take (i := 4) (v := .int .i64 0) rfl (by kernel_rfl) (by kernel_rfl) (by kernel_rfl) hPF (Or.inl ⟨by kernel_rfl, ?_⟩) hHeld ?_
       ·intro u hS; obtain ⟨p0, p1, p2, p3, p4⟩ := hS; go_simp
       refine held_take (i := 5) (v := .bool false) rfl (by kernel_rfl) (by kernel_rfl) (by kernel_rfl) hPF (Or.inl ⟨by kernel_rfl, ?_⟩) hHeld ?_
       ·intro u hS; obtain ⟨p0, p1, p2, p3, p4⟩ := hS; go_simp
       refine held_take (i := 6) (v := .bool false) rfl (by kernel_rfl) (by kernel_rfl) (by kernel_rfl) hPF (Or.inl ⟨by kernel_rfl, ?_⟩) hHeld ?_
       ·intro u hS; obtain ⟨p0, p1, p2, p3, p4⟩ := hS; go_simp
       refine held_take (i := 7) (v := undef) rfl (by kernel_rfl) (by kernel_rfl) (by kernel_rfl) hPF (Or.inr ⟨by kernel_rfl, rfl⟩) hHeld ?_
       refine held_take (i := 8) (v := undef) rfl (by kernel_rfl) (by kernel_rfl) (by kernel_rfl) hPF (Or.inr ⟨by kernel_rfl, rfl⟩) hHeld ?_
       refine held_take (i := 9) (v := undef) rfl (by kernel_rfl) (by kernel_rfl) (by kernel_rfl) hPF (Or.inr ⟨by kernel_rfl, rfl⟩) hHeld ?_
       refine held_take (i := 10) (v := undef) rfl (by kernel_rfl) (by kernel_rfl) (by kernel_rfl) hPF (Or.inr ⟨by kernel_rfl, rfl⟩) hHeld ?_
       refine held_take (i := 11) (v := undef) rfl (by kernel_rfl) (by kernel_rfl) (by kernel_rfl) hPF (Or.inr ⟨by kernel_rfl, rfl⟩) hHeld ?_
       refine held_take (i := 12) (v := undef) rfl (by kernel_rfl) (by kernel_rfl) (by kernel_rfl) hPF (Or.inr ⟨by kernel_rfl, rfl⟩) hHeld ?_
       refine held_take (i := 13) (v := undef) rfl (by kernel_rfl) (by kernel_rfl) (by kernel_rfl) hPF (Or.inr ⟨by kernel_rfl, rfl⟩) hHeld ?_
       refine held_take (i := 14) (v := undef) rfl (by kernel_rfl) (by kernel_rfl) (by kernel_rfl) hPF (Or.inr ⟨by kernel_rfl, rfl⟩) hHeld ?_
       refine held_take (i := 15) (v := undef) rfl (by kernel_rfl) (by kernel_rfl) (by kernel_rfl) hPF (Or.inr ⟨by kernel_rfl, rfl⟩) hHeld ?_
       refine held_take (i := 16) (v := .bool false) rfl (by kernel_rfl) (by kernel_rfl) (by kernel_rfl) hPF (Or.inl ⟨by kernel_rfl, ?_⟩) hHeld ?_
       ·intro u hS; obtain ⟨p0, p1, p2, p3, p4⟩ := hS; go_simp
       refine held_take (i := 17) (v := .bool false) rfl (by kernel_rfl) (by kernel_rfl) (by kernel_rfl) hPF (Or.inl ⟨by kernel_rfl, ?_⟩) hHeld ?_
       ·intro u hS; obtain ⟨p0, p1, p2, p3, p4⟩ := hS; go_simp
       refine held_take (i := 18) (v := .bool false) rfl (by kernel_rfl) (by kernel_rfl) (by kernel_rfl) hPF (Or.inl ⟨by kernel_rfl, ?_⟩) hHeld ?_
       ·intro u hS; obtain ⟨p0, p1, p2, p3, p4⟩ := hS; go_simp
       refine held_take (i := 19) (v := .pointer (some ⟨wr.heap.size, 2, none⟩)) rfl (by kernel_rfl) (by kernel_rfl) (by kernel_rfl) hPF (Or.inl ⟨by kernel_rfl, ?_⟩) hHeld ?_
       ·intro u hS; obtain ⟨p0, p1, p2, p3, p4⟩ := hS; go_simp
       refine held_take (i := 20) (v := .int .i64 dcn) rfl (by kernel_rfl) (by kernel_rfl) (by kernel_rfl) hPF (Or.inl ⟨by kernel_rfl, ?_⟩) hHeld ?_
       ·intro u hS; obtain ⟨p0, p1, p2, p3, p4⟩ := hS; go_simp
       refine held_take (i := 21) (v := .agg #[.slice A ms.length ac, .slice (some ⟨b, off, none⟩) cl.length dc]) rfl (by kernel_rfl) (by kernel_rfl) (by kernel_rfl) hPF (Or.inl ⟨by kernel_rfl, ?_⟩) hHeld ?_
       ·intro u hS; obtain ⟨p0, p1, p2, p3, p4⟩ := hS; go_simp
       refine held_take (i := 22) (v := .agg #[.int .i64 dn, .int .i64 dl, .int .i64 dcn]) rfl (by kernel_rfl) (by kernel_rfl) (by kernel_rfl) hPF (Or.inl ⟨by kernel_rfl, ?_⟩) hHeld ?_
       ·intro u hS; obtain ⟨p0, p1, p2, p3, p4⟩ := hS; go_simp
       refine wpAnyH_ready (rs := [23]) (by kernel_rfl) (by simp) ?_
       refine AllReadyH.cons (i := 23) rfl (fun K hK => ?_) AllReadyH.nil
       go_simp
       go_at_call 248
       refine (hac _).mono ?_
       rintro e w_4 ⟨rfl, hb⟩
       have HB4 := Lib.hid (HB2.out.trans (hb.mono HB2.out.size))
       have HW4 := Lib.hid (HW2.out.trans (hb.mono HW2.out.size))
       clear hb
       have x0 := old_cell HB4.out HS.out q0
       have x1 := old_cell HB4.out HS.out q1
       have x2 := old_cell HW4.out HS1.out t0
       have x3 := old_cell HW4.out HS1.out t1
       have x4 := old_cell HW4.out HS1.out t2
       refine hK.out _ _ ?_ (fun hHeld => ?_)
       ·exact ⟨x0, x1, x2, x3, x4⟩
       clear hK K
       refine wpAnyH_ready (rs := [24]) (by kernel_rfl) (by simp) ?_
       refine AllReadyH.cons (i := 24) rfl (fun K hK => ?_) AllReadyH.nil
       go_simp
       go_at_call 247
       refine (hmk _ (HM.out.below HB4.out (Nat.le_refl _))).mono ?_
       rintro e w_5 ⟨rfl, hb⟩
       have HB5 := Lib.hid (HB4.out.trans (hb.mono HB4.out.size))
       have HW5 := Lib.hid (HW4.out.trans (hb.mono HW4.out.size))
       clear hb
       have y0 := old_cell HB5.out HS.out q0
       have y1 := old_cell HB5.out HS.out q1
       have y2 := old_cell HW5.out HS1.out t0
       have y3 := old_cell HW5.out HS1.out t1
       have y4 := old_cell HW5.out HS1.out t2
       refine hK.out _ _ ?_ (fun hHeld => ?_)
       ·exact ⟨y0, y1, y2, y3, y4⟩
       clear hK K
       refine held_take (i := 25) (v := .int .i64 (mk + 1)) rfl (by kernel_rfl) (by kernel_rfl) (by kernel_rfl) hPF (Or.inl ⟨by kernel_rfl, ?_⟩) hHeld ?_
       ·intro u hS; obtain ⟨p0, p1, p2, p3, p4⟩ := hS; go_simp
       refine held_take (i := 26) (v := .bool (decide (dcn ≤ mk + 1))) rfl (by kernel_rfl) (by kernel_rfl) (by kernel_rfl) hPF (Or.inl ⟨by kernel_rfl, ?_⟩) hHeld ?_
       ·intro u hS; obtain ⟨p0, p1, p2, p3, p4⟩ := hS; go_simp
       refine wpAnyH_ready (rs := [27]) (by kernel_rfl) (by simp) ?_
       refine AllReadyH.cons (i := 27) rfl (fun K hK => ?_) AllReadyH.nil
       go_simp
       refine hK.out _ _ ?_ (fun hHeld => ?_)
       ·exact ⟨y0, y1, y2, y3, y4⟩
       clear hK K
       refine wpAnyH_done (by kernel_rfl) ?_ _
       go_wp2_with fail
       go_meet
       case rel => exact ⟨by rw [HOK.out], HB5⟩
      ·obtain ⟨k', rfl⟩ : ∃ k', k = k' + 1 := ⟨k - 1, by omega⟩
       have hlt' : k' < cl.length := by omega
       obtain ⟨e1', e2', e3'⟩ := HCS.out k' hlt'
       obtain ⟨⟨xn, xl, xc⟩, hy⟩ : ∃ x, cl[k']'hlt' = x := ⟨_, rfl⟩
       rw [hy] at e1' e2' e3'
       have hpv : prv cl (k' + 1) = some ⟨xn, xl, xc⟩ := by rw [prv_succ hlt', hy]
       have hmx : mayD ⟨xn, xl, xc⟩ = true := by rw [← hy]; exact HY.out k' hlt' (by omega)
       have hor := fun w => order_any ⟨xn, xl, xc⟩ ⟨dn, dl, dcn⟩ w
       have hob := ord_below hmx HMY.out
       dsimp only [dotV] at hor
       obtain ⟨o, ho⟩ : ∃ o, ordD ⟨xn, xl, xc⟩ ⟨dn, dl, dcn⟩ = o := ⟨_, rfl⟩
       have hbw2 : belowD ⟨xn, xl, xc⟩ ⟨dn, dl, dcn⟩ = bw := by have := HBW.out; rw [hpv] at this; exact this
       rw [ho] at hor hob
       rw [hbw2] at hob
       have e1 := e1'
       have e2 := e2'
       have e3 := e3'
       have s5 := old_cell HB1.out HBL.out e1
       have s6 := old_cell HB1.out HBL.out e2
       have s7 := old_cell HB1.out HBL.out e3
       have hw : IntKind.i64.wrap (k' : Int) = (k' : Int) := by rw [IntKind.wrap_i64]; omega
       have hgo : (0 ≤ o) ↔ bw = false := by rw [← decide_eq_true_iff (p := 0 ≤ o), hob]; cases bw <;> simp
       clear ho hmx hy hpv hob hbw2 e1' e2' e3'
       cases bw
       case false =>
        have g0 : 0 ≤ o := hgo.2 rfl
        clear hgo
        have HOK : Hid ((!(true && decide (mk + 1 < dcn) && false)) = true) := Lib.hid (by simp)
        refine held_start (S := fun u => u.cell? ⟨w.heap.size, 0, none⟩ = some (.slice A ms.length ac) ∧ u.cell? ⟨w.heap.size, 1, none⟩ = some (.slice (some ⟨b, off, none⟩) cl.length dc) ∧ u.cell? ⟨wr.heap.size, 0, none⟩ = some (.int .i64 dn) ∧ u.cell? ⟨wr.heap.size, 1, none⟩ = some (.int .i64 dl) ∧ u.cell? ⟨wr.heap.size, 2, none⟩ = some (.int .i64 dcn) ∧ u.cell? ⟨b, off + k' * 3, none⟩ = some (.int .i64 xn) ∧ u.cell? ⟨b, off + k' * 3 + 1, none⟩ = some (.int .i64 xl) ∧ u.cell? ⟨b, off + k' * 3 + 2, none⟩ = some (.int .i64 xc)) (by kernel_rfl) (by repeat (first | exact PF.body | refine PF.then_ ?_ | refine PF.inBlock ?_)) ?_ (fun hPF hHeld => ?_)
        ·exact ⟨s0, s1, s2, s3, s4, s5, s6, s7⟩
        refine held_take (i := 0) (v := .agg #[.int .i64 dn, .int .i64 dl, .int .i64 dcn]) rfl (by kernel_rfl) (by kernel_rfl) (by kernel_rfl) hPF (Or.inl ⟨by kernel_rfl, ?_⟩) hHeld ?_
        ·intro u hS; obtain ⟨p0, p1, p2, p3, p4, p5, p6, p7⟩ := hS; go_simp
        refine wpAnyH_ready (rs := [1]) (by kernel_rfl) (by simp) ?_
        refine AllReadyH.cons (i := 1) rfl (fun K hK => ?_) AllReadyH.nil
        go_simp
        go_at_call 245
        refine (hma _).mono ?_
        rintro e w_2 ⟨rfl, hb⟩
        have HB2 := Lib.hid (HB1.out.drew.trans (hb.mono HB1.out.drew.size))
        have HW2 := Lib.hid (HW1.out.drew.trans (hb.mono HW1.out.drew.size))
        clear hb
        have i0 := old_cell HB2.out HS.out q0
        have i1 := old_cell HB2.out HS.out q1
        have i2 := old_cell HW2.out HS1.out t0
        have i3 := old_cell HW2.out HS1.out t1
        have i4 := old_cell HW2.out HS1.out t2
        have i5 := old_cell HB2.out HBL.out e1
        have i6 := old_cell HB2.out HBL.out e2
        have i7 := old_cell HB2.out HBL.out e3
        refine hK.out _ _ ?_ (fun hHeld => ?_)
        ·exact ⟨i0, i1, i2, i3, i4, i5, i6, i7⟩
        clear hK K
        refine held_take (i := 2) (v := .bool false) rfl (by kernel_rfl) (by kernel_rfl) (by kernel_rfl) hPF (Or.inl ⟨by kernel_rfl, ?_⟩) hHeld ?_
        ·intro u hS; obtain ⟨p0, p1, p2, p3, p4, p5, p6, p7⟩ := hS; go_simp
        refine held_take (i := 3) (v := .bool false) rfl (by kernel_rfl) (by kernel_rfl) (by kernel_rfl) hPF (Or.inl ⟨by kernel_rfl, ?_⟩) hHeld ?_
        ·intro u hS; obtain ⟨p0, p1, p2, p3, p4, p5, p6, p7⟩ := hS; go_simp
        refine held_take (i := 4) (v := .int .i64 ((k' : Int) + 1)) rfl (by kernel_rfl) (by kernel_rfl) (by kernel_rfl) hPF (Or.inl ⟨by kernel_rfl, ?_⟩) hHeld ?_
        ·intro u hS; obtain ⟨p0, p1, p2, p3, p4, p5, p6, p7⟩ := hS; go_simp
        refine held_take (i := 5) (v := .bool true) rfl (by kernel_rfl) (by kernel_rfl) (by kernel_rfl) hPF (Or.inl ⟨by kernel_rfl, ?_⟩) hHeld ?_
        ·intro u hS; obtain ⟨p0, p1, p2, p3, p4, p5, p6, p7⟩ := hS; go_simp
        refine held_take (i := 6) (v := .bool true) rfl (by kernel_rfl) (by kernel_rfl) (by kernel_rfl) hPF (Or.inl ⟨by kernel_rfl, ?_⟩) hHeld ?_
        ·intro u hS; obtain ⟨p0, p1, p2, p3, p4, p5, p6, p7⟩ := hS; go_simp
        refine held_take (i := 7) (v := .pointer (some ⟨w.heap.size, 1, none⟩)) rfl (by kernel_rfl) (by kernel_rfl) (by kernel_rfl) hPF (Or.inl ⟨by kernel_rfl, ?_⟩) hHeld ?_
        ·intro u hS; obtain ⟨p0, p1, p2, p3, p4, p5, p6, p7⟩ := hS; go_simp
        refine held_take (i := 8) (v := .slice (some ⟨b, off, none⟩) cl.length dc) rfl (by kernel_rfl) (by kernel_rfl) (by kernel_rfl) hPF (Or.inl ⟨by kernel_rfl, ?_⟩) hHeld ?_
        ·intro u hS; obtain ⟨p0, p1, p2, p3, p4, p5, p6, p7⟩ := hS; go_simp
        refine held_take (i := 9) (v := .int .i64 ((k' : Int) + 1)) rfl (by kernel_rfl) (by kernel_rfl) (by kernel_rfl) hPF (Or.inl ⟨by kernel_rfl, ?_⟩) hHeld ?_
        ·intro u hS; obtain ⟨p0, p1, p2, p3, p4, p5, p6, p7⟩ := hS; go_simp
        refine held_take (i := 10) (v := .int .i64 (k' : Int)) rfl (by kernel_rfl) (by kernel_rfl) (by kernel_rfl) hPF (Or.inl ⟨by kernel_rfl, ?_⟩) hHeld ?_
        ·intro u hS; obtain ⟨p0, p1, p2, p3, p4, p5, p6, p7⟩ := hS; go_simp
        refine held_take (i := 11) (v := .pointer (some ⟨b, off + k' * 3, none⟩)) rfl (by kernel_rfl) (by kernel_rfl) (by kernel_rfl) hPF (Or.inl ⟨by kernel_rfl, ?_⟩) hHeld ?_
        ·intro u hS; obtain ⟨p0, p1, p2, p3, p4, p5, p6, p7⟩ := hS; go_simp
        refine held_take (i := 12) (v := .agg #[.int .i64 xn, .int .i64 xl, .int .i64 xc]) rfl (by kernel_rfl) (by kernel_rfl) (by kernel_rfl) hPF (Or.inl ⟨by kernel_rfl, ?_⟩) hHeld ?_
        ·intro u hS; obtain ⟨p0, p1, p2, p3, p4, p5, p6, p7⟩ := hS; go_simp
        refine held_take (i := 13) (v := .agg #[.int .i64 dn, .int .i64 dl, .int .i64 dcn]) rfl (by kernel_rfl) (by kernel_rfl) (by kernel_rfl) hPF (Or.inl ⟨by kernel_rfl, ?_⟩) hHeld ?_
        ·intro u hS; obtain ⟨p0, p1, p2, p3, p4, p5, p6, p7⟩ := hS; go_simp
        refine wpAnyH_ready (rs := [14]) (by kernel_rfl) (by simp) ?_
        refine AllReadyH.cons (i := 14) rfl (fun K hK => ?_) AllReadyH.nil
        go_simp
        go_at_call 246
        refine (hor _).mono ?_
        rintro e w_3 ⟨rfl, hb⟩
        have HB3 := Lib.hid (HB2.out.trans (hb.mono HB2.out.size))
        have HW3 := Lib.hid (HW2.out.trans (hb.mono HW2.out.size))
        clear hb
        have j0 := old_cell HB3.out HS.out q0
        have j1 := old_cell HB3.out HS.out q1
        have j2 := old_cell HW3.out HS1.out t0
        have j3 := old_cell HW3.out HS1.out t1
        have j4 := old_cell HW3.out HS1.out t2
        have j5 := old_cell HB3.out HBL.out e1
        have j6 := old_cell HB3.out HBL.out e2
        have j7 := old_cell HB3.out HBL.out e3
        refine hK.out _ _ ?_ (fun hHeld => ?_)
        ·exact ⟨j0, j1, j2, j3, j4, j5, j6, j7⟩
        clear hK K
        refine held_take (i := 15) (v := .bool true) rfl (by kernel_rfl) (by kernel_rfl) (by kernel_rfl) hPF (Or.inl ⟨by kernel_rfl, ?_⟩) hHeld ?_
        ·intro u hS; obtain ⟨p0, p1, p2, p3, p4, p5, p6, p7⟩ := hS; go_simp
        refine held_take (i := 16) (v := .bool true) rfl (by kernel_rfl) (by kernel_rfl) (by kernel_rfl) hPF (Or.inl ⟨by kernel_rfl, ?_⟩) hHeld ?_
        ·intro u hS; obtain ⟨p0, p1, p2, p3, p4, p5, p6, p7⟩ := hS; go_simp
        refine held_take (i := 17) (v := .bool true) rfl (by kernel_rfl) (by kernel_rfl) (by kernel_rfl) hPF (Or.inl ⟨by kernel_rfl, ?_⟩) hHeld ?_
        ·intro u hS; obtain ⟨p0, p1, p2, p3, p4, p5, p6, p7⟩ := hS; go_simp
        refine held_take (i := 18) (v := .bool true) rfl (by kernel_rfl) (by kernel_rfl) (by kernel_rfl) hPF (Or.inl ⟨by kernel_rfl, ?_⟩) hHeld ?_
        ·intro u hS; obtain ⟨p0, p1, p2, p3, p4, p5, p6, p7⟩ := hS; go_simp
        refine held_take (i := 19) (v := undef) rfl (by kernel_rfl) (by kernel_rfl) (by kernel_rfl) hPF (Or.inr ⟨by kernel_rfl, rfl⟩) hHeld ?_
        refine held_take (i := 20) (v := undef) rfl (by kernel_rfl) (by kernel_rfl) (by kernel_rfl) hPF (Or.inr ⟨by kernel_rfl, rfl⟩) hHeld ?_
        refine held_take (i := 21) (v := undef) rfl (by kernel_rfl) (by kernel_rfl) (by kernel_rfl) hPF (Or.inr ⟨by kernel_rfl, rfl⟩) hHeld ?_
        refine held_take (i := 22) (v := undef) rfl (by kernel_rfl) (by kernel_rfl) (by kernel_rfl) hPF (Or.inr ⟨by kernel_rfl, rfl⟩) hHeld ?_
        refine held_take (i := 23) (v := undef) rfl (by kernel_rfl) (by kernel_rfl) (by kernel_rfl) hPF (Or.inr ⟨by kernel_rfl, rfl⟩) hHeld ?_
        refine held_take (i := 24) (v := undef) rfl (by kernel_rfl) (by kernel_rfl) (by kernel_rfl) hPF (Or.inr ⟨by kernel_rfl, rfl⟩) hHeld ?_
        refine held_take (i := 25) (v := undef) rfl (by kernel_rfl) (by kernel_rfl) (by kernel_rfl) hPF (Or.inr ⟨by kernel_rfl, rfl⟩) hHeld ?_
        refine held_take (i := 26) (v := undef) rfl (by kernel_rfl) (by kernel_rfl) (by kernel_rfl) hPF (Or.inr ⟨by kernel_rfl, rfl⟩) hHeld ?_
        refine wpAnyH_ready (rs := [27]) (by kernel_rfl) (by simp) ?_
        refine AllReadyH.cons (i := 27) rfl (fun K hK => ?_) AllReadyH.nil
        go_simp
        refine hK.out _ _ ?_ (fun hHeld => ?_)
        ·exact ⟨j0, j1, j2, j3, j4, j5, j6, j7⟩
        clear hK K
        refine wpAnyH_done (by kernel_rfl) ?_ _
        go_wp2_with fail
        go_meet
        case rel => exact ⟨by rw [HOK.out], HB3⟩
       case true =>
        have g0 : ¬ 0 ≤ o := fun h => by have := hgo.1 h; cases this
        have g0' : o < 0 := by omega
        clear hgo
        have HOK : Hid ((!(true && decide (mk + 1 < dcn) && true)) = decide (dcn ≤ mk + 1)) := Lib.hid (by rw [HLK.out]; simp)
        refine held_start (S := fun u => u.cell? ⟨w.heap.size, 0, none⟩ = some (.slice A ms.length ac) ∧ u.cell? ⟨w.heap.size, 1, none⟩ = some (.slice (some ⟨b, off, none⟩) cl.length dc) ∧ u.cell? ⟨wr.heap.size, 0, none⟩ = some (.int .i64 dn) ∧ u.cell? ⟨wr.heap.size, 1, none⟩ = some (.int .i64 dl) ∧ u.cell? ⟨wr.heap.size, 2, none⟩ = some (.int .i64 dcn) ∧ u.cell? ⟨b, off + k' * 3, none⟩ = some (.int .i64 xn) ∧ u.cell? ⟨b, off + k' * 3 + 1, none⟩ = some (.int .i64 xl) ∧ u.cell? ⟨b, off + k' * 3 + 2, none⟩ = some (.int .i64 xc)) (by kernel_rfl) (by repeat (first | exact PF.body | refine PF.then_ ?_ | refine PF.inBlock ?_)) ?_ (fun hPF hHeld => ?_)
        ·exact ⟨s0, s1, s2, s3, s4, s5, s6, s7⟩
        refine held_take (i := 0) (v := .agg #[.int .i64 dn, .int .i64 dl, .int .i64 dcn]) rfl (by kernel_rfl) (by kernel_rfl) (by kernel_rfl) hPF (Or.inl ⟨by kernel_rfl, ?_⟩) hHeld ?_
        ·intro u hS; obtain ⟨p0, p1, p2, p3, p4, p5, p6, p7⟩ := hS; go_simp
        refine wpAnyH_ready (rs := [1]) (by kernel_rfl) (by simp) ?_
        refine AllReadyH.cons (i := 1) rfl (fun K hK => ?_) AllReadyH.nil
        go_simp
        go_at_call 245
        refine (hma _).mono ?_
        rintro e w_2 ⟨rfl, hb⟩
        have HB2 := Lib.hid (HB1.out.drew.trans (hb.mono HB1.out.drew.size))
        have HW2 := Lib.hid (HW1.out.drew.trans (hb.mono HW1.out.drew.size))
        clear hb
        have i0 := old_cell HB2.out HS.out q0
        have i1 := old_cell HB2.out HS.out q1
        have i2 := old_cell HW2.out HS1.out t0
        have i3 := old_cell HW2.out HS1.out t1
        have i4 := old_cell HW2.out HS1.out t2
        have i5 := old_cell HB2.out HBL.out e1
        have i6 := old_cell HB2.out HBL.out e2
        have i7 := old_cell HB2.out HBL.out e3
        refine hK.out _ _ ?_ (fun hHeld => ?_)
        ·exact ⟨i0, i1, i2, i3, i4, i5, i6, i7⟩
        clear hK K
        refine held_take (i := 2) (v := .bool false) rfl (by kernel_rfl) (by kernel_rfl) (by kernel_rfl) hPF (Or.inl ⟨by kernel_rfl, ?_⟩) hHeld ?_
        ·intro u hS; obtain ⟨p0, p1, p2, p3, p4, p5, p6, p7⟩ := hS; go_simp
        refine held_take (i := 3) (v := .bool false) rfl (by kernel_rfl) (by kernel_rfl) (by kernel_rfl) hPF (Or.inl ⟨by kernel_rfl, ?_⟩) hHeld ?_
        ·intro u hS; obtain ⟨p0, p1, p2, p3, p4, p5, p6, p7⟩ := hS; go_simp
        refine held_take (i := 4) (v := .int .i64 ((k' : Int) + 1)) rfl (by kernel_rfl) (by kernel_rfl) (by kernel_rfl) hPF (Or.inl ⟨by kernel_rfl, ?_⟩) hHeld ?_
        ·intro u hS; obtain ⟨p0, p1, p2, p3, p4, p5, p6, p7⟩ := hS; go_simp
        refine held_take (i := 5) (v := .bool true) rfl (by kernel_rfl) (by kernel_rfl) (by kernel_rfl) hPF (Or.inl ⟨by kernel_rfl, ?_⟩) hHeld ?_
        ·intro u hS; obtain ⟨p0, p1, p2, p3, p4, p5, p6, p7⟩ := hS; go_simp
        refine held_take (i := 6) (v := .bool true) rfl (by kernel_rfl) (by kernel_rfl) (by kernel_rfl) hPF (Or.inl ⟨by kernel_rfl, ?_⟩) hHeld ?_
        ·intro u hS; obtain ⟨p0, p1, p2, p3, p4, p5, p6, p7⟩ := hS; go_simp
        refine held_take (i := 7) (v := .pointer (some ⟨w.heap.size, 1, none⟩)) rfl (by kernel_rfl) (by kernel_rfl) (by kernel_rfl) hPF (Or.inl ⟨by kernel_rfl, ?_⟩) hHeld ?_
        ·intro u hS; obtain ⟨p0, p1, p2, p3, p4, p5, p6, p7⟩ := hS; go_simp
        refine held_take (i := 8) (v := .slice (some ⟨b, off, none⟩) cl.length dc) rfl (by kernel_rfl) (by kernel_rfl) (by kernel_rfl) hPF (Or.inl ⟨by kernel_rfl, ?_⟩) hHeld ?_
        ·intro u hS; obtain ⟨p0, p1, p2, p3, p4, p5, p6, p7⟩ := hS; go_simp
        refine held_take (i := 9) (v := .int .i64 ((k' : Int) + 1)) rfl (by kernel_rfl) (by kernel_rfl) (by kernel_rfl) hPF (Or.inl ⟨by kernel_rfl, ?_⟩) hHeld ?_
        ·intro u hS; obtain ⟨p0, p1, p2, p3, p4, p5, p6, p7⟩ := hS; go_simp
        refine held_take (i := 10) (v := .int .i64 (k' : Int)) rfl (by kernel_rfl) (by kernel_rfl) (by kernel_rfl) hPF (Or.inl ⟨by kernel_rfl, ?_⟩) hHeld ?_
        ·intro u hS; obtain ⟨p0, p1, p2, p3, p4, p5, p6, p7⟩ := hS; go_simp
        refine held_take (i := 11) (v := .pointer (some ⟨b, off + k' * 3, none⟩)) rfl (by kernel_rfl) (by kernel_rfl) (by kernel_rfl) hPF (Or.inl ⟨by kernel_rfl, ?_⟩) hHeld ?_
        ·intro u hS; obtain ⟨p0, p1, p2, p3, p4, p5, p6, p7⟩ := hS; go_simp
        refine held_take (i := 12) (v := .agg #[.int .i64 xn, .int .i64 xl, .int .i64 xc]) rfl (by kernel_rfl) (by kernel_rfl) (by kernel_rfl) hPF (Or.inl ⟨by kernel_rfl, ?_⟩) hHeld ?_
        ·intro u hS; obtain ⟨p0, p1, p2, p3, p4, p5, p6, p7⟩ := hS; go_simp
        refine held_take (i := 13) (v := .agg #[.int .i64 dn, .int .i64 dl, .int .i64 dcn]) rfl (by kernel_rfl) (by kernel_rfl) (by kernel_rfl) hPF (Or.inl ⟨by kernel_rfl, ?_⟩) hHeld ?_
        ·intro u hS; obtain ⟨p0, p1, p2, p3, p4, p5, p6, p7⟩ := hS; go_simp
        refine wpAnyH_ready (rs := [14]) (by kernel_rfl) (by simp) ?_
        refine AllReadyH.cons (i := 14) rfl (fun K hK => ?_) AllReadyH.nil
        go_simp
        go_at_call 246
        refine (hor _).mono ?_
        rintro e w_3 ⟨rfl, hb⟩
        have HB3 := Lib.hid (HB2.out.trans (hb.mono HB2.out.size))
        have HW3 := Lib.hid (HW2.out.trans (hb.mono HW2.out.size))
        clear hb
        have j0 := old_cell HB3.out HS.out q0
        have j1 := old_cell HB3.out HS.out q1
        have j2 := old_cell HW3.out HS1.out t0
        have j3 := old_cell HW3.out HS1.out t1
        have j4 := old_cell HW3.out HS1.out t2
        have j5 := old_cell HB3.out HBL.out e1
        have j6 := old_cell HB3.out HBL.out e2
        have j7 := old_cell HB3.out HBL.out e3
        refine hK.out _ _ ?_ (fun hHeld => ?_)
        ·exact ⟨j0, j1, j2, j3, j4, j5, j6, j7⟩
        clear hK K
        refine held_take (i := 15) (v := .bool false) rfl (by kernel_rfl) (by kernel_rfl) (by kernel_rfl) hPF (Or.inl ⟨by kernel_rfl, ?_⟩) hHeld ?_
        ·intro u hS; obtain ⟨p0, p1, p2, p3, p4, p5, p6, p7⟩ := hS; go_simp
        refine held_take (i := 16) (v := .bool false) rfl (by kernel_rfl) (by kernel_rfl) (by kernel_rfl) hPF (Or.inl ⟨by kernel_rfl, ?_⟩) hHeld ?_
        ·intro u hS; obtain ⟨p0, p1, p2, p3, p4, p5, p6, p7⟩ := hS; go_simp
        refine held_take (i := 17) (v := .bool false) rfl (by kernel_rfl) (by kernel_rfl) (by kernel_rfl) hPF (Or.inl ⟨by kernel_rfl, ?_⟩) hHeld ?_
        ·intro u hS; obtain ⟨p0, p1, p2, p3, p4, p5, p6, p7⟩ := hS; go_simp
        refine held_take (i := 18) (v := .bool false) rfl (by kernel_rfl) (by kernel_rfl) (by kernel_rfl) hPF (Or.inl ⟨by kernel_rfl, ?_⟩) hHeld ?_
        ·intro u hS; obtain ⟨p0, p1, p2, p3, p4, p5, p6, p7⟩ := hS; go_simp
        refine held_take (i := 19) (v := .pointer (some ⟨wr.heap.size, 2, none⟩)) rfl (by kernel_rfl) (by kernel_rfl) (by kernel_rfl) hPF (Or.inl ⟨by kernel_rfl, ?_⟩) hHeld ?_
        ·intro u hS; obtain ⟨p0, p1, p2, p3, p4, p5, p6, p7⟩ := hS; go_simp
        refine held_take (i := 20) (v := .int .i64 dcn) rfl (by kernel_rfl) (by kernel_rfl) (by kernel_rfl) hPF (Or.inl ⟨by kernel_rfl, ?_⟩) hHeld ?_
        ·intro u hS; obtain ⟨p0, p1, p2, p3, p4, p5, p6, p7⟩ := hS; go_simp
        refine held_take (i := 21) (v := .agg #[.slice A ms.length ac, .slice (some ⟨b, off, none⟩) cl.length dc]) rfl (by kernel_rfl) (by kernel_rfl) (by kernel_rfl) hPF (Or.inl ⟨by kernel_rfl, ?_⟩) hHeld ?_
        ·intro u hS; obtain ⟨p0, p1, p2, p3, p4, p5, p6, p7⟩ := hS; go_simp
        refine held_take (i := 22) (v := .agg #[.int .i64 dn, .int .i64 dl, .int .i64 dcn]) rfl (by kernel_rfl) (by kernel_rfl) (by kernel_rfl) hPF (Or.inl ⟨by kernel_rfl, ?_⟩) hHeld ?_
        ·intro u hS; obtain ⟨p0, p1, p2, p3, p4, p5, p6, p7⟩ := hS; go_simp
        refine wpAnyH_ready (rs := [23]) (by kernel_rfl) (by simp) ?_
        refine AllReadyH.cons (i := 23) rfl (fun K hK => ?_) AllReadyH.nil
        go_simp
        go_at_call 248
        refine (hac _).mono ?_
        rintro e w_4 ⟨rfl, hb⟩
        have HB4 := Lib.hid (HB3.out.trans (hb.mono HB3.out.size))
        have HW4 := Lib.hid (HW3.out.trans (hb.mono HW3.out.size))
        clear hb
        have x0 := old_cell HB4.out HS.out q0
        have x1 := old_cell HB4.out HS.out q1
        have x2 := old_cell HW4.out HS1.out t0
        have x3 := old_cell HW4.out HS1.out t1
        have x4 := old_cell HW4.out HS1.out t2
        have x5 := old_cell HB4.out HBL.out e1
        have x6 := old_cell HB4.out HBL.out e2
        have x7 := old_cell HB4.out HBL.out e3
        refine hK.out _ _ ?_ (fun hHeld => ?_)
        ·exact ⟨x0, x1, x2, x3, x4, x5, x6, x7⟩
        clear hK K
        refine wpAnyH_ready (rs := [24]) (by kernel_rfl) (by simp) ?_
        refine AllReadyH.cons (i := 24) rfl (fun K hK => ?_) AllReadyH.nil
        go_simp
        go_at_call 247
        refine (hmk _ (HM.out.below HB4.out (Nat.le_refl _))).mono ?_
        rintro e w_5 ⟨rfl, hb⟩
        have HB5 := Lib.hid (HB4.out.trans (hb.mono HB4.out.size))
        have HW5 := Lib.hid (HW4.out.trans (hb.mono HW4.out.size))
        clear hb
        have y0 := old_cell HB5.out HS.out q0
        have y1 := old_cell HB5.out HS.out q1
        have y2 := old_cell HW5.out HS1.out t0
        have y3 := old_cell HW5.out HS1.out t1
        have y4 := old_cell HW5.out HS1.out t2
        have y5 := old_cell HB5.out HBL.out e1
        have y6 := old_cell HB5.out HBL.out e2
        have y7 := old_cell HB5.out HBL.out e3
        refine hK.out _ _ ?_ (fun hHeld => ?_)
        ·exact ⟨y0, y1, y2, y3, y4, y5, y6, y7⟩
        clear hK K
        refine held_take (i := 25) (v := .int .i64 (mk + 1)) rfl (by kernel_rfl) (by kernel_rfl) (by kernel_rfl) hPF (Or.inl ⟨by kernel_rfl, ?_⟩) hHeld ?_
        ·intro u hS; obtain ⟨p0, p1, p2, p3, p4, p5, p6, p7⟩ := hS; go_simp
        refine held_take (i := 26) (v := .bool (decide (dcn ≤ mk + 1))) rfl (by kernel_rfl) (by kernel_rfl) (by kernel_rfl) hPF (Or.inl ⟨by kernel_rfl, ?_⟩) hHeld ?_
        ·intro u hS; obtain ⟨p0, p1, p2, p3, p4, p5, p6, p7⟩ := hS; go_simp
        refine wpAnyH_ready (rs := [27]) (by kernel_rfl) (by simp) ?_
        refine AllReadyH.cons (i := 27) rfl (fun K hK => ?_) AllReadyH.nil
        go_simp
        refine hK.out _ _ ?_ (fun hHeld => ?_)
        ·exact ⟨y0, y1, y2, y3, y4, y5, y6, y7⟩
        clear hK K
        refine wpAnyH_done (by kernel_rfl) ?_ _
        go_wp2_with fail
        go_meet
        case rel => exact ⟨by rw [HOK.out], HB5⟩
     case rest =>
     obtain ⟨rfl, HBx⟩ := hcut
     obtain ⟨ok, hok⟩ : ∃ x, (my && decide (mk + 1 < dcn) && bw) = x := ⟨_, rfl⟩
     rw [hok]
     have he := HE2.out
     rw [hok] at he
     cases ok
     case false =>
      have HV : Hid (canX ⟨ms, cl⟩ = false) := Lib.hid (by rw [HF.out, HMM.out, ← he]; rfl)
      clear he hok
      go_wp2_with fail
      go_ret
      exact ⟨by rw [HV.out]; rfl, HB.out.trans (HBx.out.mono HB.out.size)⟩
     case true =>
      have hm1 : my = true := by cases my <;> simp_all
      have HE3 : Hid (canCl ms (prv cl (k + 1)) (cl.drop (k + 1)) = canCl ms none cl) := Lib.hid (by rw [prv_succ hlt, HX.out, HRE.out, ← he]; simp)
      have HY2 : Hid (∀ i (h : i < cl.length), i < k + 1 → mayD cl[i] = true) := Lib.hid (fun i h hi => by
       rcases Nat.lt_or_ge i k with h' | h'
       ·exact HY.out i h h'
       ·obtain rfl : i = k := by omega
        rw [HX.out, HMY.out, hm1])
      clear he hok hm1
      go_wp2_with fail
      exact ⟨⟨k + 1, by omega, by go_num, HBx, HE3, HY2⟩, by simp [intOf]; omega⟩
    ·have hcc : canCl ms none cl = true := by have := HE.out; rw [List.drop_of_length_le (by omega)] at this; rw [← this]; cases prv cl k <;> rfl
     have HV : Hid (canX ⟨ms, cl⟩ = true) := Lib.hid (by rw [HF.out, HMM.out, hcc]; rfl)
     clear hcc
     go_wp2_with fail
     go_ret
     exact ⟨by rw [HV.out]; rfl, HB.out.trans (HBr.out.mono HB.out.size)⟩
end Go.Proofs.YtpdedfpacklnoaaGreatDoor
