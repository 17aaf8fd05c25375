/- An own row of lines: its last line, read and written. Contract of the document's Read of a cart: readL. -/
import Derived.Test.YtpdedfpacklnoaaGreatDoorTzFbP
import Derived.Test.YtpdedfpacklnoaaGreatDoorTzRfA
import Derived.BigQuiet
set_option maxRecDepth 100000
namespace Go.Proofs.YtpdedfpacklnoaaGreatDoor
open Go.RowKit Go.BL Go.Ct Go.Sl

theorem heap_set (w : World) (g i : Nat) (u : Value) {cur : Array Value} {e : TypeId} {fz : Nat × Nat} (h : w.heap[g]? = some (.cells cur e fz)) : (w.setCell ⟨g, i, none⟩ u).heap[g]? = some (.cells (cur.setIfInBounds i u) e fz) := by
 unfold World.setCell
 dsimp only
 rw [Array.getElem?_modify, if_pos rfl, h]
 rfl
theorem own_set {t k : Nat} {w : World} {B n g cap : Nat} {xs : List Value} (h : w.ownsRow B t k (.slice (some ⟨g, 0, none⟩) n cap) n xs) (i : Nat) (u : Value) : (w.setCell ⟨g, i, none⟩ u).ownsRow B t k (.slice (some ⟨g, 0, none⟩) n cap) n (xs.set i u) := by
 refine ⟨by rw [List.length_set]; exact h.1, ?_⟩
 rcases h.2 with ⟨h0, _⟩ | ⟨g', cap', cur, hv, hg, hh, h1, h2, h3, h4⟩
 ·cases h0
 ·injection hv with hv1 _ hv3
  injection hv1 with hv1
  injection hv1 with hv1
  subst hv1 hv3
  refine .inr ⟨g, cap, cur.setIfInBounds i u, rfl, hg, heap_set w g i u hh, h1, h2, by simpa using h3, ?_⟩
  rw [Array.toList_setIfInBounds, List.take_set, h4]
theorem own_last {w : World} {B : Nat} {v : Value} {o : List Ln} {x : Ln} (h : OwnS 54 3 lnC w B v (o ++ [x])) : ∃ g cap, v = .slice (some ⟨g, 0, none⟩) (o.length + 1) cap ∧ B ≤ g ∧ g < w.heap.size ∧
  (w.cell? ⟨g, o.length * 3, none⟩ = some (.string ⟨x.it.toArray⟩) ∧ w.cell? ⟨g, o.length * 3 + 1, none⟩ = some (.int .i64 x.q) ∧ w.cell? ⟨g, o.length * 3 + 2, none⟩ = some (.int .u64 (x.p : Int))) ∧
  (∀ i, w.frozen? ⟨g, i, none⟩ = false) ∧
  ∀ (q : Int) (p : Nat), OwnS 54 3 lnC ((w.setCell ⟨g, o.length * 3 + 1, none⟩ (.int .i64 q)).setCell ⟨g, o.length * 3 + 2, none⟩ (.int .u64 (p : Int))) B v (o ++ [⟨x.it, q, p⟩]) := by
 have hlen : (o ++ [x]).length = o.length + 1 := by simp
 rcases h.2 with ⟨_, h0⟩ | ⟨g, cap, cur, hv, hg, hh, h1, h2, h3, h4⟩
 ·rw [hlen] at h0; omega
 rw [hlen] at hv
 have hlt : g < w.heap.size := by
  rcases Nat.lt_or_ge g w.heap.size with h' | h'
  ·exact h'
  ·rw [Array.getElem?_eq_none h'] at hh; cases hh
 have hfo : (flat lnC o).length = o.length * 3 := flat_len lnC_len o
 have hfl : flat lnC (o ++ [x]) = flat lnC o ++ lnC x := by rw [flat_app]; simp [flat]
 have hcell : ∀ (j : Nat) (u : Value), (lnC x)[j]? = some u → w.cell? ⟨g, o.length * 3 + j, none⟩ = some u := fun j u hj => by
  have hc := World.ownsRow.cells h (g := g) (by rw [hv]; rfl) (o.length * 3 + j) u (by
   rw [hfl, List.getElem?_append_right (by omega), hfo, show o.length * 3 + j - o.length * 3 = j by omega]; exact hj)
  rw [add_none] at hc
  simpa using hc
 refine ⟨g, cap, hv, hg, hlt, ⟨hcell 0 _ rfl, hcell 1 _ rfl, hcell 2 _ rfl⟩, fun i => ?_, fun q p => ?_⟩
 ·unfold World.frozen?
  simp [hh]
 ·have h5 : w.ownsRow B 54 3 (.slice (some ⟨g, 0, none⟩) (o.length + 1) cap) (o.length + 1) (flat lnC (o ++ [x])) := by
   have := h; unfold OwnS at this; rw [hlen, hv] at this; exact this
  have h6 := own_set (own_set h5 (o.length * 3 + 1) (.int .i64 q)) (o.length * 3 + 2) (.int .u64 (p : Int))
  have e6 : ((flat lnC (o ++ [x])).set (o.length * 3 + 1) (.int .i64 q)).set (o.length * 3 + 2) (.int .u64 (p : Int)) = flat lnC (o ++ [⟨x.it, q, p⟩]) := by
   rw [hfl, List.set_append_right _ _ (by omega), List.set_append_right _ _ (by omega), hfo, show o.length * 3 + 1 - o.length * 3 = 1 by omega, show o.length * 3 + 2 - o.length * 3 = 2 by omega, flat_app]
   simp [flat, lnC]
  rw [e6] at h6
  unfold OwnS
  rw [show (o ++ [(⟨x.it, q, p⟩ : Ln)]).length = o.length + 1 by simp, hv]
  exact h6
theorem last_of {o : List Ln} (h : o ≠ []) : ∃ o' x, o = o' ++ [x] := ⟨o.dropLast, o.getLast h, (List.dropLast_concat_getLast h).symm⟩
end Go.Proofs.YtpdedfpacklnoaaGreatDoor
set_option maxRecDepth 100000
namespace Go.Proofs.YtpdedfpacklnoaaGreatDoor
open Go.RowKit Go.BL Go.Ct Go.Sl

theorem info54R : (Tryz.prog.info? 54).map (fun i => (i.zero, i.size, i.bytes)) = some (some (.agg #[.string ⟨#[]⟩, .int .i64 0, .int .u64 0]), 3, 32) := by kernel_rfl
theorem readS_new {o : List Ln} {x : Ln} {e : En} (h : x.it ≠ e.it) : readS (o ++ [x]) e = (o ++ [x]) ++ [lnE e] := by
 unfold readS; rw [List.getLast?_concat]; dsimp only; rw [if_pos h]
theorem readS_set {o : List Ln} {x : Ln} {e : En} (h : x.it = e.it) (h2 : x.q < e.q ∨ (e.q = x.q ∧ rankN x.p < rankN e.p)) : readS (o ++ [x]) e = o ++ [⟨x.it, e.q, e.p⟩] := by
 unfold readS; rw [List.getLast?_concat]; dsimp only; rw [if_neg (by simp [h]), if_pos h2, List.dropLast_concat, h]; rfl
theorem readS_keep {o : List Ln} {x : Ln} {e : En} (h : x.it = e.it) (h2 : ¬ (x.q < e.q ∨ (e.q = x.q ∧ rankN x.p < rankN e.p))) : readS (o ++ [x]) e = o ++ [x] := by
 unfold readS; rw [List.getLast?_concat]; dsimp only; rw [if_neg (by simp [h]), if_neg h2]
theorem quietL {P : Program} {f : FuncId} {args : Array Value} {w : World} {n : Nat} {v : Value} (h : Calls P f args (w.drewN n) fun e w' => e = .returned v ∧ w.drewN n = w') : Calls P f args (w.drewN n) fun e w'' => e = .returned v ∧ ∃ m, w'' = w.drewN m :=
 h.mono fun _ _ h => ⟨h.1, n, h.2.symm⟩
def ReaLR (l : List Ln) (w : World) (e : Ending) (w' : World) : Prop := Below w.heap.size w w' ∧ ∃ v', e = .returned v' ∧ Lns w' v' l
set_option maxHeartbeats 8000000 in
theorem readR_any (c : Ct) (v : Value) (w : World) (hc : CartR w v c) (hp : ∀ e ∈ c.es, e.p < 18446744073709551615) (hlen : c.es.length ≤ 64) : Calls Tryz.prog 20 #[v] w (ReaLR (readL c.es) w) := by
 obtain ⟨es, cx⟩ := c
 obtain ⟨ev, mv, cv, rfl, he, _, _⟩ := hc
 obtain ⟨A, cp, rfl⟩ := he.form
 dsimp only at he hp hlen ⊢
 obtain ⟨w0, hw0⟩ : ∃ w0, w.alloc (.cells #[.slice A es.length cp, mv, cv] 32) = w0 := ⟨_, rfl⟩
 have HB : Hid (Below w.heap.size w w0) := Lib.hid (by rw [← hw0]; exact (Below.refl _ _).alloc (Nat.le_refl _) _)
 have HS : Hid (w.heap.size < w0.heap.size) := Lib.hid (by rw [← hw0]; simp)
 obtain ⟨q0, _, _⟩ := tri_at w (.slice A es.length cp) mv cv 32 w.heap.size rfl
 rw [hw0] at q0
 have HE := Lib.hid (he.below HB.out (Nat.le_refl _))
 have HPR := Lib.hid hp
 clear he hp
 go_enter Tryz.func20, Tryz.ntmps20
 go_wp2_with fail
 clear hw0
 go_loopw [3, 10] (fun a j wr => ∃ k : Nat, k ≤ es.length ∧ j = .int .i64 (k : Int) ∧ Hid (Below w0.heap.size w0 wr) ∧ Hid (OwnS 54 3 lnC wr w0.heap.size a (readL (es.take k)))) (fun _ j _ => es.length - (intOf j).toNat)
 case atStart => exact ⟨0, by omega, rfl, Lib.hid (Below.refl _ _), Lib.hid (OwnS.nil _ _)⟩
 case round =>
  rename_i u3
  obtain ⟨k, hk, rfl, HR, HO⟩ := hrel
  by_cases hlt : k < es.length
  ·obtain ⟨b, off, rfl, hbl, hcc⟩ := ent_cells HE.out (by omega)
   obtain ⟨c0, c1, c2, c3, c4, c5⟩ := hcc k hlt
   have HRS := Lib.hid (read_take hlt)
   have HEP := Lib.hid (HPR.out _ (List.getElem_mem hlt))
   obtain ⟨⟨eit, ⟨dn, dl, dc⟩, eq, ep⟩, hx⟩ : ∃ x, es[k]'hlt = x := ⟨_, rfl⟩
   rw [hx] at c0 c1 c2 c3 c4 c5 HRS HEP
   dsimp only at c0 c1 c2 c3 c4 c5 HEP
   have d0 := old_cell HR.out hbl c0
   have d1 := old_cell HR.out hbl c1
   have d2 := old_cell HR.out hbl c2
   have d3 := old_cell HR.out hbl c3
   have d4 := old_cell HR.out hbl c4
   have d5 := old_cell HR.out hbl c5
   clear hcc c0 c1 c2 c3 c4 c5 hx hbl
   obtain ⟨w2, hw2⟩ : ∃ w2, wr.alloc (.cells #[.string ⟨eit.toArray⟩, .int .i64 dn, .int .i64 dl, .int .i64 dc, .int .i64 eq, .int .u64 (ep : Int)] 92) = w2 := ⟨_, rfl⟩
   have hb2 : Below wr.heap.size wr w2 := by rw [← hw2]; exact (Below.refl _ _).alloc (Nat.le_refl _) _
   have HB2 := Lib.hid (HR.out.trans (hb2.mono HR.out.size))
   have HO2 := Lib.hid (HO.out.below hb2 (Nat.le_refl _))
   have HBK : Hid (Bk w2 wr.heap.size [.string ⟨eit.toArray⟩, .int .i64 dn, .int .i64 dl, .int .i64 dc, .int .i64 eq, .int .u64 (ep : Int)]) := Lib.hid (by rw [← hw2]; exact Bk.new wr _ 92 rfl)
   have HSZ : Hid (wr.heap.size < w2.heap.size) := Lib.hid (by rw [← hw2]; simp)
   clear hb2
   go_upto_region 5 with fail
   clear hw2 d0 d1 d2 d3 d4 d5
   have x0 := (HBK.out 0 _ rfl).1
   have x4 := (HBK.out 4 _ rfl).1
   have x5 := (HBK.out 5 _ rfl).1
   obtain ⟨o, ho⟩ : ∃ o, readL (es.take k) = o := ⟨_, rfl⟩
   have HL : Hid (o.length ≤ 64) := Lib.hid (by rw [← ho]; have := read_len (es.take k); rw [List.length_take] at this; omega)
   rw [ho] at HRS HO HO2
   have HOO := Lib.hid ho
   clear ho
   by_cases ho0 : o = []
   ·subst ho0
    have hu3 : ∃ A c, u3 = .slice A 0 c := HO2.out.form
    obtain ⟨A3, c3, rfl⟩ := hu3
    go_upto_region 6 with fail
    go_quiet (fail)
    generalize hsv : Value.slice A3 0 c3 = sv at HO2 ⊢
    clear hsv
    have hb6 := (Below.refl w2.heap.size w2)
    have HB3 := Lib.hid ((H.below_drewN HB2.out nq).alloc (H.below_drewN HB2.out nq).size (.cells #[.string ⟨eit.toArray⟩, .int .i64 eq, .int .u64 (ep : Int)] 54))
    have HO3 := Lib.hid ((show OwnS 54 3 lnC (w2.drewN nq) _ _ _ from HO2.out).below ((Below.refl (w2.drewN nq).heap.size (w2.drewN nq)).alloc (Nat.le_refl _) (.cells #[.string ⟨eit.toArray⟩, .int .i64 eq, .int .u64 (ep : Int)] 54)) (Nat.le_refl _))
    have HN3 := Lib.hid (Bk.new (w2.drewN nq) (lnC ⟨eit, eq, ep⟩) 54 rfl)
    clear hb6
    go_wp2_with (at_builtin; refine wpList_appS rfl _ _ 51 rfl Tryz.underlying51 info54R rfl (by decide) lnC_len lnC_one (by decide) rfl HO3.out (g := w2.heap.size) (c := 1) (y := ⟨eit, eq, ep⟩) rfl (fun j u hj => (HN3.out j u hj).1) (by first | (have := HL.out; omega) | simp) HB3.out.size ?_; intro v' w4 hown' hb4 _; have HO5 := Lib.hid hown'; have HB5 := Lib.hid (HB3.out.trans hb4); clear hown' hb4)
    exact ⟨⟨k + 1, by omega, by go_num, HB5, Lib.hid (by rw [HRS.out]; exact HO5.out)⟩, by simp [intOf]; omega⟩
   ·obtain ⟨o', ⟨xit, xq, xp⟩, rfl⟩ := last_of ho0
    obtain ⟨g, cap, rfl, hg, hgs, ⟨y0, y1, y2⟩, hfr, hrow⟩ := own_last HO2.out
    obtain ⟨n, hn⟩ : ∃ n, o'.length = n := ⟨_, rfl⟩
    rw [hn] at y0 y1 y2 hrow
    dsimp only at y0 y1 y2 hrow
    have HN := Lib.hid hn
    have hn64 : n ≤ 64 := by have := HL.out; simp at this; omega
    have hgr : g < wr.heap.size := by
     obtain ⟨g', cap', h1, _, h2, _⟩ := own_last HO.out
     injection h1 with h1 _ _
     injection h1 with h1
     injection h1 with h1
     omega
    have HG := Lib.hid hg
    have HNE : Hid (g ≠ wr.heap.size) := Lib.hid (by omega)
    have HXP : Hid (xp < 18446744073709551615) := Lib.hid (by
     have := read_all (P := fun x => x.p < 18446744073709551615) (es.take k) (fun e he => HPR.out e (List.mem_of_mem_take he))
     rw [HOO.out] at this
     exact this ⟨xit, xq, xp⟩ (by simp))
    have HROW := Lib.hid hrow
    rw [hn] at HO2
    have f1 := hfr (n * 3 + 1)
    have f2 := hfr (n * 3 + 2)
    have hw : IntKind.i64.wrap (n : Int) = (n : Int) := by rw [IntKind.wrap_i64]; omega
    have hn0 : decide ((n : Int) < 0) = false := decide_eq_false (by omega)
    clear hrow hfr hn hg hgs hgr ho0
    rw [HN.out]
    go_upto_region 6 with fail
    by_cases hit : xit = eit
    case neg =>
     have g0 : (xit == eit) = false := beq_false_of_ne hit
     have g0' : (xit != eit) = true := bne_iff_ne.2 hit
     have HRS2 := Lib.hid (HRS.out.trans (readS_new hit))
     clear hit
     go_quiet (fail)
     generalize hsv : Value.slice (some ⟨g, 0, none⟩) (n + 1) cap = sv at HO2 ⊢
     clear hsv
     have hb6 := (Below.refl w2.heap.size w2)
     have HB3 := Lib.hid ((H.below_drewN HB2.out nq).alloc (H.below_drewN HB2.out nq).size (.cells #[.string ⟨eit.toArray⟩, .int .i64 eq, .int .u64 (ep : Int)] 54))
     have HO3 := Lib.hid ((show OwnS 54 3 lnC (w2.drewN nq) _ _ _ from HO2.out).below ((Below.refl (w2.drewN nq).heap.size (w2.drewN nq)).alloc (Nat.le_refl _) (.cells #[.string ⟨eit.toArray⟩, .int .i64 eq, .int .u64 (ep : Int)] 54)) (Nat.le_refl _))
     have HN3 := Lib.hid (Bk.new (w2.drewN nq) (lnC ⟨eit, eq, ep⟩) 54 rfl)
     clear hb6
     go_wp2_with (at_builtin; refine wpList_appS rfl _ _ 51 rfl Tryz.underlying51 info54R rfl (by decide) lnC_len lnC_one (by decide) rfl HO3.out (g := w2.heap.size) (c := 1) (y := ⟨eit, eq, ep⟩) rfl (fun j u hj => (HN3.out j u hj).1) (by first | (have := HL.out; omega) | simp) HB3.out.size ?_; intro v' w4 hown' hb4 _; have HO5 := Lib.hid hown'; have HB5 := Lib.hid (HB3.out.trans hb4); clear hown' hb4)
     exact ⟨⟨k + 1, by omega, by go_num, HB5, Lib.hid (by rw [HRS2.out]; exact HO5.out)⟩, by simp [intOf]; omega⟩
    subst hit
    go_quiet (fail)
    have z4 := x4
    have z5 := x5
    obtain ⟨w3, hw3⟩ : ∃ x, w2.drewN nq = x := ⟨_, rfl⟩
    have x4 : w3.cell? ⟨wr.heap.size, 4, none⟩ = some (.int .i64 eq) := by rw [← hw3]; exact z4
    have x5 : w3.cell? ⟨wr.heap.size, 5, none⟩ = some (.int .u64 (ep : Int)) := by rw [← hw3]; exact z5
    have a1 : w3.cell? ⟨g, n * 3 + 1, none⟩ = some (.int .i64 xq) := by rw [← hw3]; exact y1
    have a2 : w3.cell? ⟨g, n * 3 + 2, none⟩ = some (.int .u64 (xp : Int)) := by rw [← hw3]; exact y2
    have b1 : w3.frozen? ⟨g, n * 3 + 1, none⟩ = false := by rw [← hw3]; exact f1
    have b2 : w3.frozen? ⟨g, n * 3 + 2, none⟩ = false := by rw [← hw3]; exact f2
    have HB3 : Hid (Below w0.heap.size w0 w3) := Lib.hid (by rw [← hw3]; exact H.below_drewN HB2.out _)
    have HROW3 : Hid (∀ (q : Int) (p : Nat), OwnS 54 3 lnC ((w3.setCell ⟨g, n * 3 + 1, none⟩ (.int .i64 q)).setCell ⟨g, n * 3 + 2, none⟩ (.int .u64 (p : Int))) w0.heap.size (.slice (some ⟨g, 0, none⟩) (n + 1) cap) (o' ++ [⟨xit, q, p⟩])) := Lib.hid (fun q p => by
     rw [← hw3]
     exact HROW.out q p)
    have HO3 : Hid (OwnS 54 3 lnC w3 w0.heap.size (.slice (some ⟨g, 0, none⟩) (n + 1) cap) (o' ++ [⟨xit, xq, xp⟩])) := Lib.hid (by rw [← hw3]; exact HO2.out)
    rw [hw3]
    clear hw3 z4 z5 y0 y1 y2 f1 f2 x0 HROW
    have hre := fun w => rank_any ep HEP.out w
    have hrx := fun w => rank_any xp HXP.out w
    obtain ⟨re, hre'⟩ : ∃ x, rankN ep = x := ⟨_, rfl⟩
    obtain ⟨rx, hrx'⟩ : ∃ x, rankN xp = x := ⟨_, rfl⟩
    rw [hre'] at hre
    rw [hrx'] at hrx
    have HRE := Lib.hid hre'
    have HRX := Lib.hid hrx'
    clear hre' hrx'
    by_cases g1 : xq < eq
    case pos =>
     have HRS2 := Lib.hid (HRS.out.trans (readS_set (x := ⟨xit, xq, xp⟩) rfl (Or.inl g1)))
     have g1' : decide (xq < eq) = true := decide_eq_true g1
     go_upto_region 8 with fail
     go_quiet (fail)
     have z4 := x4
     have z5 := x5
     obtain ⟨w4, hw4⟩ : ∃ x, w3.drewN nq = x := ⟨_, rfl⟩
     have x4 : w4.cell? ⟨wr.heap.size, 4, none⟩ = some (.int .i64 eq) := by rw [← hw4]; exact z4
     have x5 : w4.cell? ⟨wr.heap.size, 5, none⟩ = some (.int .u64 (ep : Int)) := by rw [← hw4]; exact z5
     have y1 : w4.cell? ⟨g, n * 3 + 1, none⟩ = some (.int .i64 xq) := by rw [← hw4]; exact a1
     have y2 : w4.cell? ⟨g, n * 3 + 2, none⟩ = some (.int .u64 (xp : Int)) := by rw [← hw4]; exact a2
     have f1 : w4.frozen? ⟨g, n * 3 + 1, none⟩ = false := by rw [← hw4]; exact b1
     have f2 : w4.frozen? ⟨g, n * 3 + 2, none⟩ = false := by rw [← hw4]; exact b2
     have HBS : Hid (Below w0.heap.size w0 w4) := Lib.hid (by rw [← hw4]; exact (H.below_drewN HB3.out _))
     have HROW : Hid (∀ (q : Int) (p : Nat), OwnS 54 3 lnC ((w4.setCell ⟨g, n * 3 + 1, none⟩ (.int .i64 q)).drew.setCell ⟨g, n * 3 + 2, none⟩ (.int .u64 (p : Int))) w0.heap.size (.slice (some ⟨g, 0, none⟩) (n + 1) cap) (o' ++ [⟨xit, q, p⟩])) := Lib.hid (fun q p => by
      rw [← hw4]
      exact HROW3.out q p)
     rw [hw4]
     clear hw4 z4 z5 a1 a2 b1 b2 HROW3
     go_upto_region 9 with fail
     refine hstart (S := fun u => u.cell? ⟨wr.heap.size, 4, none⟩ = some (.int .i64 eq) ∧ u.cell? ⟨wr.heap.size, 5, none⟩ = some (.int .u64 (ep : Int))) (by kernel_rfl) (by repeat (first | exact PG.body | refine PG.then_ ?_ | refine PG.inBlock ?_)) ?_ (fun hPF hHeld => ?_)
     ·exact ⟨x4, x5⟩
     refine htake (i := 0) (v := .slice (some ⟨g, 0, none⟩) (n + 1) cap) rfl (by kernel_rfl) (by kernel_rfl) (by kernel_rfl) hPF (Or.inl ⟨by kernel_rfl, ?_⟩) hHeld ?_
     ·intro u hS; obtain ⟨p0, p1⟩ := hS; go_simp
     refine htake (i := 1) (v := .int .i64 (n : Int)) rfl (by kernel_rfl) (by kernel_rfl) (by kernel_rfl) hPF (Or.inl ⟨by kernel_rfl, ?_⟩) hHeld ?_
     ·intro u hS; obtain ⟨p0, p1⟩ := hS; go_simp
     refine htake (i := 2) (v := .slice (some ⟨g, 0, none⟩) (n + 1) cap) rfl (by kernel_rfl) (by kernel_rfl) (by kernel_rfl) hPF (Or.inl ⟨by kernel_rfl, ?_⟩) hHeld ?_
     ·intro u hS; obtain ⟨p0, p1⟩ := hS; go_simp
     refine htake (i := 3) (v := .int .i64 (n : Int)) rfl (by kernel_rfl) (by kernel_rfl) (by kernel_rfl) hPF (Or.inl ⟨by kernel_rfl, ?_⟩) hHeld ?_
     ·intro u hS; obtain ⟨p0, p1⟩ := hS; go_simp
     refine htake (i := 4) (v := .pointer (some ⟨wr.heap.size, 4, none⟩)) rfl (by kernel_rfl) (by kernel_rfl) (by kernel_rfl) hPF (Or.inl ⟨by kernel_rfl, ?_⟩) hHeld ?_
     ·intro u hS; obtain ⟨p0, p1⟩ := hS; go_simp
     refine htake (i := 5) (v := .int .i64 eq) rfl (by kernel_rfl) (by kernel_rfl) (by kernel_rfl) hPF (Or.inl ⟨by kernel_rfl, ?_⟩) hHeld ?_
     ·intro u hS; obtain ⟨p0, p1⟩ := hS; go_simp
     refine htake (i := 6) (v := .pointer (some ⟨wr.heap.size, 5, none⟩)) rfl (by kernel_rfl) (by kernel_rfl) (by kernel_rfl) hPF (Or.inl ⟨by kernel_rfl, ?_⟩) hHeld ?_
     ·intro u hS; obtain ⟨p0, p1⟩ := hS; go_simp
     refine htake (i := 7) (v := .int .u64 (ep : Int)) rfl (by kernel_rfl) (by kernel_rfl) (by kernel_rfl) hPF (Or.inl ⟨by kernel_rfl, ?_⟩) hHeld ?_
     ·intro u hS; obtain ⟨p0, p1⟩ := hS; go_simp
     refine htake (i := 8) (v := .pointer (some ⟨g, n * 3, none⟩)) rfl (by kernel_rfl) (by kernel_rfl) (by kernel_rfl) hPF (Or.inl ⟨by kernel_rfl, ?_⟩) hHeld ?_
     ·intro u hS; obtain ⟨p0, p1⟩ := hS; go_simp <;> (intro hh; exfalso; omega)
     refine htake (i := 9) (v := .pointer (some ⟨g, n * 3 + 1, none⟩)) rfl (by kernel_rfl) (by kernel_rfl) (by kernel_rfl) hPF (Or.inl ⟨by kernel_rfl, ?_⟩) hHeld ?_
     ·intro u hS; obtain ⟨p0, p1⟩ := hS; go_simp
     refine wpAnyH_ready (rs := [10]) (by kernel_rfl) (by simp) ?_
     refine AllReadyH.cons (i := 10) rfl (fun K hK => ?_) AllReadyH.nil
     go_simp
     have HSB1 := Lib.hid (HBS.out.setCell (p := ⟨g, n * 3 + 1, none⟩) HG.out (.int .i64 eq)).drew
     obtain ⟨ws1, hws1⟩ : ∃ x, (w4.setCell ⟨g, n * 3 + 1, none⟩ (.int .i64 eq)).drew = x := ⟨_, rfl⟩
     have c4 : ws1.cell? ⟨wr.heap.size, 4, none⟩ = some (.int .i64 eq) := by rw [← hws1]; exact (World.cell?_setCell_other _ _ _ _ (fun e => HNE.out (congrArg Addr.block e))).trans x4
     have c5 : ws1.cell? ⟨wr.heap.size, 5, none⟩ = some (.int .u64 (ep : Int)) := by rw [← hws1]; exact (World.cell?_setCell_other _ _ _ _ (fun e => HNE.out (congrArg Addr.block e))).trans x5
     have c2 : ws1.cell? ⟨g, n * 3 + 2, none⟩ = some (.int .u64 (xp : Int)) := by rw [← hws1]; exact (World.cell?_setCell_other _ _ _ _ (fun e => by injection e with _ e2; omega)).trans y2
     have f2' : ws1.frozen? ⟨g, n * 3 + 2, none⟩ = false := by rw [← hws1]; exact (World.frozen?_setCell w4 _ _ _).trans f2
     rw [hws1] at HSB1 ⊢
     have HWS := Lib.hid hws1
     clear hws1
     refine hK.out _ _ ?_ (fun hHeld => ?_)
     ·exact ⟨c4, c5⟩
     clear hK K
     refine htake (i := 11) (v := .pointer (some ⟨g, n * 3, none⟩)) rfl (by kernel_rfl) (by kernel_rfl) (by kernel_rfl) hPF (Or.inl ⟨by kernel_rfl, ?_⟩) hHeld ?_
     ·intro u hS; obtain ⟨p0, p1⟩ := hS; go_simp <;> (intro hh; exfalso; omega)
     refine htake (i := 12) (v := .pointer (some ⟨g, n * 3 + 2, none⟩)) rfl (by kernel_rfl) (by kernel_rfl) (by kernel_rfl) hPF (Or.inl ⟨by kernel_rfl, ?_⟩) hHeld ?_
     ·intro u hS; obtain ⟨p0, p1⟩ := hS; go_simp
     refine wpAnyH_ready (rs := [13]) (by kernel_rfl) (by simp) ?_
     refine AllReadyH.cons (i := 13) rfl (fun K hK => ?_) AllReadyH.nil
     go_simp
     have HSB2 := Lib.hid (HSB1.out.setCell (p := ⟨g, n * 3 + 2, none⟩) HG.out (.int .u64 (ep : Int)))
     have hrow := HROW.out eq ep
     rw [HWS.out] at hrow
     obtain ⟨ws2, hws2⟩ : ∃ x, ws1.setCell ⟨g, n * 3 + 2, none⟩ (.int .u64 (ep : Int)) = x := ⟨_, rfl⟩
     have k4 : ws2.cell? ⟨wr.heap.size, 4, none⟩ = some (.int .i64 eq) := by rw [← hws2]; exact (World.cell?_setCell_other _ _ _ _ (fun e => HNE.out (congrArg Addr.block e))).trans c4
     have k5 : ws2.cell? ⟨wr.heap.size, 5, none⟩ = some (.int .u64 (ep : Int)) := by rw [← hws2]; exact (World.cell?_setCell_other _ _ _ _ (fun e => HNE.out (congrArg Addr.block e))).trans c5
     rw [hws2] at HSB2 hrow ⊢
     have HRW := Lib.hid hrow
     clear hws2 hrow
     refine hK.out _ _ ?_ (fun hHeld => ?_)
     ·exact ⟨k4, k5⟩
     clear hK K
     refine wpAnyH_done (by kernel_rfl) ?_ _
     go_wp2_with fail
     exact ⟨⟨k + 1, by omega, by go_num, HSB2, Lib.hid (by rw [HRS2.out]; exact HRW.out)⟩, by simp [intOf]; omega⟩
    have g1' : decide (xq < eq) = false := decide_eq_false g1
    by_cases g2 : eq = xq
    case neg =>
     have HRS2 := Lib.hid (HRS.out.trans (readS_keep (x := ⟨xit, xq, xp⟩) rfl (by rintro (h | ⟨h, _⟩); exact g1 h; exact g2 h)))
     have g2' : (eq == xq) = false := beq_false_of_ne g2
     clear g2
     go_upto_region 8 with fail
     go_quiet (fail)
     go_wp2_with fail
     exact ⟨⟨k + 1, by omega, by go_num, Lib.hid (H.below_drewN HB3.out _), Lib.hid (by rw [HRS2.out]; exact HO3.out)⟩, by simp [intOf]; omega⟩
    subst g2
    by_cases g3 : rx < re
    case pos =>
     have HRS2 := Lib.hid (HRS.out.trans (readS_set (x := ⟨xit, eq, xp⟩) rfl (Or.inr ⟨rfl, by dsimp only; rw [HRX.out, HRE.out]; exact g3⟩)))
     have g3' : decide ((rx : Int) < (re : Int)) = true := decide_eq_true (by omega)
     have g3n : decide (rx < re) = true := decide_eq_true g3
     go_upto_region 8 with fail
     go_quiet (first | (go_at_call 53; exact quietL (hre _)) | (go_at_call 53; exact quietL (hrx _)))
     have z4 := x4
     have z5 := x5
     obtain ⟨w4, hw4⟩ : ∃ x, w3.drewN nq = x := ⟨_, rfl⟩
     have x4 : w4.cell? ⟨wr.heap.size, 4, none⟩ = some (.int .i64 eq) := by rw [← hw4]; exact z4
     have x5 : w4.cell? ⟨wr.heap.size, 5, none⟩ = some (.int .u64 (ep : Int)) := by rw [← hw4]; exact z5
     have y1 : w4.cell? ⟨g, n * 3 + 1, none⟩ = some (.int .i64 eq) := by rw [← hw4]; exact a1
     have y2 : w4.cell? ⟨g, n * 3 + 2, none⟩ = some (.int .u64 (xp : Int)) := by rw [← hw4]; exact a2
     have f1 : w4.frozen? ⟨g, n * 3 + 1, none⟩ = false := by rw [← hw4]; exact b1
     have f2 : w4.frozen? ⟨g, n * 3 + 2, none⟩ = false := by rw [← hw4]; exact b2
     have HBS : Hid (Below w0.heap.size w0 w4) := Lib.hid (by rw [← hw4]; exact (H.below_drewN HB3.out _))
     have HROW : Hid (∀ (q : Int) (p : Nat), OwnS 54 3 lnC ((w4.setCell ⟨g, n * 3 + 1, none⟩ (.int .i64 q)).drew.setCell ⟨g, n * 3 + 2, none⟩ (.int .u64 (p : Int))) w0.heap.size (.slice (some ⟨g, 0, none⟩) (n + 1) cap) (o' ++ [⟨xit, q, p⟩])) := Lib.hid (fun q p => by
      rw [← hw4]
      exact HROW3.out q p)
     rw [hw4]
     clear hw4 z4 z5 a1 a2 b1 b2 HROW3
     go_upto_region 9 with fail
     refine hstart (S := fun u => u.cell? ⟨wr.heap.size, 4, none⟩ = some (.int .i64 eq) ∧ u.cell? ⟨wr.heap.size, 5, none⟩ = some (.int .u64 (ep : Int))) (by kernel_rfl) (by repeat (first | exact PG.body | refine PG.then_ ?_ | refine PG.inBlock ?_)) ?_ (fun hPF hHeld => ?_)
     ·exact ⟨x4, x5⟩
     refine htake (i := 0) (v := .slice (some ⟨g, 0, none⟩) (n + 1) cap) rfl (by kernel_rfl) (by kernel_rfl) (by kernel_rfl) hPF (Or.inl ⟨by kernel_rfl, ?_⟩) hHeld ?_
     ·intro u hS; obtain ⟨p0, p1⟩ := hS; go_simp
     refine htake (i := 1) (v := .int .i64 (n : Int)) rfl (by kernel_rfl) (by kernel_rfl) (by kernel_rfl) hPF (Or.inl ⟨by kernel_rfl, ?_⟩) hHeld ?_
     ·intro u hS; obtain ⟨p0, p1⟩ := hS; go_simp
     refine htake (i := 2) (v := .slice (some ⟨g, 0, none⟩) (n + 1) cap) rfl (by kernel_rfl) (by kernel_rfl) (by kernel_rfl) hPF (Or.inl ⟨by kernel_rfl, ?_⟩) hHeld ?_
     ·intro u hS; obtain ⟨p0, p1⟩ := hS; go_simp
     refine htake (i := 3) (v := .int .i64 (n : Int)) rfl (by kernel_rfl) (by kernel_rfl) (by kernel_rfl) hPF (Or.inl ⟨by kernel_rfl, ?_⟩) hHeld ?_
     ·intro u hS; obtain ⟨p0, p1⟩ := hS; go_simp
     refine htake (i := 4) (v := .pointer (some ⟨wr.heap.size, 4, none⟩)) rfl (by kernel_rfl) (by kernel_rfl) (by kernel_rfl) hPF (Or.inl ⟨by kernel_rfl, ?_⟩) hHeld ?_
     ·intro u hS; obtain ⟨p0, p1⟩ := hS; go_simp
     refine htake (i := 5) (v := .int .i64 eq) rfl (by kernel_rfl) (by kernel_rfl) (by kernel_rfl) hPF (Or.inl ⟨by kernel_rfl, ?_⟩) hHeld ?_
     ·intro u hS; obtain ⟨p0, p1⟩ := hS; go_simp
     refine htake (i := 6) (v := .pointer (some ⟨wr.heap.size, 5, none⟩)) rfl (by kernel_rfl) (by kernel_rfl) (by kernel_rfl) hPF (Or.inl ⟨by kernel_rfl, ?_⟩) hHeld ?_
     ·intro u hS; obtain ⟨p0, p1⟩ := hS; go_simp
     refine htake (i := 7) (v := .int .u64 (ep : Int)) rfl (by kernel_rfl) (by kernel_rfl) (by kernel_rfl) hPF (Or.inl ⟨by kernel_rfl, ?_⟩) hHeld ?_
     ·intro u hS; obtain ⟨p0, p1⟩ := hS; go_simp
     refine htake (i := 8) (v := .pointer (some ⟨g, n * 3, none⟩)) rfl (by kernel_rfl) (by kernel_rfl) (by kernel_rfl) hPF (Or.inl ⟨by kernel_rfl, ?_⟩) hHeld ?_
     ·intro u hS; obtain ⟨p0, p1⟩ := hS; go_simp <;> (intro hh; exfalso; omega)
     refine htake (i := 9) (v := .pointer (some ⟨g, n * 3 + 1, none⟩)) rfl (by kernel_rfl) (by kernel_rfl) (by kernel_rfl) hPF (Or.inl ⟨by kernel_rfl, ?_⟩) hHeld ?_
     ·intro u hS; obtain ⟨p0, p1⟩ := hS; go_simp
     refine wpAnyH_ready (rs := [10]) (by kernel_rfl) (by simp) ?_
     refine AllReadyH.cons (i := 10) rfl (fun K hK => ?_) AllReadyH.nil
     go_simp
     have HSB1 := Lib.hid (HBS.out.setCell (p := ⟨g, n * 3 + 1, none⟩) HG.out (.int .i64 eq)).drew
     obtain ⟨ws1, hws1⟩ : ∃ x, (w4.setCell ⟨g, n * 3 + 1, none⟩ (.int .i64 eq)).drew = x := ⟨_, rfl⟩
     have c4 : ws1.cell? ⟨wr.heap.size, 4, none⟩ = some (.int .i64 eq) := by rw [← hws1]; exact (World.cell?_setCell_other _ _ _ _ (fun e => HNE.out (congrArg Addr.block e))).trans x4
     have c5 : ws1.cell? ⟨wr.heap.size, 5, none⟩ = some (.int .u64 (ep : Int)) := by rw [← hws1]; exact (World.cell?_setCell_other _ _ _ _ (fun e => HNE.out (congrArg Addr.block e))).trans x5
     have c2 : ws1.cell? ⟨g, n * 3 + 2, none⟩ = some (.int .u64 (xp : Int)) := by rw [← hws1]; exact (World.cell?_setCell_other _ _ _ _ (fun e => by injection e with _ e2; omega)).trans y2
     have f2' : ws1.frozen? ⟨g, n * 3 + 2, none⟩ = false := by rw [← hws1]; exact (World.frozen?_setCell w4 _ _ _).trans f2
     rw [hws1] at HSB1 ⊢
     have HWS := Lib.hid hws1
     clear hws1
     refine hK.out _ _ ?_ (fun hHeld => ?_)
     ·exact ⟨c4, c5⟩
     clear hK K
     refine htake (i := 11) (v := .pointer (some ⟨g, n * 3, none⟩)) rfl (by kernel_rfl) (by kernel_rfl) (by kernel_rfl) hPF (Or.inl ⟨by kernel_rfl, ?_⟩) hHeld ?_
     ·intro u hS; obtain ⟨p0, p1⟩ := hS; go_simp <;> (intro hh; exfalso; omega)
     refine htake (i := 12) (v := .pointer (some ⟨g, n * 3 + 2, none⟩)) rfl (by kernel_rfl) (by kernel_rfl) (by kernel_rfl) hPF (Or.inl ⟨by kernel_rfl, ?_⟩) hHeld ?_
     ·intro u hS; obtain ⟨p0, p1⟩ := hS; go_simp
     refine wpAnyH_ready (rs := [13]) (by kernel_rfl) (by simp) ?_
     refine AllReadyH.cons (i := 13) rfl (fun K hK => ?_) AllReadyH.nil
     go_simp
     have HSB2 := Lib.hid (HSB1.out.setCell (p := ⟨g, n * 3 + 2, none⟩) HG.out (.int .u64 (ep : Int)))
     have hrow := HROW.out eq ep
     rw [HWS.out] at hrow
     obtain ⟨ws2, hws2⟩ : ∃ x, ws1.setCell ⟨g, n * 3 + 2, none⟩ (.int .u64 (ep : Int)) = x := ⟨_, rfl⟩
     have k4 : ws2.cell? ⟨wr.heap.size, 4, none⟩ = some (.int .i64 eq) := by rw [← hws2]; exact (World.cell?_setCell_other _ _ _ _ (fun e => HNE.out (congrArg Addr.block e))).trans c4
     have k5 : ws2.cell? ⟨wr.heap.size, 5, none⟩ = some (.int .u64 (ep : Int)) := by rw [← hws2]; exact (World.cell?_setCell_other _ _ _ _ (fun e => HNE.out (congrArg Addr.block e))).trans c5
     rw [hws2] at HSB2 hrow ⊢
     have HRW := Lib.hid hrow
     clear hws2 hrow
     refine hK.out _ _ ?_ (fun hHeld => ?_)
     ·exact ⟨k4, k5⟩
     clear hK K
     refine wpAnyH_done (by kernel_rfl) ?_ _
     go_wp2_with fail
     exact ⟨⟨k + 1, by omega, by go_num, HSB2, Lib.hid (by rw [HRS2.out]; exact HRW.out)⟩, by simp [intOf]; omega⟩
    case neg =>
     have HRS2 := Lib.hid (HRS.out.trans (readS_keep (x := ⟨xit, eq, xp⟩) rfl (by rintro (h | ⟨_, h⟩); exact g1 h; (dsimp only at h; rw [HRX.out, HRE.out] at h; exact g3 h))))
     have g3' : decide ((rx : Int) < (re : Int)) = false := decide_eq_false (by omega)
     have g3n : decide (rx < re) = false := decide_eq_false g3
     go_upto_region 8 with fail
     go_quiet (first | (go_at_call 53; exact quietL (hre _)) | (go_at_call 53; exact quietL (hrx _)))
     go_wp2_with fail
     exact ⟨⟨k + 1, by omega, by go_num, Lib.hid (H.below_drewN HB3.out _), Lib.hid (by rw [HRS2.out]; exact HO3.out)⟩, by simp [intOf]; omega⟩
  ·go_wp2_with fail
   go_ret
   exact ⟨HB.out.trans (HR.out.mono HB.out.size), _, rfl, by
    have := HO.out.sl lnC_len (by have := read_len (es.take k); rw [List.length_take] at this; omega)
    rwa [List.take_of_length_le (by omega)] at this⟩
end Go.Proofs.YtpdedfpacklnoaaGreatDoor
