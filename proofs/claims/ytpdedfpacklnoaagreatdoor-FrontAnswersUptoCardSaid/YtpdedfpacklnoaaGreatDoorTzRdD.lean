/- Contract of ormap.Read: readL. -/
import Derived.Test.YtpdedfpacklnoaaGreatDoorTzRdA
import Derived.TacticsInMore
import Derived.LoopNIn
import Derived.LoopIn
import Derived.RegionIn
import Derived.Shelf.RegionOpen
import Derived.Sort.QuietIn
import Derived.Sort.CutIn
set_option maxRecDepth 100000
namespace Go.Proofs.YtpdedfpacklnoaaGreatDoor
open Go.RowKit Go.BL Go.Ct Go.Sl
attribute [local go_sem] Oper.semAt_some

theorem foldl_p {P : Nat → Prop} : ∀ (r : List En) (x : Ln), P x.p → (∀ e ∈ r, P e.p) → P (r.foldl stepLn x).p
 | [], _, h, _ => h
 | e :: r, x, h, hr => by
  rw [List.foldl_cons]
  refine foldl_p r _ ?_ (fun y hy => hr y (List.mem_cons_of_mem _ hy))
  unfold stepLn
  split
  ·exact hr e (List.mem_cons_self ..)
  ·exact h
theorem fold_next {r : List En} {x : Ln} {k : Nat} (h : k < r.length) : (r.take (k + 1)).foldl stepLn x = stepLn ((r.take k).foldl stepLn x) r[k] := by
 rw [List.take_succ_eq_append_getElem h, foldl_snoc]
theorem far_cellR {w : World} {g b i j : Nat} (h : g ≠ b) (u : Value) : (w.setCell ⟨b, j, none⟩ u).cell? ⟨g, i, none⟩ = w.cell? ⟨g, i, none⟩ := World.cell?_of_block (a := ⟨g, i, none⟩) (Below.heap_setCell w ⟨b, j, none⟩ u g h)
theorem from_one (blk off n c : Nat) (hl : 1 ≤ n) (hc : n ≤ c) :
  ∃ A2, (0 < n - 1 → A2 = some ⟨blk, off + 1 * 6, none⟩) ∧ ∀ w, (Instr.slice 26 (.slice (some ⟨blk, off, none⟩) n c) (some (.int .i64 1)) none none).run Tryz.prog w = .ok (.slice A2 (n - 1) (c - 1)) w := from_ent blk off n c 1 hl hc
theorem info54D : (Tryz.prog.info? 54).map (fun i => (i.zero, i.size, i.bytes)) = some (some (.agg #[.string ⟨#[]⟩, .int .i64 0, .int .u64 0]), 3, 32) := by kernel_rfl
def ReaLA (l : List Ln) (w : World) (e : Ending) (w' : World) : Prop := Below w.heap.size w w' ∧ ∃ v', e = .returned v' ∧ Lns w' v' l
set_option maxHeartbeats 16000000 in
theorem read_any (es : List En) (ev mv cv : Value) (w : World) (he : Ents w ev es) (hcp : ∀ A n c, ev = .slice A n c → n ≤ c) (hp : ∀ e ∈ es, isPrice e.p = true) (hlen : es.length ≤ 64) : Calls Tryz.prog 70 #[.agg #[ev, mv, cv]] w (ReaLA (readL es) w) := by
 obtain ⟨A, c, rfl⟩ := he.form
 have hcap := hcp _ _ _ rfl
 have HPR := Lib.hid hp
 have HLE := Lib.hid hlen
 clear hcp hp
 refine (callsIn_wide (n := 3)).1 ?_
 refine callsIn_of_wp_marks Tryz.func70 rfl (by trivial) ?_ rfl
 simp only [Tryz.ntmps70, List.size_toArray, List.length_cons, List.length_nil, Nat.reduceAdd, Nat.reduceSub, Array.replicate_succ, Array.replicate_zero, List.push_toArray, List.append_toArray, List.nil_append, List.cons_append]
 obtain ⟨w1, hw1⟩ : ∃ y, ((w.alloc (.cells #[.slice A es.length c, mv, cv] 32)).alloc (.cells #[.slice none 0 0] 51)).alloc (.cells #[.slice A es.length c] 26) = y := ⟨_, rfl⟩
 have HW1 := Lib.hid hw1
 obtain ⟨q0, q1, q2⟩ := tri_at w (.slice A es.length c) mv cv 32 w.heap.size rfl
 have q0' : ((w.alloc (.cells #[.slice A es.length c, mv, cv] 32)).alloc (.cells #[.slice none 0 0] 51)).cell? ⟨w.heap.size, 0, none⟩ = some (.slice A es.length c) := old_cell ((Below.refl _ _).alloc (Nat.le_refl _) _) (by simp) q0
 clear hw1
 gi_wp2_with (refine ⟨trivial, (items_get _ _ _ _).mono ?_⟩; rintro e w' ⟨rfl, rfl⟩)
 rw [HW1.out]
 have hw1 := HW1.out
 have hs1 : w1.heap.size = w.heap.size + 3 := by rw [← hw1]; simp
 have hb1 : Below w.heap.size w w1 := by rw [← hw1]; exact (((Below.refl _ _).alloc (Nat.le_refl _) _).alloc (by simp) _).alloc (by simp; omega) _
 have k1 : w1.cell? ⟨w.heap.size + 1, 0, none⟩ = some (.slice none 0 0) ∧ w1.frozen? ⟨w.heap.size + 1, 0, none⟩ = false := by
  rw [← hw1]
  exact ((Bk.new (w.alloc (.cells #[.slice A es.length c, mv, cv] 32)) [.slice none 0 0] 51 (B := w.heap.size + 1) (by simp)).alloc _ (by simp)) 0 _ rfl
 have k2 : w1.cell? ⟨w.heap.size + 2, 0, none⟩ = some (.slice A es.length c) ∧ w1.frozen? ⟨w.heap.size + 2, 0, none⟩ = false := by
  rw [← hw1]
  exact (Bk.new _ [.slice A es.length c] 26 (B := w.heap.size + 2) (by simp)) 0 _ rfl
 clear hw1 HW1 q0 q1 q2 q0'
 refine items_range (w := w) (es := es) (A := A) (c := c) rfl rfl he hlen hcap hs1 hb1 k1.1 k1.2 k2.1 k2.2 ?a1 ?assign ?body ?done
 case assign =>
  intro l s v W K hK
  gi_wp2
  exact hK
 case body =>
  intro l L p s e r q A m cc W h1 h2 h3 h4 h5 h6 h7 hm
  have HM := Lib.hid hm
  have HRUN : Hid (readL (p ++ e :: r) = readL p ++ [r.foldl stepLn (lnE e)]) := Lib.hid (read_run h3 h4)
  have HMEM : Hid (∀ y ∈ e :: r, isPrice y.p = true) := Lib.hid (fun y hy => HPR.out y (by rw [← h2]; exact List.mem_append_left _ (List.mem_append_right _ hy)))
  have HLEN : Hid ((readL p).length ≤ 64) := Lib.hid (by have k1 := read_len p; have k2 := congrArg List.length h2; simp only [List.length_append, List.length_cons] at k2; omega)
  have HEIT : Hid (e.it = s) := Lib.hid h1
  obtain ⟨b, off, rfl, hbl, hcc⟩ := ent_cells (l := e :: r) (by rw [h5] at h7; exact h7) (by simp)
  obtain ⟨A2, hA2, hsl⟩ := from_one b off m cc (by omega) h6
  have HER : Hid (Ents w (.slice A2 r.length (cc - 1)) r) := Lib.hid (by
   have hx := ents_drop (l := e :: r) (by rw [h5] at h7; exact h7) 1 (by simp) (A2 := A2) (c2 := cc - 1) (fun hh => hA2 (by simp at hh; omega))
   simpa using hx)
  have hRm : m - 1 = r.length := by omega
  rw [hRm] at hsl
  obtain ⟨c0, -, -, -, c4, c5⟩ := hcc 0 (by simp)
  dsimp only [List.getElem_cons_zero] at c0 c4 c5
  obtain ⟨⟨eit, ⟨en, el, ec⟩, eq, ep⟩, hee⟩ : ∃ x, e = x := ⟨_, rfl⟩
  rw [hee] at c0 c4 c5 HRUN HMEM HEIT
  dsimp only at c0 c4 c5 HEIT
  have c4 := old_cell HM.out.below hbl c4
  have c5 := old_cell HM.out.below hbl c5
  simp only [Nat.zero_mul, Nat.add_zero] at c4 c5
  have hm1 : 1 ≤ m := by omega
  have hmc : m ≤ cc := h6
  obtain ⟨R, hR⟩ : ∃ R, r.length = R := ⟨_, rfl⟩
  have HR : Hid (r.length = R) := Lib.hid hR
  rw [hR] at hsl HER
  have hR64 : R ≤ 64 := by rw [← hR]; have := HLE.out; rw [← h2] at this; simp only [List.length_append, List.length_cons] at this; omega
  have HSZ := Lib.hid HM.out.size
  have HE2 : Hid (∃ r' : List En, e :: r = (⟨eit, ⟨en, el, ec⟩, eq, ep⟩ : En) :: r') := Lib.hid ⟨r, by rw [hee]⟩
  have HEE := Lib.hid hee
  have hbW : b < W.heap.size := by have := HM.out.size; omega
  clear hm h1 h2 h3 h4 h5 h7 hcc hA2 hRm hR c0 hee
  gi_upto_region 5 with fail
  refine hstartR (S := fun u => u.cell? ⟨b, off + 4, none⟩ = some (.int .i64 eq) ∧ u.cell? ⟨b, off + 5, none⟩ = some (.int .u64 (ep : Int))) (by kernel_rfl) (by kernel_rfl) ?_ ?_ ?_ (fun hPF hHeld => ?_)
  ·rintro ⟨a, w, h⟩; exact absurd h.1 (by simp)
  ·exact fun _ _ _ _ _ h => h
  ·exact ⟨c4, c5⟩
  refine htake (i := 0) (v := .string ⟨s.toArray⟩) rfl (by kernel_rfl) (by kernel_rfl) (by kernel_rfl) hPF (Or.inl ⟨by kernel_rfl, ?_⟩) hHeld ?_
  ·intro u hS; obtain ⟨p0, p1⟩ := hS; go_simp
  refine htake (i := 1) (v := .slice (some ⟨b, off, none⟩) m cc) rfl (by kernel_rfl) (by kernel_rfl) (by kernel_rfl) hPF (Or.inl ⟨by kernel_rfl, ?_⟩) hHeld ?_
  ·intro u hS; obtain ⟨p0, p1⟩ := hS; go_simp
  refine htake (i := 2) (v := .pointer (some ⟨b, off, none⟩)) rfl (by kernel_rfl) (by kernel_rfl) (by kernel_rfl) hPF (Or.inl ⟨by kernel_rfl, ?_⟩) hHeld ?_
  ·intro u hS; obtain ⟨p0, p1⟩ := hS; go_simp <;> (intro hh; exfalso; omega)
  refine htake (i := 3) (v := .pointer (some ⟨b, off + 4, none⟩)) rfl (by kernel_rfl) (by kernel_rfl) (by kernel_rfl) hPF (Or.inl ⟨by kernel_rfl, ?_⟩) hHeld ?_
  ·intro u hS; obtain ⟨p0, p1⟩ := hS; go_simp
  refine htake (i := 4) (v := .int .i64 eq) rfl (by kernel_rfl) (by kernel_rfl) (by kernel_rfl) hPF (Or.inl ⟨by kernel_rfl, ?_⟩) hHeld ?_
  ·intro u hS; obtain ⟨p0, p1⟩ := hS; go_simp
  refine htake (i := 5) (v := .slice (some ⟨b, off, none⟩) m cc) rfl (by kernel_rfl) (by kernel_rfl) (by kernel_rfl) hPF (Or.inl ⟨by kernel_rfl, ?_⟩) hHeld ?_
  ·intro u hS; obtain ⟨p0, p1⟩ := hS; go_simp
  refine htake (i := 6) (v := .pointer (some ⟨b, off, none⟩)) rfl (by kernel_rfl) (by kernel_rfl) (by kernel_rfl) hPF (Or.inl ⟨by kernel_rfl, ?_⟩) hHeld ?_
  ·intro u hS; obtain ⟨p0, p1⟩ := hS; go_simp <;> (intro hh; exfalso; omega)
  refine htake (i := 7) (v := .pointer (some ⟨b, off + 5, none⟩)) rfl (by kernel_rfl) (by kernel_rfl) (by kernel_rfl) hPF (Or.inl ⟨by kernel_rfl, ?_⟩) hHeld ?_
  ·intro u hS; obtain ⟨p0, p1⟩ := hS; go_simp
  refine htake (i := 8) (v := .int .u64 (ep : Int)) rfl (by kernel_rfl) (by kernel_rfl) (by kernel_rfl) hPF (Or.inl ⟨by kernel_rfl, ?_⟩) hHeld ?_
  ·intro u hS; obtain ⟨p0, p1⟩ := hS; go_simp
  refine htake (i := 9) (v := .agg #[.string ⟨s.toArray⟩, .int .i64 eq, .int .u64 (ep : Int)]) rfl (by kernel_rfl) (by kernel_rfl) (by kernel_rfl) hPF (Or.inl ⟨by kernel_rfl, ?_⟩) hHeld ?_
  ·intro u hS; obtain ⟨p0, p1⟩ := hS; go_simp
  refine wpAnyH_ready (rs := [10]) (by kernel_rfl) (by simp) ?_
  refine AllReadyH.cons (i := 10) rfl (fun K hK => ?_) AllReadyH.nil
  go_simp
  refine hK.out _ _ ?_ (fun hHeld => ?_)
  ·exact ⟨old_cell ((Below.refl _ _).alloc (Nat.le_refl _) _) hbW c4, old_cell ((Below.refl _ _).alloc (Nat.le_refl _) _) hbW c5⟩
  clear hK K
  refine wpAnyH_ready (rs := [11]) (by kernel_rfl) (by simp) ?_
  refine AllReadyH.cons (i := 11) rfl (fun K hK => ?_) AllReadyH.nil
  go_simp
  refine hK.out _ _ ?_ (fun hHeld => ?_)
  ·exact ⟨old_cell ((Below.refl _ _).alloc (Nat.le_refl _) _) hbW c4, old_cell ((Below.refl _ _).alloc (Nat.le_refl _) _) hbW c5⟩
  clear hK K
  refine wpAnyH_done (by kernel_rfl) ?_ _
  obtain ⟨w0, hw0⟩ : ∃ y, (W.alloc (.cells #[.string ⟨s.toArray⟩, .int .i64 eq, .int .u64 (ep : Int)] 54)).drew = y := ⟨_, rfl⟩
  obtain ⟨X, hX⟩ : ∃ x, W.heap.size = x := ⟨_, rfl⟩
  have HX0 : Hid (Bk w0 X (lnC (([] : List En).foldl stepLn (lnE (⟨eit, ⟨en, el, ec⟩, eq, ep⟩ : En))))) := Lib.hid (by rw [← hw0, ← hX, ← HEIT.out]; exact Bk.new W (lnC ⟨eit, eq, ep⟩) 54 rfl)
  have HB0 : Hid (Below X W w0) := Lib.hid (by rw [← hw0, ← hX]; exact ((Below.refl _ _).alloc (Nat.le_refl _) _).drew)
  have HS0 : Hid (X < w0.heap.size) := Lib.hid (by rw [← hw0, ← hX]; show W.heap.size < (W.alloc _).heap.size; simp)
  have HXW := Lib.hid hX
  rw [hw0, hX]
  clear hw0 hX c4 c5 hbW
  gi_wp2
  gi_loopw [27] (fun v wq => ∃ k : Nat, v = .int .i64 (k : Int) ∧ k ≤ R ∧ Hid (Below X W wq) ∧ Hid (Bk wq X (lnC ((r.take k).foldl stepLn (lnE (⟨eit, ⟨en, el, ec⟩, eq, ep⟩ : En))))) ∧ Hid (X < wq.heap.size)) (fun v _ => R - (intOf v).toNat)
  case atStart => exact ⟨0, rfl, by omega, HB0, HX0, HS0⟩
  case round =>
   obtain ⟨k, rfl, hkR, HWQ, HBK, HSQ⟩ := hrel
   have HBW : Hid (Below w.heap.size w wr) := Lib.hid (HM.out.below.trans (HWQ.out.mono (by rw [← HXW.out]; exact HM.out.below.size)))
   obtain ⟨⟨xit, xq, xp⟩, hx⟩ : ∃ x, (r.take k).foldl stepLn (lnE (⟨eit, ⟨en, el, ec⟩, eq, ep⟩ : En)) = x := ⟨_, rfl⟩
   rw [hx] at HBK
   have HXX := Lib.hid hx
   have HXP : Hid (isPrice xp = true) := Lib.hid (by
    have h := foldl_p (P := fun p => isPrice p = true) (r.take k) (lnE (⟨eit, ⟨en, el, ec⟩, eq, ep⟩ : En)) (HMEM.out _ (List.mem_cons_self ..)) (fun y hy => HMEM.out _ (List.mem_cons_of_mem _ (List.mem_of_mem_take hy)))
    rw [hx] at h; exact h)
   clear hx
   have a0 := (HBK.out 0 _ rfl).1
   have a1 := (HBK.out 1 _ rfl).1
   have a2 := (HBK.out 2 _ rfl).1
   have b1 := (HBK.out 1 _ rfl).2
   have b2 := (HBK.out 2 _ rfl).2
   dsimp only at a0 a1 a2
   by_cases hlt : k < R
   ·obtain ⟨b2', off2, rfl, hbl2, hcc2⟩ := ent_cells (l := r) (by rw [HR.out]; exact HER.out) (by rw [HR.out]; omega)
    obtain ⟨d0, d1, d2, d3, d4, d5⟩ := hcc2 k (by rw [HR.out]; exact hlt)
    have HYP : Hid (isPrice (r[k]'(by rw [HR.out]; exact hlt)).p = true) := Lib.hid (HMEM.out _ (List.mem_cons_of_mem _ (List.getElem_mem _)))
    have HNX := Lib.hid (fold_next (r := r) (x := lnE (⟨eit, ⟨en, el, ec⟩, eq, ep⟩ : En)) (k := k) (by rw [HR.out]; exact hlt))
    obtain ⟨⟨yit, ⟨yn, yl, yc⟩, yq, yp⟩, hy⟩ : ∃ x, r[k]'(by rw [HR.out]; exact hlt) = x := ⟨_, rfl⟩
    rw [hy] at d0 d1 d2 d3 d4 d5 HYP HNX
    rw [HXX.out] at HNX
    dsimp only at d0 d1 d2 d3 d4 d5 HYP
    have d0 := old_cell HBW.out hbl2 d0
    have d1 := old_cell HBW.out hbl2 d1
    have d2 := old_cell HBW.out hbl2 d2
    have d3 := old_cell HBW.out hbl2 d3
    have d4 := old_cell HBW.out hbl2 d4
    have d5 := old_cell HBW.out hbl2 d5
    have hlt' : (k : Int) < (R : Int) := by omega
    obtain ⟨w2, hw2⟩ : ∃ y, wr.alloc (.cells #[.string ⟨yit.toArray⟩, .int .i64 yn, .int .i64 yl, .int .i64 yc, .int .i64 yq, .int .u64 (yp : Int)] 92) = y := ⟨_, rfl⟩
    obtain ⟨Y, hY⟩ : ∃ x, wr.heap.size = x := ⟨_, rfl⟩
    have hb2 : Below Y wr w2 := by rw [← hw2, ← hY]; exact (Below.refl _ _).alloc (Nat.le_refl _) _
    have hXY : X < Y := by rw [← hY]; exact HSQ.out
    have HBK2 : Hid (Bk w2 X (lnC ⟨xit, xq, xp⟩)) := Lib.hid (HBK.out.below hb2 hXY)
    have HBY : Hid (Bk w2 Y [.string ⟨yit.toArray⟩, .int .i64 yn, .int .i64 yl, .int .i64 yc, .int .i64 yq, .int .u64 (yp : Int)]) := Lib.hid (by rw [← hw2, ← hY]; exact Bk.new wr _ 92 rfl)
    have HB2 : Hid (Below X W w2) := Lib.hid (HWQ.out.trans (hb2.mono (by omega)))
    have HS2 : Hid (X < w2.heap.size) := Lib.hid (by rw [← hw2]; have := HSQ.out; simp; omega)
    have hYX : Y ≠ X := by omega
    have HYX := Lib.hid hYX
    clear hcc2 hy hb2 a0 a1 a2 b1 b2 hbl2
    gi_upto_region 9 with fail
    try rw [hY]
    clear hw2 hY d0 d1 d2 d3 d4 d5
    have a1 := (HBK2.out 1 _ rfl).1
    have a2 := (HBK2.out 2 _ rfl).1
    have f1 := (HBK2.out 1 _ rfl).2
    have f2 := (HBK2.out 2 _ rfl).2
    have z4 := (HBY.out 4 _ rfl).1
    have z5 := (HBY.out 5 _ rfl).1
    dsimp only at a1 a2 f1 f2
    by_cases g1 : xq < yq
    ·have g1' : decide (xq < yq) = true := decide_eq_true g1
     have HYES : Hid (xq < yq ∨ (yq = xq ∧ rankN xp < rankN yp)) := Lib.hid (Or.inl g1)
     gi_upto_region 10 with (refine ⟨trivial, ?_⟩)
     refine hstartR (S := fun u => u.cell? ⟨Y, 4, none⟩ = some (.int .i64 yq) ∧ u.cell? ⟨Y, 5, none⟩ = some (.int .u64 (yp : Int))) (by kernel_rfl) (by kernel_rfl) ?_ ?_ ?_ (fun hPF hHeld => ?_)
     ·rintro ⟨a, w, h⟩; exact absurd h.1 (by simp)
     ·exact fun _ _ _ _ _ h => h
     ·exact ⟨z4, z5⟩
     refine htake (i := 0) (v := .pointer (some ⟨Y, 4, none⟩)) rfl (by kernel_rfl) (by kernel_rfl) (by kernel_rfl) hPF (Or.inl ⟨by kernel_rfl, ?_⟩) hHeld ?_
     ·intro u hS; obtain ⟨p0, p1⟩ := hS; go_simp
     refine htake (i := 1) (v := .int .i64 yq) rfl (by kernel_rfl) (by kernel_rfl) (by kernel_rfl) hPF (Or.inl ⟨by kernel_rfl, ?_⟩) hHeld ?_
     ·intro u hS; obtain ⟨p0, p1⟩ := hS; go_simp
     refine htake (i := 2) (v := .pointer (some ⟨Y, 5, none⟩)) rfl (by kernel_rfl) (by kernel_rfl) (by kernel_rfl) hPF (Or.inl ⟨by kernel_rfl, ?_⟩) hHeld ?_
     ·intro u hS; obtain ⟨p0, p1⟩ := hS; go_simp
     refine htake (i := 3) (v := .int .u64 (yp : Int)) rfl (by kernel_rfl) (by kernel_rfl) (by kernel_rfl) hPF (Or.inl ⟨by kernel_rfl, ?_⟩) hHeld ?_
     ·intro u hS; obtain ⟨p0, p1⟩ := hS; go_simp
     refine htake (i := 4) (v := .pointer (some ⟨X, 1, none⟩)) rfl (by kernel_rfl) (by kernel_rfl) (by kernel_rfl) hPF (Or.inl ⟨by kernel_rfl, ?_⟩) hHeld ?_
     ·intro u hS; obtain ⟨p0, p1⟩ := hS; go_simp
     refine wpAnyH_ready (rs := [5]) (by kernel_rfl) (by simp) ?_
     refine AllReadyH.cons (i := 5) rfl (fun K hK => ?_) AllReadyH.nil
     go_simp
     refine hK.out _ _ ?_ (fun hHeld => ?_)
     ·exact ⟨(far_cellR hYX _).trans z4, (far_cellR hYX _).trans z5⟩
     clear hK K
     refine htake (i := 6) (v := .pointer (some ⟨X, 2, none⟩)) rfl (by kernel_rfl) (by kernel_rfl) (by kernel_rfl) hPF (Or.inl ⟨by kernel_rfl, ?_⟩) hHeld ?_
     ·intro u hS; obtain ⟨p0, p1⟩ := hS; go_simp
     refine wpAnyH_ready (rs := [7]) (by kernel_rfl) (by simp) ?_
     refine AllReadyH.cons (i := 7) rfl (fun K hK => ?_) AllReadyH.nil
     go_simp
     refine hK.out _ _ ?_ (fun hHeld => ?_)
     ·exact ⟨(far_cellR hYX _).trans ((far_cellR hYX _).trans z4), (far_cellR hYX _).trans ((far_cellR hYX _).trans z5)⟩
     clear hK K
     refine wpAnyH_done (by kernel_rfl) ?_ _
     obtain ⟨w5, hw5⟩ : ∃ y, ((w2.setCell ⟨X, 1, none⟩ (.int .i64 yq)).setCell ⟨X, 2, none⟩ (.int .u64 (yp : Int))).drew = y := ⟨_, rfl⟩
     have HBK5 : Hid (Bk w5 X (lnC ⟨xit, yq, yp⟩)) := Lib.hid (by rw [← hw5]; exact ((HBK2.out.set 1 (.int .i64 yq)).set 2 (.int .u64 (yp : Int))))
     have HB5 : Hid (Below X W w5) := Lib.hid (by rw [← hw5]; exact ((HB2.out.setCell (p := ⟨X, 1, none⟩) (Nat.le_refl _) _).setCell (p := ⟨X, 2, none⟩) (Nat.le_refl _) _).drew)
     have HS5 : Hid (X < w5.heap.size) := Lib.hid (by rw [← hw5]; show X < ((w2.setCell _ _).setCell _ _).heap.size; rw [World.size_setCell, World.size_setCell]; exact HS2.out)
     rw [hw5]
     clear hw5 a1 a2 f1 f2 z4 z5
     gi_wp2
     go_roundw
     case rel => exact ⟨k + 1, by go_num, by omega, HB5, Lib.hid (by rw [HNX.out]; unfold stepLn; dsimp only; rw [if_pos HYES.out]; exact HBK5.out), HS5⟩
     case measure => simp [intOf]; omega
    have g1' : decide (xq < yq) = false := decide_eq_false g1
    by_cases g2 : yq = xq
    case neg =>
     have g2' : (yq == xq) = false := beq_false_of_ne g2
     have HNO : Hid (¬ (xq < yq ∨ (yq = xq ∧ rankN xp < rankN yp))) := Lib.hid (by rintro (h | ⟨h, _⟩); exact g1 h; exact g2 h)
     clear g1 g2
     gi_wp2_with (refine ⟨trivial, ?_⟩)
     go_roundw
     case rel => exact ⟨k + 1, by go_num, by omega, HB2, Lib.hid (by rw [HNX.out]; unfold stepLn; dsimp only; rw [if_neg HNO.out]; exact HBK2.out), HS2⟩
     case measure => simp [intOf]; omega
    subst g2
    have habv := above_any yp xp HYP.out HXP.out
    by_cases g3 : rankN xp < rankN yp
    ·rw [decide_eq_true g3] at habv
     have HYES : Hid (rankN xp < rankN yp) := Lib.hid g3
     gi_upto_region 10 with (refine ⟨trivial, ?_⟩; gi_at_call 122; refine (CallsIn.inRound l (callsIn_wide.2 (habv w2))).mono ?_; rintro e w' ⟨rfl, rfl⟩)
     refine hstartR (S := fun u => u.cell? ⟨Y, 4, none⟩ = some (.int .i64 yq) ∧ u.cell? ⟨Y, 5, none⟩ = some (.int .u64 (yp : Int))) (by kernel_rfl) (by kernel_rfl) ?_ ?_ ?_ (fun hPF hHeld => ?_)
     ·rintro ⟨a, w, h⟩; exact absurd h.1 (by simp)
     ·exact fun _ _ _ _ _ h => h
     ·exact ⟨z4, z5⟩
     refine htake (i := 0) (v := .pointer (some ⟨Y, 4, none⟩)) rfl (by kernel_rfl) (by kernel_rfl) (by kernel_rfl) hPF (Or.inl ⟨by kernel_rfl, ?_⟩) hHeld ?_
     ·intro u hS; obtain ⟨p0, p1⟩ := hS; go_simp
     refine htake (i := 1) (v := .int .i64 yq) rfl (by kernel_rfl) (by kernel_rfl) (by kernel_rfl) hPF (Or.inl ⟨by kernel_rfl, ?_⟩) hHeld ?_
     ·intro u hS; obtain ⟨p0, p1⟩ := hS; go_simp
     refine htake (i := 2) (v := .pointer (some ⟨Y, 5, none⟩)) rfl (by kernel_rfl) (by kernel_rfl) (by kernel_rfl) hPF (Or.inl ⟨by kernel_rfl, ?_⟩) hHeld ?_
     ·intro u hS; obtain ⟨p0, p1⟩ := hS; go_simp
     refine htake (i := 3) (v := .int .u64 (yp : Int)) rfl (by kernel_rfl) (by kernel_rfl) (by kernel_rfl) hPF (Or.inl ⟨by kernel_rfl, ?_⟩) hHeld ?_
     ·intro u hS; obtain ⟨p0, p1⟩ := hS; go_simp
     refine htake (i := 4) (v := .pointer (some ⟨X, 1, none⟩)) rfl (by kernel_rfl) (by kernel_rfl) (by kernel_rfl) hPF (Or.inl ⟨by kernel_rfl, ?_⟩) hHeld ?_
     ·intro u hS; obtain ⟨p0, p1⟩ := hS; go_simp
     refine wpAnyH_ready (rs := [5]) (by kernel_rfl) (by simp) ?_
     refine AllReadyH.cons (i := 5) rfl (fun K hK => ?_) AllReadyH.nil
     go_simp
     refine hK.out _ _ ?_ (fun hHeld => ?_)
     ·exact ⟨(far_cellR hYX _).trans z4, (far_cellR hYX _).trans z5⟩
     clear hK K
     refine htake (i := 6) (v := .pointer (some ⟨X, 2, none⟩)) rfl (by kernel_rfl) (by kernel_rfl) (by kernel_rfl) hPF (Or.inl ⟨by kernel_rfl, ?_⟩) hHeld ?_
     ·intro u hS; obtain ⟨p0, p1⟩ := hS; go_simp
     refine wpAnyH_ready (rs := [7]) (by kernel_rfl) (by simp) ?_
     refine AllReadyH.cons (i := 7) rfl (fun K hK => ?_) AllReadyH.nil
     go_simp
     refine hK.out _ _ ?_ (fun hHeld => ?_)
     ·exact ⟨(far_cellR hYX _).trans ((far_cellR hYX _).trans z4), (far_cellR hYX _).trans ((far_cellR hYX _).trans z5)⟩
     clear hK K
     refine wpAnyH_done (by kernel_rfl) ?_ _
     obtain ⟨w5, hw5⟩ : ∃ y, ((w2.setCell ⟨X, 1, none⟩ (.int .i64 yq)).setCell ⟨X, 2, none⟩ (.int .u64 (yp : Int))).drew = y := ⟨_, rfl⟩
     have HBK5 : Hid (Bk w5 X (lnC ⟨xit, yq, yp⟩)) := Lib.hid (by rw [← hw5]; exact ((HBK2.out.set 1 (.int .i64 yq)).set 2 (.int .u64 (yp : Int))))
     have HB5 : Hid (Below X W w5) := Lib.hid (by rw [← hw5]; exact ((HB2.out.setCell (p := ⟨X, 1, none⟩) (Nat.le_refl _) _).setCell (p := ⟨X, 2, none⟩) (Nat.le_refl _) _).drew)
     have HS5 : Hid (X < w5.heap.size) := Lib.hid (by rw [← hw5]; show X < ((w2.setCell _ _).setCell _ _).heap.size; rw [World.size_setCell, World.size_setCell]; exact HS2.out)
     rw [hw5]
     clear hw5 a1 a2 f1 f2 z4 z5
     gi_wp2
     go_roundw
     case rel => exact ⟨k + 1, by go_num, by omega, HB5, Lib.hid (by rw [HNX.out]; unfold stepLn; dsimp only; rw [if_pos (Or.inr ⟨rfl, HYES.out⟩)]; exact HBK5.out), HS5⟩
     case measure => simp [intOf]; omega
    rw [decide_eq_false g3] at habv
    have HNO : Hid (¬ rankN xp < rankN yp) := Lib.hid g3
    clear g1 g3
    gi_wp2_with (refine ⟨trivial, ?_⟩; gi_at_call 122; refine (CallsIn.inRound l (callsIn_wide.2 (habv w2))).mono ?_; rintro e w' ⟨rfl, rfl⟩)
    go_roundw
    case rel => exact ⟨k + 1, by go_num, by omega, HB2, Lib.hid (by rw [HNX.out]; unfold stepLn; dsimp only; rw [if_neg (by rintro (h | ⟨_, h⟩); exact absurd h (Int.lt_irrefl _); exact HNO.out h)]; exact HBK2.out), HS2⟩
    case measure => simp [intOf]; omega
   ·have hkk : k = R := by omega
    subst hkk
    have hlt' : ¬ (k : Int) < (k : Int) := by omega
    have HMQ : Hid (MidL w L p wr) := Lib.hid (HM.out.after (by rw [HXW.out]; exact HWQ.out))
    have HFX : Hid (r.foldl stepLn (lnE (⟨eit, ⟨en, el, ec⟩, eq, ep⟩ : En)) = ⟨xit, xq, xp⟩) := Lib.hid (by have h := HXX.out; rwa [List.take_of_length_le (by rw [HR.out]; exact Nat.le_refl _)] at h)
    obtain ⟨lv, l0, ho⟩ := HMQ.out.row
    obtain ⟨A3, c3, rfl⟩ := ho.form
    have lf := HMQ.out.soft
    obtain ⟨o, hoo⟩ : ∃ x, readL p = x := ⟨_, rfl⟩
    rw [hoo] at ho l0 HLEN HRUN
    rw [HFX.out] at HRUN
    have HOO := Lib.hid ho
    obtain ⟨lv, hlv⟩ : ∃ x, Value.slice A3 o.length c3 = x := ⟨_, rfl⟩
    rw [hlv] at HOO l0
    obtain ⟨w3, hw3⟩ : ∃ y, wr.alloc (.cells #[.string ⟨xit.toArray⟩, .int .i64 xq, .int .u64 (xp : Int)] 54) = y := ⟨_, rfl⟩
    have hb3 : Below wr.heap.size wr w3 := by rw [← hw3]; exact (Below.refl _ _).alloc (Nat.le_refl _) _
    have HSZ3 : Hid (w.heap.size + 5 ≤ wr.heap.size) := Lib.hid HMQ.out.size
    have HO3 : Hid (OwnS 54 3 lnC w3 (w.heap.size + 5) lv o) := Lib.hid (HOO.out.below hb3 (Nat.le_refl _))
    have HN3 : Hid (Bk w3 wr.heap.size (lnC ⟨xit, xq, xp⟩)) := Lib.hid (by rw [← hw3]; exact Bk.new wr (lnC ⟨xit, xq, xp⟩) 54 rfl)
    have HB3 : Hid (Below (w.heap.size + 5) wr w3) := Lib.hid (hb3.mono HSZ3.out)
    have HW3 : Hid (w.heap.size + 5 ≤ w3.heap.size) := Lib.hid (Nat.le_trans HSZ3.out hb3.size)
    have HW := Lib.hid hw3
    clear ho hoo hlv hb3 hw3
    gi_upto_region 12 with fail
    gi_wp2_with (refine wpListIn_appS rfl (.tmp 57) (.tmp 59) 51 rfl Tryz.underlying51 info54D rfl (by decide) lnC_len lnC_one (by decide) rfl (by rw [HW.out]; exact HO3.out) (g := wr.heap.size) (c := 1) (y := ⟨xit, xq, xp⟩) rfl (by rw [HW.out]; exact fun j u hj => (HN3.out j u hj).1) (by have := HLEN.out; omega) (by rw [HW.out]; exact HW3.out) ?_; rw [HW.out]; intro v' w4 hown' hb4 _; obtain ⟨A5, c5', rfl⟩ := hown'.form; have HO4 := Lib.hid hown'; have HB4 : Hid (Below (w.heap.size + 5) wr w4) := Lib.hid (HB3.out.trans hb4); have y0 := old_cell HB4.out (by omega) l0; have yf := (cell_same (HB4.out.block (w.heap.size + 1) (by omega)) 0).2.trans lf; clear hown' hb4)
    refine ⟨?_, ?_⟩
    ·exact HMQ.out.line HB4.out (by rw [HEE.out, HRUN.out]; have h := HO4.out; simp only [List.length_append, List.length_cons, List.length_nil, Nat.zero_add] at h; exact h)
    ·rw [Below.heap_setCell _ _ _ _ (by simp), HB4.out.block _ (by omega)]
     exact HWQ.out.block _ (by have := HM.out.size; rw [HXW.out] at this; omega)
 case done =>
  intro L W hm
  have HM := Lib.hid hm
  obtain ⟨lv, l0, ho⟩ := hm.row
  have HOO := Lib.hid ho
  clear hm ho
  have lf := HM.out.soft
  gi_wp2
  refine ⟨by simp, .inl ⟨_, _, rfl, run_takeDeferred HM.out.late, ?_⟩⟩
  have hb5 : Below w.heap.size W (W.putObj (w.heap.size + 3) (.deferred none)) := belowK_b (w := w) (Nat.le_refl _) W _ _ _ (by omega) HM.out.late rfl rfl
  refine ⟨_, results_tmp rfl _ _ _, HM.out.below.trans hb5, _, rfl, ?_⟩
  have := own_heap HOO.out (w' := W.putObj (w.heap.size + 3) (.deferred none)) (fun g hg _ => World.putObj_heap_other (by omega))
  exact this.sl lnC_len (by have := read_len es; have := HLE.out; omega)
end Go.Proofs.YtpdedfpacklnoaaGreatDoor
