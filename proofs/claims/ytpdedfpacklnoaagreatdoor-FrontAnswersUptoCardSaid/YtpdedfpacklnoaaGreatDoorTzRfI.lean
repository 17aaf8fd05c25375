/- Contract of the document's Can of a cart: canC. -/
import Derived.Test.YtpdedfpacklnoaaGreatDoorTzRfA
import Derived.Test.YtpdedfpacklnoaaGreatDoorTzRfE
import Derived.Test.YtpdedfpacklnoaaGreatDoorTzRfF
import Derived.Deep.CutRange
set_option maxRecDepth 100000
namespace Go.Proofs.YtpdedfpacklnoaaGreatDoor
open Go.RowKit Go.BL Go.Ct Go.Sl

/-- What stands ahead of the k-th, the last one first. -/
def preE (l : List En) (k : Nat) : List En := (l.take k).reverse
theorem preE_succ {l : List En} {k : Nat} (h : k < l.length) : preE l (k + 1) = l[k] :: preE l k := by
 unfold preE; rw [List.take_succ_eq_append_getElem h, List.reverse_append]; rfl
theorem preE_any {l : List En} {k : Nat} {d : Dt} : (preE l k).any (fun y => decide (y.d = d)) = (l.take k).any (fun y => decide (y.d = d)) := by
 unfold preE; rw [List.any_reverse]
def abvP (p : List En) (e : En) : Bool := match p with | [] => true | y :: _ => aboveE e y
theorem entE_pre (x : Cx) (p : List En) (e : En) : entE x p e = if isName e.it = false then 6 else if e.q < 1 ∨ 1000000 < e.q then 52 else if isPrice e.p = false then 53
  else if (covers x e.d && abvP p e) = false then 50 else if p.any (fun y => decide (y.d = e.d)) = true then 50 else 0 := by
 cases p with
 | nil => unfold entE abvP; cases covers x e.d <;> simp
 | cons y r =>
  have h : (covers x e.d = false ∨ (!aboveE e y) = true) ↔ (covers x e.d && aboveE e y) = false := by cases covers x e.d <;> cases aboveE e y <;> simp
  unfold entE abvP
  dsimp only
  by_cases h1 : isName e.it = false
  ·rw [if_pos h1, if_pos h1]
  rw [if_neg h1, if_neg h1]
  by_cases h2 : e.q < 1 ∨ 1000000 < e.q
  ·rw [if_pos h2, if_pos h2]
  rw [if_neg h2, if_neg h2]
  by_cases h3 : isPrice e.p = false
  ·rw [if_pos h3, if_pos h3]
  rw [if_neg h3, if_neg h3]
  by_cases hh : (covers x e.d && aboveE e y) = false
  ·rw [if_pos (h.2 hh), if_pos hh]
  rw [if_neg (fun a => hh (h.1 a)), if_neg hh]
theorem entE_as (x : Cx) (l : List En) (k : Nat) (e : En) : entE x (preE l k) e = if isName e.it = false then 6 else if e.q < 1 ∨ 1000000 < e.q then 52 else if isPrice e.p = false then 53
  else if (covers x e.d && abvP (preE l k) e) = false then 50 else if (l.take k).any (fun y => decide (y.d = e.d)) = true then 50 else 0 := by
 rw [entE_pre, preE_any]
theorem ents_step (x : Cx) (l : List En) {k : Nat} (h : k < l.length) : entsE x (preE l k) (l.drop k) = if entE x (preE l k) l[k] ≠ 0 then entE x (preE l k) l[k] else entsE x (preE l (k + 1)) (l.drop (k + 1)) := by
 rw [List.drop_eq_getElem_cons h, preE_succ h]; rfl
theorem any_take {l : List En} {d : Dt} {j : Nat} (h : j < l.length) (h1 : (l.take j).any (fun y => decide (y.d = d)) = false) (h2 : l[j].d ≠ d) : (l.take (j + 1)).any (fun y => decide (y.d = d)) = false := by
 rw [List.take_succ_eq_append_getElem h, List.any_append, h1]; simp [h2]
theorem any_hit {l : List En} {d : Dt} {j k : Nat} (h : j < l.length) (hj : j < k) (h2 : l[j].d = d) : (l.take k).any (fun y => decide (y.d = d)) = true := by
 rw [List.any_eq_true]
 exact ⟨l[j], List.mem_take_iff_getElem.2 ⟨j, by omega, rfl⟩, by simp [h2]⟩
theorem can_of {x : Cx} {es : List En} (hx : canX x = true) (hl : es.length ≤ 64) : canC ⟨es, x⟩ = if entsE x [] es ≠ 0 then entsE x [] es else if 32 < itemsF none es then 51 else 0 := by
 unfold canC; dsimp only; rw [hx, if_neg (by simp), if_neg (by omega)]
set_option maxHeartbeats 16000000 in
theorem canR_any (es : List En) (x : Cx) (ev : Value) (mv cv : Value) (w : World) (he : Ents w ev es) (hm : Dots w mv x.ms) (hc : Dots w cv x.cl) (hcp : ∀ A n c, ev = .slice A n c → n ≤ c) (hsl : ∀ e ∈ es, e.it.length ≤ 9223372036854775807) :
  Calls Tryz.prog 12 #[.agg #[ev, mv, cv]] w (RetV (.int .i64 ((canC ⟨es, x⟩ : Nat) : Int)) w) := by
 obtain ⟨A, ec, rfl⟩ := he.form
 have hcap : es.length ≤ ec := hcp A es.length ec rfl
 clear hcp
 have HSL := Lib.hid hsl
 clear hsl
 have hmx := he.1
 obtain ⟨w0, hw0⟩ : ∃ w0, w.alloc (.cells #[.slice A es.length ec, mv, cv] 32) = w0 := ⟨_, rfl⟩
 have HB : Hid (Below w.heap.size w w0) := Lib.hid (by rw [← hw0]; exact (Below.refl _ _).alloc (Nat.le_refl _) _)
 have HS : Hid (w.heap.size < w0.heap.size) := Lib.hid (by rw [← hw0]; simp)
 obtain ⟨q0, q1, q2⟩ : w0.cell? ⟨w.heap.size, 0, none⟩ = some (.slice A es.length ec) ∧ w0.cell? ⟨w.heap.size, 1, none⟩ = some mv ∧ w0.cell? ⟨w.heap.size, 2, none⟩ = some cv := by rw [← hw0]; exact tri_at w _ _ _ 32 _ rfl
 have HM := Lib.hid (hm.below HB.out (Nat.le_refl _))
 have HC := Lib.hid (hc.below HB.out (Nat.le_refl _))
 have HE := Lib.hid (he.below HB.out (Nat.le_refl _))
 have hcx := R.canXR_any x mv cv w0 HM.out HC.out
 clear hm hc he
 by_cases hx : canX x = true
 case neg =>
  have HV : Hid (canC ⟨es, x⟩ = 30) := Lib.hid (by unfold canC; dsimp only; rw [if_pos (by simpa using hx)])
  rw [show canX x = false by simpa using hx] at hcx
  clear hx
  go_enter Tryz.func12, Tryz.ntmps12
  go_wp2_with (go_at_call 39; refine hcx.mono ?_; rintro e w1 ⟨rfl, hb⟩; have HB1 := Lib.hid (HB.out.trans (hb.mono HB.out.size)); clear hb)
  go_ret
  exact ⟨by rw [HV.out]; rfl, HB1.out⟩
 rw [hx] at hcx
 have HPOS : Hid (∀ e ∈ x.cl, 1 ≤ e.c) := Lib.hid (fun e h => (may_iff.1 (cl_may x.ms x.cl none (canX_iff.1 hx).2.2.2 e h)).2.2.2.2.1)
 have HX := Lib.hid hx
 clear hx
 by_cases hl : es.length ≤ 64
 case neg =>
  have HV : Hid (canC ⟨es, x⟩ = 51) := Lib.hid (by unfold canC; dsimp only; rw [HX.out, if_neg (by simp), if_pos (by omega)])
  have hl' : (64 : Int) < (es.length : Int) := by omega
  go_enter Tryz.func12, Tryz.ntmps12
  go_upto_region 3 with (go_at_call 39; refine hcx.mono ?_; rintro e w1 ⟨rfl, hb⟩; have HW1 := Lib.hid hb; clear hb)
  have r0 := old_cell HW1.out HS.out q0
  go_wp2_with fail
  go_ret
  exact ⟨by rw [HV.out]; rfl, HB.out.trans (HW1.out.mono HB.out.size)⟩
 have HF := Lib.hid (can_of HX.out hl)
 have hl' : ¬ (64 : Int) < (es.length : Int) := by omega
 have hit := fun w h => itemsR_any es (.slice A es.length ec) w h
 have hil := itemsF_le es none
 obtain ⟨it, hit'⟩ : ∃ y, itemsF none es = y := ⟨_, rfl⟩
 rw [hit'] at hit hil
 have HIT := Lib.hid hit'
 clear hit'
 go_enter Tryz.func12, Tryz.ntmps12
 go_upto_region 3 with (go_at_call 39; refine hcx.mono ?_; rintro e w1 ⟨rfl, hb⟩; have HW1 := Lib.hid hb; clear hb)
 have r0 := old_cell HW1.out HS.out q0
 clear hw0 hcx
 go_wp2_with fail
 clear r0 hl'
 go_loopw [18] (fun j wr => ∃ k : Nat, k ≤ es.length ∧ j = .int .i64 (k : Int) ∧ Hid (Below w0.heap.size w0 wr) ∧ Hid (entsE x (preE es k) (es.drop k) = entsE x [] es)) (fun j _ => es.length - (intOf j).toNat)
 case atStart => exact ⟨0, by omega, rfl, HW1, Lib.hid rfl⟩
 case round =>
  obtain ⟨k, hk, rfl, HR, HN⟩ := hrel
  by_cases hlt : k < es.length
  ·obtain ⟨b, off, rfl, hbl, hcc⟩ := ent_cells HE.out (by omega)
   obtain ⟨c0, c1, c2, c3, c4, c5⟩ := hcc k hlt
   have HCC := Lib.hid hcc
   have hst := ents_step x es hlt
   obtain ⟨X, hX⟩ : ∃ y, entE x (preE es k) es[k] = y := ⟨_, rfl⟩
   rw [hX] at hst
   have hen := hX.symm.trans (entE_as x es k es[k])
   have HST := Lib.hid (HN.out.symm.trans hst)
   have HEN := Lib.hid hen
   clear hX hen
   obtain ⟨⟨eit, ⟨dn, dl, dc⟩, eq, ep⟩, hx⟩ : ∃ x, es[k]'hlt = x := ⟨_, rfl⟩
   have HXX := Lib.hid hx
   have HLEN : Hid (eit.length ≤ 9223372036854775807) := Lib.hid (by have := HSL.out _ (List.getElem_mem hlt); rw [hx] at this; exact this)
   rw [hx] at c0 c1 c2 c3 c4 c5 HEN
   dsimp only at c0 c1 c2 c3 c4 c5 HEN
   have d0 := old_cell HR.out hbl c0
   have d1 := old_cell HR.out hbl c1
   have d2 := old_cell HR.out hbl c2
   have d3 := old_cell HR.out hbl c3
   have d4 := old_cell HR.out hbl c4
   have d5 := old_cell HR.out hbl c5
   have HBL := Lib.hid hbl
   clear hcc c0 c1 c2 c3 c4 c5 hx hbl hst
   have hnm := fun h w => isName_any eit h w
   have hqt := fun w => qty_any eq 1 w
   have hpr := fun w => isPrice_any ep w
   have hco := fun w hm hc => coversR_any x ⟨dn, dl, dc⟩ mv cv w hm hc HPOS.out
   dsimp only [dotV] at hco
   obtain ⟨nm, hnm'⟩ : ∃ y, isName eit = y := ⟨_, rfl⟩
   obtain ⟨qt, hqt'⟩ : ∃ y, (decide ((1 : Int) ≤ eq) && decide (eq ≤ 1000000)) = y := ⟨_, rfl⟩
   obtain ⟨pr, hpr'⟩ : ∃ y, isPrice ep = y := ⟨_, rfl⟩
   obtain ⟨cv', hcv'⟩ : ∃ y, covers x ⟨dn, dl, dc⟩ = y := ⟨_, rfl⟩
   rw [hnm'] at hnm HEN
   rw [hqt'] at hqt
   rw [hpr'] at hpr HEN
   rw [hcv'] at hco HEN
   obtain ⟨ab, hab'⟩ : ∃ y, abvP (preE es k) ⟨eit, ⟨dn, dl, dc⟩, eq, ep⟩ = y := ⟨_, rfl⟩
   rw [hab'] at HEN
   have HAB := Lib.hid hab'
   have HQT := Lib.hid hqt'
   clear hnm' hqt' hpr' hcv' hab'
   obtain ⟨w1, hw1⟩ : ∃ w2, wr.alloc (.cells #[.string ⟨eit.toArray⟩, .int .i64 dn, .int .i64 dl, .int .i64 dc, .int .i64 eq, .int .u64 (ep : Int)] 92) = w2 := ⟨_, rfl⟩
   have HB1 : Hid (Below w0.heap.size w0 w1) := Lib.hid (by rw [← hw1]; exact HR.out.alloc HR.out.size _)
   have HBK : Hid (Bk w1 wr.heap.size [.string ⟨eit.toArray⟩, .int .i64 dn, .int .i64 dl, .int .i64 dc, .int .i64 eq, .int .u64 (ep : Int)]) := Lib.hid (by rw [← hw1]; exact Bk.new wr _ 92 rfl)
   have HS1 : Hid (wr.heap.size < w1.heap.size) := Lib.hid (by rw [← hw1]; simp)
   have HRS : Hid (w.heap.size < wr.heap.size) := Lib.hid (Nat.lt_of_lt_of_le HS.out HR.out.size)
   go_upto_region 8 with fail
   clear hw1 d0 d1 d2 d3 d4 d5
   have t0 := (HBK.out 0 _ rfl).1
   have t1 := (HBK.out 1 _ rfl).1
   have t2 := (HBK.out 2 _ rfl).1
   have t3 := (HBK.out 3 _ rfl).1
   have t4 := (HBK.out 4 _ rfl).1
   have t5 := (HBK.out 5 _ rfl).1
   cases nm
   case false =>
    have HV : Hid (canC ⟨es, x⟩ = 6) := Lib.hid (by have h := HEN.out; rw [if_pos rfl] at h; have h2 := HST.out; rw [h, if_pos (by decide)] at h2; rw [HF.out, h2]; rfl)
    go_wp2_with (go_at_call 40; refine (hnm HLEN.out _).mono ?_; rintro e w_2 ⟨rfl, rfl⟩)
    go_ret
    exact ⟨by rw [HV.out]; rfl, HB.out.trans (HB1.out.mono HB.out.size)⟩
   case true =>
   cases qt
   case false =>
    have HV : Hid (canC ⟨es, x⟩ = 52) := Lib.hid (by have h := HEN.out; have h3 := HQT.out; rw [if_neg (by simp), if_pos (by simp at h3; omega)] at h; have h2 := HST.out; rw [h, if_pos (by decide)] at h2; rw [HF.out, h2]; rfl)
    go_wp2_with (first
     | (go_at_call 40; refine (hnm HLEN.out _).mono ?_; rintro e w_2 ⟨rfl, rfl⟩)
     | (go_at_call 41; refine (hqt _).mono ?_; rintro e w_2 ⟨rfl, rfl⟩))
    go_ret
    exact ⟨by rw [HV.out]; rfl, HB.out.trans (HB1.out.mono HB.out.size)⟩
   case true =>
   have HST2 := HEN.out
   rw [if_neg (by simp), if_neg (by have h2 := HQT.out; simp at h2; omega)] at HST2
   have HST3 := Lib.hid HST2
   clear HST2
   cases pr
   case false =>
    have HV : Hid (canC ⟨es, x⟩ = 53) := Lib.hid (by have h := HST3.out; rw [if_pos rfl] at h; have h2 := HST.out; rw [h, if_pos (by decide)] at h2; rw [HF.out, h2]; rfl)
    go_wp2_with (first
     | (go_at_call 40; refine (hnm HLEN.out _).mono ?_; rintro e w_2 ⟨rfl, rfl⟩)
     | (go_at_call 41; refine (hqt _).mono ?_; rintro e w_2 ⟨rfl, rfl⟩)
     | (go_at_call 42; refine (hpr _).mono ?_; rintro e w_2 ⟨rfl, rfl⟩))
    go_ret
    exact ⟨by rw [HV.out]; rfl, HB.out.trans (HB1.out.mono HB.out.size)⟩
   case true =>
   have HST4 := HST3.out
   rw [if_neg (by simp)] at HST4
   have HST5 := Lib.hid HST4
   clear HST4
   go_upto_region 14 with (first
     | (go_at_call 40; refine (hnm HLEN.out _).mono ?_; rintro e w_2 ⟨rfl, rfl⟩)
     | (go_at_call 41; refine (hqt _).mono ?_; rintro e w_2 ⟨rfl, rfl⟩)
     | (go_at_call 42; refine (hpr _).mono ?_; rintro e w_2 ⟨rfl, rfl⟩))
   clear hnm hqt hpr
   have s0 := old_cell HB1.out HS.out q0
   have s1 := old_cell HB1.out HS.out q1
   have s2 := old_cell HB1.out HS.out q2
   have s3 := t0
   have s4 := t1
   have s5 := t2
   have s6 := t3
   have s7 := t4
   have s8 := t5
   go_cut [38] from 38 to 60 (fun s38 wx => s38 = .bool (!(cv' && ab)) ∧ Hid (Below w0.heap.size w0 wx) ∧ Hid (Below w1.heap.size w1 wx))
   case first =>
    cases cv'
    case false =>
     have HOK : Hid ((!(false && ab)) = true) := Lib.hid (by simp)
     refine hstart (S := fun u => u.cell? ⟨w.heap.size, 0, none⟩ = some (.slice (some ⟨b, off, none⟩) es.length ec) ∧ u.cell? ⟨w.heap.size, 1, none⟩ = some (mv) ∧ u.cell? ⟨w.heap.size, 2, none⟩ = some (cv) ∧ u.cell? ⟨wr.heap.size, 0, none⟩ = some (.string ⟨eit.toArray⟩) ∧ u.cell? ⟨wr.heap.size, 1, none⟩ = some (.int .i64 dn) ∧ u.cell? ⟨wr.heap.size, 2, none⟩ = some (.int .i64 dl) ∧ u.cell? ⟨wr.heap.size, 3, none⟩ = some (.int .i64 dc) ∧ u.cell? ⟨wr.heap.size, 4, none⟩ = some (.int .i64 eq) ∧ u.cell? ⟨wr.heap.size, 5, none⟩ = some (.int .u64 (ep : Int))) (by kernel_rfl) (by repeat (first | exact PG.body | refine PG.then_ ?_ | refine PG.inBlock ?_)) ?_ (fun hPF hHeld => ?_)
     ·exact ⟨s0, s1, s2, s3, s4, s5, s6, s7, s8⟩
     refine htake (i := 0) (v := .pointer (some ⟨w.heap.size, 1, none⟩)) rfl (by kernel_rfl) (by kernel_rfl) (by kernel_rfl) hPF (Or.inl ⟨by kernel_rfl, ?_⟩) hHeld ?_
     ·intro u hS; obtain ⟨p0, p1, p2, p3, p4, p5, p6, p7, p8⟩ := hS; go_simp
     refine htake (i := 1) (v := .agg #[mv, cv]) rfl (by kernel_rfl) (by kernel_rfl) (by kernel_rfl) hPF (Or.inl ⟨by kernel_rfl, ?_⟩) hHeld ?_
     ·intro u hS; obtain ⟨p0, p1, p2, p3, p4, p5, p6, p7, p8⟩ := hS; go_simp
     refine htake (i := 2) (v := .pointer (some ⟨wr.heap.size, 1, none⟩)) rfl (by kernel_rfl) (by kernel_rfl) (by kernel_rfl) hPF (Or.inl ⟨by kernel_rfl, ?_⟩) hHeld ?_
     ·intro u hS; obtain ⟨p0, p1, p2, p3, p4, p5, p6, p7, p8⟩ := hS; go_simp
     refine htake (i := 3) (v := .agg #[.int .i64 dn, .int .i64 dl, .int .i64 dc]) rfl (by kernel_rfl) (by kernel_rfl) (by kernel_rfl) hPF (Or.inl ⟨by kernel_rfl, ?_⟩) hHeld ?_
     ·intro u hS; obtain ⟨p0, p1, p2, p3, p4, p5, p6, p7, p8⟩ := hS; go_simp
     refine wpAnyH_ready (rs := [4]) (by kernel_rfl) (by simp) ?_
     refine AllReadyH.cons (i := 4) rfl (fun K hK => ?_) AllReadyH.nil
     go_simp
     go_at_call 43
     refine (hco w1.drew (HM.out.below HB1.out.drew (Nat.le_refl _)) (HC.out.below HB1.out.drew (Nat.le_refl _))).mono ?_
     rintro e w3 ⟨rfl, hb⟩
     have HW3 := Lib.hid ((Below.refl w1.heap.size w1).drew.trans hb)
     have HB3 := Lib.hid (HB1.out.trans (HW3.out.mono HB1.out.size))
     clear hb
     have i0 := old_cell HB3.out HS.out q0
     have i1 := old_cell HB3.out HS.out q1
     have i2 := old_cell HB3.out HS.out q2
     have i3 := old_cell HW3.out HS1.out t0
     have i4 := old_cell HW3.out HS1.out t1
     have i5 := old_cell HW3.out HS1.out t2
     have i6 := old_cell HW3.out HS1.out t3
     have i7 := old_cell HW3.out HS1.out t4
     have i8 := old_cell HW3.out HS1.out t5
     refine hK.out _ _ ?_ (fun hHeld => ?_)
     ·exact ⟨i0, i1, i2, i3, i4, i5, i6, i7, i8⟩
     clear hK K
     refine htake (i := 5) (v := .bool true) rfl (by kernel_rfl) (by kernel_rfl) (by kernel_rfl) hPF (Or.inl ⟨by kernel_rfl, ?_⟩) hHeld ?_
     ·intro u hS; obtain ⟨p0, p1, p2, p3, p4, p5, p6, p7, p8⟩ := hS; go_simp
     refine htake (i := 6) (v := .bool true) rfl (by kernel_rfl) (by kernel_rfl) (by kernel_rfl) hPF (Or.inl ⟨by kernel_rfl, ?_⟩) hHeld ?_
     ·intro u hS; obtain ⟨p0, p1, p2, p3, p4, p5, p6, p7, p8⟩ := hS; go_simp
     refine htake (i := 7) (v := undef) rfl (by kernel_rfl) (by kernel_rfl) (by kernel_rfl) hPF (Or.inr ⟨by kernel_rfl, rfl⟩) hHeld ?_
     refine htake (i := 8) (v := undef) rfl (by kernel_rfl) (by kernel_rfl) (by kernel_rfl) hPF (Or.inr ⟨by kernel_rfl, rfl⟩) hHeld ?_
     refine htake (i := 9) (v := undef) rfl (by kernel_rfl) (by kernel_rfl) (by kernel_rfl) hPF (Or.inr ⟨by kernel_rfl, rfl⟩) hHeld ?_
     refine htake (i := 10) (v := undef) rfl (by kernel_rfl) (by kernel_rfl) (by kernel_rfl) hPF (Or.inr ⟨by kernel_rfl, rfl⟩) hHeld ?_
     refine htake (i := 11) (v := undef) rfl (by kernel_rfl) (by kernel_rfl) (by kernel_rfl) hPF (Or.inr ⟨by kernel_rfl, rfl⟩) hHeld ?_
     refine htake (i := 12) (v := undef) rfl (by kernel_rfl) (by kernel_rfl) (by kernel_rfl) hPF (Or.inr ⟨by kernel_rfl, rfl⟩) hHeld ?_
     refine htake (i := 13) (v := undef) rfl (by kernel_rfl) (by kernel_rfl) (by kernel_rfl) hPF (Or.inr ⟨by kernel_rfl, rfl⟩) hHeld ?_
     refine htake (i := 14) (v := undef) rfl (by kernel_rfl) (by kernel_rfl) (by kernel_rfl) hPF (Or.inr ⟨by kernel_rfl, rfl⟩) hHeld ?_
     refine htake (i := 15) (v := undef) rfl (by kernel_rfl) (by kernel_rfl) (by kernel_rfl) hPF (Or.inr ⟨by kernel_rfl, rfl⟩) hHeld ?_
     refine htake (i := 16) (v := undef) rfl (by kernel_rfl) (by kernel_rfl) (by kernel_rfl) hPF (Or.inr ⟨by kernel_rfl, rfl⟩) hHeld ?_
     refine htake (i := 17) (v := undef) rfl (by kernel_rfl) (by kernel_rfl) (by kernel_rfl) hPF (Or.inr ⟨by kernel_rfl, rfl⟩) hHeld ?_
     refine htake (i := 18) (v := undef) rfl (by kernel_rfl) (by kernel_rfl) (by kernel_rfl) hPF (Or.inr ⟨by kernel_rfl, rfl⟩) hHeld ?_
     refine htake (i := 19) (v := undef) rfl (by kernel_rfl) (by kernel_rfl) (by kernel_rfl) hPF (Or.inr ⟨by kernel_rfl, rfl⟩) hHeld ?_
     refine htake (i := 20) (v := .bool true) rfl (by kernel_rfl) (by kernel_rfl) (by kernel_rfl) hPF (Or.inl ⟨by kernel_rfl, ?_⟩) hHeld ?_
     ·intro u hS; obtain ⟨p0, p1, p2, p3, p4, p5, p6, p7, p8⟩ := hS; go_simp
     refine wpAnyH_ready (rs := [21]) (by kernel_rfl) (by simp) ?_
     refine AllReadyH.cons (i := 21) rfl (fun K hK => ?_) AllReadyH.nil
     go_simp
     refine hK.out _ _ ?_ (fun hHeld => ?_)
     ·exact ⟨i0, i1, i2, i3, i4, i5, i6, i7, i8⟩
     clear hK K
     refine wpAnyH_done (by kernel_rfl) ?_ _
     go_wp2_with fail
     go_meet
     case rel => exact ⟨by rw [HOK.out], HB3, HW3⟩
    case true =>
    rcases Nat.eq_zero_or_pos k with h0 | h0
    ·subst h0
     have hab1 : ab = true := HAB.out.symm
     subst hab1
     refine hstart (S := fun u => u.cell? ⟨w.heap.size, 0, none⟩ = some (.slice (some ⟨b, off, none⟩) es.length ec) ∧ u.cell? ⟨w.heap.size, 1, none⟩ = some (mv) ∧ u.cell? ⟨w.heap.size, 2, none⟩ = some (cv) ∧ u.cell? ⟨wr.heap.size, 0, none⟩ = some (.string ⟨eit.toArray⟩) ∧ u.cell? ⟨wr.heap.size, 1, none⟩ = some (.int .i64 dn) ∧ u.cell? ⟨wr.heap.size, 2, none⟩ = some (.int .i64 dl) ∧ u.cell? ⟨wr.heap.size, 3, none⟩ = some (.int .i64 dc) ∧ u.cell? ⟨wr.heap.size, 4, none⟩ = some (.int .i64 eq) ∧ u.cell? ⟨wr.heap.size, 5, none⟩ = some (.int .u64 (ep : Int))) (by kernel_rfl) (by repeat (first | exact PG.body | refine PG.then_ ?_ | refine PG.inBlock ?_)) ?_ (fun hPF hHeld => ?_)
     ·exact ⟨s0, s1, s2, s3, s4, s5, s6, s7, s8⟩
     refine htake (i := 0) (v := .pointer (some ⟨w.heap.size, 1, none⟩)) rfl (by kernel_rfl) (by kernel_rfl) (by kernel_rfl) hPF (Or.inl ⟨by kernel_rfl, ?_⟩) hHeld ?_
     ·intro u hS; obtain ⟨p0, p1, p2, p3, p4, p5, p6, p7, p8⟩ := hS; go_simp
     refine htake (i := 1) (v := .agg #[mv, cv]) rfl (by kernel_rfl) (by kernel_rfl) (by kernel_rfl) hPF (Or.inl ⟨by kernel_rfl, ?_⟩) hHeld ?_
     ·intro u hS; obtain ⟨p0, p1, p2, p3, p4, p5, p6, p7, p8⟩ := hS; go_simp
     refine htake (i := 2) (v := .pointer (some ⟨wr.heap.size, 1, none⟩)) rfl (by kernel_rfl) (by kernel_rfl) (by kernel_rfl) hPF (Or.inl ⟨by kernel_rfl, ?_⟩) hHeld ?_
     ·intro u hS; obtain ⟨p0, p1, p2, p3, p4, p5, p6, p7, p8⟩ := hS; go_simp
     refine htake (i := 3) (v := .agg #[.int .i64 dn, .int .i64 dl, .int .i64 dc]) rfl (by kernel_rfl) (by kernel_rfl) (by kernel_rfl) hPF (Or.inl ⟨by kernel_rfl, ?_⟩) hHeld ?_
     ·intro u hS; obtain ⟨p0, p1, p2, p3, p4, p5, p6, p7, p8⟩ := hS; go_simp
     refine wpAnyH_ready (rs := [4]) (by kernel_rfl) (by simp) ?_
     refine AllReadyH.cons (i := 4) rfl (fun K hK => ?_) AllReadyH.nil
     go_simp
     go_at_call 43
     refine (hco w1.drew (HM.out.below HB1.out.drew (Nat.le_refl _)) (HC.out.below HB1.out.drew (Nat.le_refl _))).mono ?_
     rintro e w3 ⟨rfl, hb⟩
     have HW3 := Lib.hid ((Below.refl w1.heap.size w1).drew.trans hb)
     have HB3 := Lib.hid (HB1.out.trans (HW3.out.mono HB1.out.size))
     clear hb
     have i0 := old_cell HB3.out HS.out q0
     have i1 := old_cell HB3.out HS.out q1
     have i2 := old_cell HB3.out HS.out q2
     have i3 := old_cell HW3.out HS1.out t0
     have i4 := old_cell HW3.out HS1.out t1
     have i5 := old_cell HW3.out HS1.out t2
     have i6 := old_cell HW3.out HS1.out t3
     have i7 := old_cell HW3.out HS1.out t4
     have i8 := old_cell HW3.out HS1.out t5
     refine hK.out _ _ ?_ (fun hHeld => ?_)
     ·exact ⟨i0, i1, i2, i3, i4, i5, i6, i7, i8⟩
     clear hK K
     refine htake (i := 5) (v := .bool false) rfl (by kernel_rfl) (by kernel_rfl) (by kernel_rfl) hPF (Or.inl ⟨by kernel_rfl, ?_⟩) hHeld ?_
     ·intro u hS; obtain ⟨p0, p1, p2, p3, p4, p5, p6, p7, p8⟩ := hS; go_simp
     refine htake (i := 6) (v := .bool false) rfl (by kernel_rfl) (by kernel_rfl) (by kernel_rfl) hPF (Or.inl ⟨by kernel_rfl, ?_⟩) hHeld ?_
     ·intro u hS; obtain ⟨p0, p1, p2, p3, p4, p5, p6, p7, p8⟩ := hS; go_simp
     refine htake (i := 7) (v := .int .i64 0) rfl (by kernel_rfl) (by kernel_rfl) (by kernel_rfl) hPF (Or.inl ⟨by kernel_rfl, ?_⟩) hHeld ?_
     ·intro u hS; obtain ⟨p0, p1, p2, p3, p4, p5, p6, p7, p8⟩ := hS; go_simp
     refine htake (i := 8) (v := .bool false) rfl (by kernel_rfl) (by kernel_rfl) (by kernel_rfl) hPF (Or.inl ⟨by kernel_rfl, ?_⟩) hHeld ?_
     ·intro u hS; obtain ⟨p0, p1, p2, p3, p4, p5, p6, p7, p8⟩ := hS; go_simp
     refine htake (i := 9) (v := .bool false) rfl (by kernel_rfl) (by kernel_rfl) (by kernel_rfl) hPF (Or.inl ⟨by kernel_rfl, ?_⟩) hHeld ?_
     ·intro u hS; obtain ⟨p0, p1, p2, p3, p4, p5, p6, p7, p8⟩ := hS; go_simp
     refine htake (i := 10) (v := undef) rfl (by kernel_rfl) (by kernel_rfl) (by kernel_rfl) hPF (Or.inr ⟨by kernel_rfl, rfl⟩) hHeld ?_
     refine htake (i := 11) (v := undef) rfl (by kernel_rfl) (by kernel_rfl) (by kernel_rfl) hPF (Or.inr ⟨by kernel_rfl, rfl⟩) hHeld ?_
     refine htake (i := 12) (v := undef) rfl (by kernel_rfl) (by kernel_rfl) (by kernel_rfl) hPF (Or.inr ⟨by kernel_rfl, rfl⟩) hHeld ?_
     refine htake (i := 13) (v := undef) rfl (by kernel_rfl) (by kernel_rfl) (by kernel_rfl) hPF (Or.inr ⟨by kernel_rfl, rfl⟩) hHeld ?_
     refine htake (i := 14) (v := undef) rfl (by kernel_rfl) (by kernel_rfl) (by kernel_rfl) hPF (Or.inr ⟨by kernel_rfl, rfl⟩) hHeld ?_
     refine htake (i := 15) (v := undef) rfl (by kernel_rfl) (by kernel_rfl) (by kernel_rfl) hPF (Or.inr ⟨by kernel_rfl, rfl⟩) hHeld ?_
     refine htake (i := 16) (v := undef) rfl (by kernel_rfl) (by kernel_rfl) (by kernel_rfl) hPF (Or.inr ⟨by kernel_rfl, rfl⟩) hHeld ?_
     refine htake (i := 17) (v := undef) rfl (by kernel_rfl) (by kernel_rfl) (by kernel_rfl) hPF (Or.inr ⟨by kernel_rfl, rfl⟩) hHeld ?_
     refine htake (i := 18) (v := undef) rfl (by kernel_rfl) (by kernel_rfl) (by kernel_rfl) hPF (Or.inr ⟨by kernel_rfl, rfl⟩) hHeld ?_
     refine htake (i := 19) (v := .bool false) rfl (by kernel_rfl) (by kernel_rfl) (by kernel_rfl) hPF (Or.inl ⟨by kernel_rfl, ?_⟩) hHeld ?_
     ·intro u hS; obtain ⟨p0, p1, p2, p3, p4, p5, p6, p7, p8⟩ := hS; go_simp
     refine htake (i := 20) (v := .bool false) rfl (by kernel_rfl) (by kernel_rfl) (by kernel_rfl) hPF (Or.inl ⟨by kernel_rfl, ?_⟩) hHeld ?_
     ·intro u hS; obtain ⟨p0, p1, p2, p3, p4, p5, p6, p7, p8⟩ := hS; go_simp
     refine wpAnyH_ready (rs := [21]) (by kernel_rfl) (by simp) ?_
     refine AllReadyH.cons (i := 21) rfl (fun K hK => ?_) AllReadyH.nil
     go_simp
     refine hK.out _ _ ?_ (fun hHeld => ?_)
     ·exact ⟨i0, i1, i2, i3, i4, i5, i6, i7, i8⟩
     clear hK K
     refine wpAnyH_done (by kernel_rfl) ?_ _
     go_wp2_with fail
     go_meet
     case rel => exact ⟨rfl, HB3, HW3⟩
    ·obtain ⟨k', rfl⟩ : ∃ k', k = k' + 1 := ⟨k - 1, by omega⟩
     have hlt' : k' < es.length := by omega
     obtain ⟨e0, e1, e2, e3, e4, e5⟩ := HCC.out k' hlt'
     obtain ⟨⟨yit, ⟨yn, yl, yc⟩, yq, yp⟩, hy⟩ : ∃ x, es[k']'hlt' = x := ⟨_, rfl⟩
     rw [hy] at e0 e1 e2 e3 e4 e5
     dsimp only at e0 e1 e2 e3 e4 e5
     have hab2 : aboveE ⟨eit, ⟨dn, dl, dc⟩, eq, ep⟩ ⟨yit, ⟨yn, yl, yc⟩, yq, yp⟩ = ab := by rw [← HAB.out]; rw [preE_succ hlt', hy]; rfl
     have hab := fun w => aboveR_any ⟨eit, ⟨dn, dl, dc⟩, eq, ep⟩ ⟨yit, ⟨yn, yl, yc⟩, yq, yp⟩ w
     rw [hab2] at hab
     dsimp only [entV] at hab
     have s9 := old_cell HB1.out HBL.out e0
     have s10 := old_cell HB1.out HBL.out e1
     have s11 := old_cell HB1.out HBL.out e2
     have s12 := old_cell HB1.out HBL.out e3
     have s13 := old_cell HB1.out HBL.out e4
     have s14 := old_cell HB1.out HBL.out e5
     have hw : IntKind.i64.wrap (k' : Int) = (k' : Int) := by rw [IntKind.wrap_i64]; omega
     clear hab2 hy
     cases ab
     case false =>
      refine hstart (S := fun u => u.cell? ⟨w.heap.size, 0, none⟩ = some (.slice (some ⟨b, off, none⟩) es.length ec) ∧ u.cell? ⟨w.heap.size, 1, none⟩ = some (mv) ∧ u.cell? ⟨w.heap.size, 2, none⟩ = some (cv) ∧ u.cell? ⟨wr.heap.size, 0, none⟩ = some (.string ⟨eit.toArray⟩) ∧ u.cell? ⟨wr.heap.size, 1, none⟩ = some (.int .i64 dn) ∧ u.cell? ⟨wr.heap.size, 2, none⟩ = some (.int .i64 dl) ∧ u.cell? ⟨wr.heap.size, 3, none⟩ = some (.int .i64 dc) ∧ u.cell? ⟨wr.heap.size, 4, none⟩ = some (.int .i64 eq) ∧ u.cell? ⟨wr.heap.size, 5, none⟩ = some (.int .u64 (ep : Int)) ∧ u.cell? ⟨b, off + k' * 6, none⟩ = some (.string ⟨yit.toArray⟩) ∧ u.cell? ⟨b, off + k' * 6 + 1, none⟩ = some (.int .i64 yn) ∧ u.cell? ⟨b, off + k' * 6 + 2, none⟩ = some (.int .i64 yl) ∧ u.cell? ⟨b, off + k' * 6 + 3, none⟩ = some (.int .i64 yc) ∧ u.cell? ⟨b, off + k' * 6 + 4, none⟩ = some (.int .i64 yq) ∧ u.cell? ⟨b, off + k' * 6 + 5, none⟩ = some (.int .u64 (yp : Int))) (by kernel_rfl) (by repeat (first | exact PG.body | refine PG.then_ ?_ | refine PG.inBlock ?_)) ?_ (fun hPF hHeld => ?_)
      ·exact ⟨s0, s1, s2, s3, s4, s5, s6, s7, s8, s9, s10, s11, s12, s13, s14⟩
      refine htake (i := 0) (v := .pointer (some ⟨w.heap.size, 1, none⟩)) rfl (by kernel_rfl) (by kernel_rfl) (by kernel_rfl) hPF (Or.inl ⟨by kernel_rfl, ?_⟩) hHeld ?_
      ·intro u hS; obtain ⟨p0, p1, p2, p3, p4, p5, p6, p7, p8, p9, p10, p11, p12, p13, p14⟩ := hS; go_simp
      refine htake (i := 1) (v := .agg #[mv, cv]) rfl (by kernel_rfl) (by kernel_rfl) (by kernel_rfl) hPF (Or.inl ⟨by kernel_rfl, ?_⟩) hHeld ?_
      ·intro u hS; obtain ⟨p0, p1, p2, p3, p4, p5, p6, p7, p8, p9, p10, p11, p12, p13, p14⟩ := hS; go_simp
      refine htake (i := 2) (v := .pointer (some ⟨wr.heap.size, 1, none⟩)) rfl (by kernel_rfl) (by kernel_rfl) (by kernel_rfl) hPF (Or.inl ⟨by kernel_rfl, ?_⟩) hHeld ?_
      ·intro u hS; obtain ⟨p0, p1, p2, p3, p4, p5, p6, p7, p8, p9, p10, p11, p12, p13, p14⟩ := hS; go_simp
      refine htake (i := 3) (v := .agg #[.int .i64 dn, .int .i64 dl, .int .i64 dc]) rfl (by kernel_rfl) (by kernel_rfl) (by kernel_rfl) hPF (Or.inl ⟨by kernel_rfl, ?_⟩) hHeld ?_
      ·intro u hS; obtain ⟨p0, p1, p2, p3, p4, p5, p6, p7, p8, p9, p10, p11, p12, p13, p14⟩ := hS; go_simp
      refine wpAnyH_ready (rs := [4]) (by kernel_rfl) (by simp) ?_
      refine AllReadyH.cons (i := 4) rfl (fun K hK => ?_) AllReadyH.nil
      go_simp
      go_at_call 43
      refine (hco w1.drew (HM.out.below HB1.out.drew (Nat.le_refl _)) (HC.out.below HB1.out.drew (Nat.le_refl _))).mono ?_
      rintro e w3 ⟨rfl, hb⟩
      have HW3 := Lib.hid ((Below.refl w1.heap.size w1).drew.trans hb)
      have HB3 := Lib.hid (HB1.out.trans (HW3.out.mono HB1.out.size))
      clear hb
      have i0 := old_cell HB3.out HS.out q0
      have i1 := old_cell HB3.out HS.out q1
      have i2 := old_cell HB3.out HS.out q2
      have i3 := old_cell HW3.out HS1.out t0
      have i4 := old_cell HW3.out HS1.out t1
      have i5 := old_cell HW3.out HS1.out t2
      have i6 := old_cell HW3.out HS1.out t3
      have i7 := old_cell HW3.out HS1.out t4
      have i8 := old_cell HW3.out HS1.out t5
      have i9 := old_cell HB3.out HBL.out e0
      have i10 := old_cell HB3.out HBL.out e1
      have i11 := old_cell HB3.out HBL.out e2
      have i12 := old_cell HB3.out HBL.out e3
      have i13 := old_cell HB3.out HBL.out e4
      have i14 := old_cell HB3.out HBL.out e5
      refine hK.out _ _ ?_ (fun hHeld => ?_)
      ·exact ⟨i0, i1, i2, i3, i4, i5, i6, i7, i8, i9, i10, i11, i12, i13, i14⟩
      clear hK K
      refine htake (i := 5) (v := .bool false) rfl (by kernel_rfl) (by kernel_rfl) (by kernel_rfl) hPF (Or.inl ⟨by kernel_rfl, ?_⟩) hHeld ?_
      ·intro u hS; obtain ⟨p0, p1, p2, p3, p4, p5, p6, p7, p8, p9, p10, p11, p12, p13, p14⟩ := hS; go_simp
      refine htake (i := 6) (v := .bool false) rfl (by kernel_rfl) (by kernel_rfl) (by kernel_rfl) hPF (Or.inl ⟨by kernel_rfl, ?_⟩) hHeld ?_
      ·intro u hS; obtain ⟨p0, p1, p2, p3, p4, p5, p6, p7, p8, p9, p10, p11, p12, p13, p14⟩ := hS; go_simp
      refine htake (i := 7) (v := .int .i64 ((k' : Int) + 1)) rfl (by kernel_rfl) (by kernel_rfl) (by kernel_rfl) hPF (Or.inl ⟨by kernel_rfl, ?_⟩) hHeld ?_
      ·intro u hS; obtain ⟨p0, p1, p2, p3, p4, p5, p6, p7, p8, p9, p10, p11, p12, p13, p14⟩ := hS; go_simp
      refine htake (i := 8) (v := .bool true) rfl (by kernel_rfl) (by kernel_rfl) (by kernel_rfl) hPF (Or.inl ⟨by kernel_rfl, ?_⟩) hHeld ?_
      ·intro u hS; obtain ⟨p0, p1, p2, p3, p4, p5, p6, p7, p8, p9, p10, p11, p12, p13, p14⟩ := hS; go_simp
      refine htake (i := 9) (v := .bool true) rfl (by kernel_rfl) (by kernel_rfl) (by kernel_rfl) hPF (Or.inl ⟨by kernel_rfl, ?_⟩) hHeld ?_
      ·intro u hS; obtain ⟨p0, p1, p2, p3, p4, p5, p6, p7, p8, p9, p10, p11, p12, p13, p14⟩ := hS; go_simp
      refine htake (i := 10) (v := .agg #[.string ⟨eit.toArray⟩, .int .i64 dn, .int .i64 dl, .int .i64 dc, .int .i64 eq, .int .u64 (ep : Int)]) rfl (by kernel_rfl) (by kernel_rfl) (by kernel_rfl) hPF (Or.inl ⟨by kernel_rfl, ?_⟩) hHeld ?_
      ·intro u hS; obtain ⟨p0, p1, p2, p3, p4, p5, p6, p7, p8, p9, p10, p11, p12, p13, p14⟩ := hS; go_simp
      refine htake (i := 11) (v := .pointer (some ⟨w.heap.size, 0, none⟩)) rfl (by kernel_rfl) (by kernel_rfl) (by kernel_rfl) hPF (Or.inl ⟨by kernel_rfl, ?_⟩) hHeld ?_
      ·intro u hS; obtain ⟨p0, p1, p2, p3, p4, p5, p6, p7, p8, p9, p10, p11, p12, p13, p14⟩ := hS; go_simp
      refine htake (i := 12) (v := .slice (some ⟨b, off, none⟩) es.length ec) rfl (by kernel_rfl) (by kernel_rfl) (by kernel_rfl) hPF (Or.inl ⟨by kernel_rfl, ?_⟩) hHeld ?_
      ·intro u hS; obtain ⟨p0, p1, p2, p3, p4, p5, p6, p7, p8, p9, p10, p11, p12, p13, p14⟩ := hS; go_simp
      refine htake (i := 13) (v := .int .i64 ((k' : Int) + 1)) rfl (by kernel_rfl) (by kernel_rfl) (by kernel_rfl) hPF (Or.inl ⟨by kernel_rfl, ?_⟩) hHeld ?_
      ·intro u hS; obtain ⟨p0, p1, p2, p3, p4, p5, p6, p7, p8, p9, p10, p11, p12, p13, p14⟩ := hS; go_simp
      refine htake (i := 14) (v := .int .i64 (k' : Int)) rfl (by kernel_rfl) (by kernel_rfl) (by kernel_rfl) hPF (Or.inl ⟨by kernel_rfl, ?_⟩) hHeld ?_
      ·intro u hS; obtain ⟨p0, p1, p2, p3, p4, p5, p6, p7, p8, p9, p10, p11, p12, p13, p14⟩ := hS; go_simp
      refine htake (i := 15) (v := .pointer (some ⟨b, off + k' * 6, none⟩)) rfl (by kernel_rfl) (by kernel_rfl) (by kernel_rfl) hPF (Or.inl ⟨by kernel_rfl, ?_⟩) hHeld ?_
      ·intro u hS; obtain ⟨p0, p1, p2, p3, p4, p5, p6, p7, p8, p9, p10, p11, p12, p13, p14⟩ := hS; go_simp
      refine htake (i := 16) (v := .agg #[.string ⟨yit.toArray⟩, .int .i64 yn, .int .i64 yl, .int .i64 yc, .int .i64 yq, .int .u64 (yp : Int)]) rfl (by kernel_rfl) (by kernel_rfl) (by kernel_rfl) hPF (Or.inl ⟨by kernel_rfl, ?_⟩) hHeld ?_
      ·intro u hS; obtain ⟨p0, p1, p2, p3, p4, p5, p6, p7, p8, p9, p10, p11, p12, p13, p14⟩ := hS; go_simp
      refine wpAnyH_ready (rs := [17]) (by kernel_rfl) (by simp) ?_
      refine AllReadyH.cons (i := 17) rfl (fun K hK => ?_) AllReadyH.nil
      go_simp
      go_at_call 44
      refine (hab _).mono ?_
      rintro e w4 ⟨rfl, hb⟩
      have HW4 := Lib.hid (HW3.out.trans (hb.mono HW3.out.size))
      have HB4 := Lib.hid (HB1.out.trans (HW4.out.mono HB1.out.size))
      clear hb
      have j0 := old_cell HB4.out HS.out q0
      have j1 := old_cell HB4.out HS.out q1
      have j2 := old_cell HB4.out HS.out q2
      have j3 := old_cell HW4.out HS1.out t0
      have j4 := old_cell HW4.out HS1.out t1
      have j5 := old_cell HW4.out HS1.out t2
      have j6 := old_cell HW4.out HS1.out t3
      have j7 := old_cell HW4.out HS1.out t4
      have j8 := old_cell HW4.out HS1.out t5
      have j9 := old_cell HB4.out HBL.out e0
      have j10 := old_cell HB4.out HBL.out e1
      have j11 := old_cell HB4.out HBL.out e2
      have j12 := old_cell HB4.out HBL.out e3
      have j13 := old_cell HB4.out HBL.out e4
      have j14 := old_cell HB4.out HBL.out e5
      refine hK.out _ _ ?_ (fun hHeld => ?_)
      ·exact ⟨j0, j1, j2, j3, j4, j5, j6, j7, j8, j9, j10, j11, j12, j13, j14⟩
      clear hK K
      refine htake (i := 18) (v := .bool true) rfl (by kernel_rfl) (by kernel_rfl) (by kernel_rfl) hPF (Or.inl ⟨by kernel_rfl, ?_⟩) hHeld ?_
      ·intro u hS; obtain ⟨p0, p1, p2, p3, p4, p5, p6, p7, p8, p9, p10, p11, p12, p13, p14⟩ := hS; go_simp
      refine htake (i := 19) (v := .bool true) rfl (by kernel_rfl) (by kernel_rfl) (by kernel_rfl) hPF (Or.inl ⟨by kernel_rfl, ?_⟩) hHeld ?_
      ·intro u hS; obtain ⟨p0, p1, p2, p3, p4, p5, p6, p7, p8, p9, p10, p11, p12, p13, p14⟩ := hS; go_simp
      refine htake (i := 20) (v := .bool true) rfl (by kernel_rfl) (by kernel_rfl) (by kernel_rfl) hPF (Or.inl ⟨by kernel_rfl, ?_⟩) hHeld ?_
      ·intro u hS; obtain ⟨p0, p1, p2, p3, p4, p5, p6, p7, p8, p9, p10, p11, p12, p13, p14⟩ := hS; go_simp
      refine wpAnyH_ready (rs := [21]) (by kernel_rfl) (by simp) ?_
      refine AllReadyH.cons (i := 21) rfl (fun K hK => ?_) AllReadyH.nil
      go_simp
      refine hK.out _ _ ?_ (fun hHeld => ?_)
      ·exact ⟨j0, j1, j2, j3, j4, j5, j6, j7, j8, j9, j10, j11, j12, j13, j14⟩
      clear hK K
      refine wpAnyH_done (by kernel_rfl) ?_ _
      go_wp2_with fail
      go_meet
      case rel => exact ⟨rfl, HB4, HW4⟩
     case true =>
      refine hstart (S := fun u => u.cell? ⟨w.heap.size, 0, none⟩ = some (.slice (some ⟨b, off, none⟩) es.length ec) ∧ u.cell? ⟨w.heap.size, 1, none⟩ = some (mv) ∧ u.cell? ⟨w.heap.size, 2, none⟩ = some (cv) ∧ u.cell? ⟨wr.heap.size, 0, none⟩ = some (.string ⟨eit.toArray⟩) ∧ u.cell? ⟨wr.heap.size, 1, none⟩ = some (.int .i64 dn) ∧ u.cell? ⟨wr.heap.size, 2, none⟩ = some (.int .i64 dl) ∧ u.cell? ⟨wr.heap.size, 3, none⟩ = some (.int .i64 dc) ∧ u.cell? ⟨wr.heap.size, 4, none⟩ = some (.int .i64 eq) ∧ u.cell? ⟨wr.heap.size, 5, none⟩ = some (.int .u64 (ep : Int)) ∧ u.cell? ⟨b, off + k' * 6, none⟩ = some (.string ⟨yit.toArray⟩) ∧ u.cell? ⟨b, off + k' * 6 + 1, none⟩ = some (.int .i64 yn) ∧ u.cell? ⟨b, off + k' * 6 + 2, none⟩ = some (.int .i64 yl) ∧ u.cell? ⟨b, off + k' * 6 + 3, none⟩ = some (.int .i64 yc) ∧ u.cell? ⟨b, off + k' * 6 + 4, none⟩ = some (.int .i64 yq) ∧ u.cell? ⟨b, off + k' * 6 + 5, none⟩ = some (.int .u64 (yp : Int))) (by kernel_rfl) (by repeat (first | exact PG.body | refine PG.then_ ?_ | refine PG.inBlock ?_)) ?_ (fun hPF hHeld => ?_)
      ·exact ⟨s0, s1, s2, s3, s4, s5, s6, s7, s8, s9, s10, s11, s12, s13, s14⟩
      refine htake (i := 0) (v := .pointer (some ⟨w.heap.size, 1, none⟩)) rfl (by kernel_rfl) (by kernel_rfl) (by kernel_rfl) hPF (Or.inl ⟨by kernel_rfl, ?_⟩) hHeld ?_
      ·intro u hS; obtain ⟨p0, p1, p2, p3, p4, p5, p6, p7, p8, p9, p10, p11, p12, p13, p14⟩ := hS; go_simp
      refine htake (i := 1) (v := .agg #[mv, cv]) rfl (by kernel_rfl) (by kernel_rfl) (by kernel_rfl) hPF (Or.inl ⟨by kernel_rfl, ?_⟩) hHeld ?_
      ·intro u hS; obtain ⟨p0, p1, p2, p3, p4, p5, p6, p7, p8, p9, p10, p11, p12, p13, p14⟩ := hS; go_simp
      refine htake (i := 2) (v := .pointer (some ⟨wr.heap.size, 1, none⟩)) rfl (by kernel_rfl) (by kernel_rfl) (by kernel_rfl) hPF (Or.inl ⟨by kernel_rfl, ?_⟩) hHeld ?_
      ·intro u hS; obtain ⟨p0, p1, p2, p3, p4, p5, p6, p7, p8, p9, p10, p11, p12, p13, p14⟩ := hS; go_simp
      refine htake (i := 3) (v := .agg #[.int .i64 dn, .int .i64 dl, .int .i64 dc]) rfl (by kernel_rfl) (by kernel_rfl) (by kernel_rfl) hPF (Or.inl ⟨by kernel_rfl, ?_⟩) hHeld ?_
      ·intro u hS; obtain ⟨p0, p1, p2, p3, p4, p5, p6, p7, p8, p9, p10, p11, p12, p13, p14⟩ := hS; go_simp
      refine wpAnyH_ready (rs := [4]) (by kernel_rfl) (by simp) ?_
      refine AllReadyH.cons (i := 4) rfl (fun K hK => ?_) AllReadyH.nil
      go_simp
      go_at_call 43
      refine (hco w1.drew (HM.out.below HB1.out.drew (Nat.le_refl _)) (HC.out.below HB1.out.drew (Nat.le_refl _))).mono ?_
      rintro e w3 ⟨rfl, hb⟩
      have HW3 := Lib.hid ((Below.refl w1.heap.size w1).drew.trans hb)
      have HB3 := Lib.hid (HB1.out.trans (HW3.out.mono HB1.out.size))
      clear hb
      have i0 := old_cell HB3.out HS.out q0
      have i1 := old_cell HB3.out HS.out q1
      have i2 := old_cell HB3.out HS.out q2
      have i3 := old_cell HW3.out HS1.out t0
      have i4 := old_cell HW3.out HS1.out t1
      have i5 := old_cell HW3.out HS1.out t2
      have i6 := old_cell HW3.out HS1.out t3
      have i7 := old_cell HW3.out HS1.out t4
      have i8 := old_cell HW3.out HS1.out t5
      have i9 := old_cell HB3.out HBL.out e0
      have i10 := old_cell HB3.out HBL.out e1
      have i11 := old_cell HB3.out HBL.out e2
      have i12 := old_cell HB3.out HBL.out e3
      have i13 := old_cell HB3.out HBL.out e4
      have i14 := old_cell HB3.out HBL.out e5
      refine hK.out _ _ ?_ (fun hHeld => ?_)
      ·exact ⟨i0, i1, i2, i3, i4, i5, i6, i7, i8, i9, i10, i11, i12, i13, i14⟩
      clear hK K
      refine htake (i := 5) (v := .bool false) rfl (by kernel_rfl) (by kernel_rfl) (by kernel_rfl) hPF (Or.inl ⟨by kernel_rfl, ?_⟩) hHeld ?_
      ·intro u hS; obtain ⟨p0, p1, p2, p3, p4, p5, p6, p7, p8, p9, p10, p11, p12, p13, p14⟩ := hS; go_simp
      refine htake (i := 6) (v := .bool false) rfl (by kernel_rfl) (by kernel_rfl) (by kernel_rfl) hPF (Or.inl ⟨by kernel_rfl, ?_⟩) hHeld ?_
      ·intro u hS; obtain ⟨p0, p1, p2, p3, p4, p5, p6, p7, p8, p9, p10, p11, p12, p13, p14⟩ := hS; go_simp
      refine htake (i := 7) (v := .int .i64 ((k' : Int) + 1)) rfl (by kernel_rfl) (by kernel_rfl) (by kernel_rfl) hPF (Or.inl ⟨by kernel_rfl, ?_⟩) hHeld ?_
      ·intro u hS; obtain ⟨p0, p1, p2, p3, p4, p5, p6, p7, p8, p9, p10, p11, p12, p13, p14⟩ := hS; go_simp
      refine htake (i := 8) (v := .bool true) rfl (by kernel_rfl) (by kernel_rfl) (by kernel_rfl) hPF (Or.inl ⟨by kernel_rfl, ?_⟩) hHeld ?_
      ·intro u hS; obtain ⟨p0, p1, p2, p3, p4, p5, p6, p7, p8, p9, p10, p11, p12, p13, p14⟩ := hS; go_simp
      refine htake (i := 9) (v := .bool true) rfl (by kernel_rfl) (by kernel_rfl) (by kernel_rfl) hPF (Or.inl ⟨by kernel_rfl, ?_⟩) hHeld ?_
      ·intro u hS; obtain ⟨p0, p1, p2, p3, p4, p5, p6, p7, p8, p9, p10, p11, p12, p13, p14⟩ := hS; go_simp
      refine htake (i := 10) (v := .agg #[.string ⟨eit.toArray⟩, .int .i64 dn, .int .i64 dl, .int .i64 dc, .int .i64 eq, .int .u64 (ep : Int)]) rfl (by kernel_rfl) (by kernel_rfl) (by kernel_rfl) hPF (Or.inl ⟨by kernel_rfl, ?_⟩) hHeld ?_
      ·intro u hS; obtain ⟨p0, p1, p2, p3, p4, p5, p6, p7, p8, p9, p10, p11, p12, p13, p14⟩ := hS; go_simp
      refine htake (i := 11) (v := .pointer (some ⟨w.heap.size, 0, none⟩)) rfl (by kernel_rfl) (by kernel_rfl) (by kernel_rfl) hPF (Or.inl ⟨by kernel_rfl, ?_⟩) hHeld ?_
      ·intro u hS; obtain ⟨p0, p1, p2, p3, p4, p5, p6, p7, p8, p9, p10, p11, p12, p13, p14⟩ := hS; go_simp
      refine htake (i := 12) (v := .slice (some ⟨b, off, none⟩) es.length ec) rfl (by kernel_rfl) (by kernel_rfl) (by kernel_rfl) hPF (Or.inl ⟨by kernel_rfl, ?_⟩) hHeld ?_
      ·intro u hS; obtain ⟨p0, p1, p2, p3, p4, p5, p6, p7, p8, p9, p10, p11, p12, p13, p14⟩ := hS; go_simp
      refine htake (i := 13) (v := .int .i64 ((k' : Int) + 1)) rfl (by kernel_rfl) (by kernel_rfl) (by kernel_rfl) hPF (Or.inl ⟨by kernel_rfl, ?_⟩) hHeld ?_
      ·intro u hS; obtain ⟨p0, p1, p2, p3, p4, p5, p6, p7, p8, p9, p10, p11, p12, p13, p14⟩ := hS; go_simp
      refine htake (i := 14) (v := .int .i64 (k' : Int)) rfl (by kernel_rfl) (by kernel_rfl) (by kernel_rfl) hPF (Or.inl ⟨by kernel_rfl, ?_⟩) hHeld ?_
      ·intro u hS; obtain ⟨p0, p1, p2, p3, p4, p5, p6, p7, p8, p9, p10, p11, p12, p13, p14⟩ := hS; go_simp
      refine htake (i := 15) (v := .pointer (some ⟨b, off + k' * 6, none⟩)) rfl (by kernel_rfl) (by kernel_rfl) (by kernel_rfl) hPF (Or.inl ⟨by kernel_rfl, ?_⟩) hHeld ?_
      ·intro u hS; obtain ⟨p0, p1, p2, p3, p4, p5, p6, p7, p8, p9, p10, p11, p12, p13, p14⟩ := hS; go_simp
      refine htake (i := 16) (v := .agg #[.string ⟨yit.toArray⟩, .int .i64 yn, .int .i64 yl, .int .i64 yc, .int .i64 yq, .int .u64 (yp : Int)]) rfl (by kernel_rfl) (by kernel_rfl) (by kernel_rfl) hPF (Or.inl ⟨by kernel_rfl, ?_⟩) hHeld ?_
      ·intro u hS; obtain ⟨p0, p1, p2, p3, p4, p5, p6, p7, p8, p9, p10, p11, p12, p13, p14⟩ := hS; go_simp
      refine wpAnyH_ready (rs := [17]) (by kernel_rfl) (by simp) ?_
      refine AllReadyH.cons (i := 17) rfl (fun K hK => ?_) AllReadyH.nil
      go_simp
      go_at_call 44
      refine (hab _).mono ?_
      rintro e w4 ⟨rfl, hb⟩
      have HW4 := Lib.hid (HW3.out.trans (hb.mono HW3.out.size))
      have HB4 := Lib.hid (HB1.out.trans (HW4.out.mono HB1.out.size))
      clear hb
      have j0 := old_cell HB4.out HS.out q0
      have j1 := old_cell HB4.out HS.out q1
      have j2 := old_cell HB4.out HS.out q2
      have j3 := old_cell HW4.out HS1.out t0
      have j4 := old_cell HW4.out HS1.out t1
      have j5 := old_cell HW4.out HS1.out t2
      have j6 := old_cell HW4.out HS1.out t3
      have j7 := old_cell HW4.out HS1.out t4
      have j8 := old_cell HW4.out HS1.out t5
      have j9 := old_cell HB4.out HBL.out e0
      have j10 := old_cell HB4.out HBL.out e1
      have j11 := old_cell HB4.out HBL.out e2
      have j12 := old_cell HB4.out HBL.out e3
      have j13 := old_cell HB4.out HBL.out e4
      have j14 := old_cell HB4.out HBL.out e5
      refine hK.out _ _ ?_ (fun hHeld => ?_)
      ·exact ⟨j0, j1, j2, j3, j4, j5, j6, j7, j8, j9, j10, j11, j12, j13, j14⟩
      clear hK K
      refine htake (i := 18) (v := .bool false) rfl (by kernel_rfl) (by kernel_rfl) (by kernel_rfl) hPF (Or.inl ⟨by kernel_rfl, ?_⟩) hHeld ?_
      ·intro u hS; obtain ⟨p0, p1, p2, p3, p4, p5, p6, p7, p8, p9, p10, p11, p12, p13, p14⟩ := hS; go_simp
      refine htake (i := 19) (v := .bool false) rfl (by kernel_rfl) (by kernel_rfl) (by kernel_rfl) hPF (Or.inl ⟨by kernel_rfl, ?_⟩) hHeld ?_
      ·intro u hS; obtain ⟨p0, p1, p2, p3, p4, p5, p6, p7, p8, p9, p10, p11, p12, p13, p14⟩ := hS; go_simp
      refine htake (i := 20) (v := .bool false) rfl (by kernel_rfl) (by kernel_rfl) (by kernel_rfl) hPF (Or.inl ⟨by kernel_rfl, ?_⟩) hHeld ?_
      ·intro u hS; obtain ⟨p0, p1, p2, p3, p4, p5, p6, p7, p8, p9, p10, p11, p12, p13, p14⟩ := hS; go_simp
      refine wpAnyH_ready (rs := [21]) (by kernel_rfl) (by simp) ?_
      refine AllReadyH.cons (i := 21) rfl (fun K hK => ?_) AllReadyH.nil
      go_simp
      refine hK.out _ _ ?_ (fun hHeld => ?_)
      ·exact ⟨j0, j1, j2, j3, j4, j5, j6, j7, j8, j9, j10, j11, j12, j13, j14⟩
      clear hK K
      refine wpAnyH_done (by kernel_rfl) ?_ _
      go_wp2_with fail
      go_meet
      case rel => exact ⟨rfl, HB4, HW4⟩
   case rest =>
   clear s0 s1 s2 s3 s4 s5 s6 s7 s8
   obtain ⟨rfl, HBX, HWX⟩ := hcut
   obtain ⟨ok, hok⟩ : ∃ x, (cv' && ab) = x := ⟨_, rfl⟩
   rw [hok]
   have hst := HST5.out
   rw [hok] at hst
   have HST6 := Lib.hid hst
   clear hok hst
   cases ok
   case false =>
    have HV : Hid (canC ⟨es, x⟩ = 50) := Lib.hid (by have h := HST6.out; rw [if_pos rfl] at h; have h2 := HST.out; rw [h, if_pos (by decide)] at h2; rw [HF.out, h2]; rfl)
    go_wp2_with fail
    go_ret
    exact ⟨by rw [HV.out]; rfl, HB.out.trans (HBX.out.mono HB.out.size)⟩
   case true =>
   have hst7 := HST6.out
   rw [if_neg (by simp)] at hst7
   have HST7 := Lib.hid hst7
   clear hst7
   have x0 := old_cell HBX.out HS.out q0
   have hkc : (k : Int) ≤ (ec : Int) := by omega
   go_wp2_with fail
   clear x0
   go_loopw [65] (fun j wq => ∃ i : Nat, i ≤ k ∧ j = .int .i64 (i : Int) ∧ Hid (Below w0.heap.size w0 wq) ∧ Hid (Below w1.heap.size w1 wq) ∧ Hid ((es.take i).any (fun y => decide (y.d = (⟨dn, dl, dc⟩ : Dt))) = false)) (fun j _ => k - (intOf j).toNat)
   case atStart => exact ⟨0, by omega, rfl, HBX, HWX, Lib.hid rfl⟩
   case round =>
    obtain ⟨i, hi, rfl, HBq, HWq, HNO⟩ := hrel
    by_cases hik : i < k
    ·have hlt' : i < es.length := by omega
     obtain ⟨e0, e1, e2, e3, e4, e5⟩ := HCC.out i hlt'
     obtain ⟨⟨yit, ⟨yn, yl, yc⟩, yq, yp⟩, hy⟩ : ∃ x, es[i]'hlt' = x := ⟨_, rfl⟩
     rw [hy] at e0 e1 e2 e3 e4 e5
     dsimp only at e0 e1 e2 e3 e4 e5
     have s0 := old_cell HBq.out HBL.out e0
     have s1 := old_cell HBq.out HBL.out e1
     have s2 := old_cell HBq.out HBL.out e2
     have s3 := old_cell HBq.out HBL.out e3
     have s4 := old_cell HBq.out HBL.out e4
     have s5 := old_cell HBq.out HBL.out e5
     have HY := Lib.hid hy
     clear hy e0 e1 e2 e3 e4 e5
     obtain ⟨w5, hw5⟩ : ∃ y, wr.alloc (.cells #[.string ⟨yit.toArray⟩, .int .i64 yn, .int .i64 yl, .int .i64 yc, .int .i64 yq, .int .u64 (yp : Int)] 92) = y := ⟨_, rfl⟩
     have HB5 : Hid (Below w0.heap.size w0 w5) := Lib.hid (by rw [← hw5]; exact HBq.out.alloc HBq.out.size _)
     have HW5 : Hid (Below w1.heap.size w1 w5) := Lib.hid (by rw [← hw5]; exact HWq.out.alloc HWq.out.size _)
     have HK5 : Hid (Bk w5 wr.heap.size [.string ⟨yit.toArray⟩, .int .i64 yn, .int .i64 yl, .int .i64 yc, .int .i64 yq, .int .u64 (yp : Int)]) := Lib.hid (by rw [← hw5]; exact Bk.new wr _ 92 rfl)
     have hik' : (i : Int) < (k : Int) := by omega
     go_upto_region 19 with fail
     clear hw5 s0 s1 s2 s3 s4 s5
     have y1 := (HK5.out 1 _ rfl).1
     have y2 := (HK5.out 2 _ rfl).1
     have y3 := (HK5.out 3 _ rfl).1
     have z1 := old_cell HW5.out HS1.out t1
     have z2 := old_cell HW5.out HS1.out t2
     have z3 := old_cell HW5.out HS1.out t3
     by_cases h1 : yn = dn
     case neg =>
      have g1 : ¬ dn = yn := fun h => h1 h.symm
      have HNO2 := Lib.hid (any_take hlt' HNO.out (by rw [HY.out]; simp [h1]))
      go_wp2_with fail
      exact ⟨⟨i + 1, by omega, by go_num, HB5, HW5, HNO2⟩, by simp [intOf]; omega⟩
     subst h1
     by_cases h2 : yl = dl
     case neg =>
      have g2 : ¬ dl = yl := fun h => h2 h.symm
      have HNO2 := Lib.hid (any_take hlt' HNO.out (by rw [HY.out]; simp [h2]))
      go_wp2_with fail
      exact ⟨⟨i + 1, by omega, by go_num, HB5, HW5, HNO2⟩, by simp [intOf]; omega⟩
     subst h2
     by_cases h3 : yc = dc
     case neg =>
      have g3 : ¬ dc = yc := fun h => h3 h.symm
      have HNO2 := Lib.hid (any_take hlt' HNO.out (by rw [HY.out]; simp [h3]))
      go_wp2_with fail
      exact ⟨⟨i + 1, by omega, by go_num, HB5, HW5, HNO2⟩, by simp [intOf]; omega⟩
     subst h3
     have HV : Hid (canC ⟨es, x⟩ = 50) := Lib.hid (by
      have h := HST7.out
      rw [if_pos (any_hit hlt' hik (by rw [HY.out]))] at h
      have h2 := HST.out
      rw [h, if_pos (by decide)] at h2
      rw [HF.out, h2]; rfl)
     go_wp2_with fail
     go_ret
     exact ⟨by rw [HV.out]; rfl, HB.out.trans (HB5.out.mono HB.out.size)⟩
    ·obtain rfl : i = k := by omega
     have HN2 : Hid (entsE x (preE es (i + 1)) (es.drop (i + 1)) = entsE x [] es) := Lib.hid (by
      have h := HST7.out
      rw [if_neg (by rw [HNO.out]; simp)] at h
      have h2 := HST.out
      rw [h, if_neg (by simp)] at h2
      exact h2.symm)
     go_wp2_with fail
     exact ⟨⟨i + 1, by omega, by go_num, HBq, HN2⟩, by simp [intOf]; omega⟩
  ·have HE0 : Hid (entsE x [] es = 0) := Lib.hid (by
    have h := HN.out
    rw [List.drop_of_length_le (by omega)] at h
    rw [← h]; rfl)
   have r0 := old_cell HR.out HS.out q0
   by_cases h32 : 32 < it
   case pos =>
    have HV : Hid (canC ⟨es, x⟩ = 51) := Lib.hid (by rw [HF.out, HE0.out, if_neg (by simp), if_pos (by rw [HIT.out]; exact h32)])
    have h32' : (32 : Int) < (it : Int) := by omega
    go_wp2_with (go_at_call 45; refine (hit _ (HE.out.below HR.out (Nat.le_refl _))).mono ?_; rintro e w6 ⟨rfl, hb⟩; have HB6 := Lib.hid (HR.out.trans (hb.mono HR.out.size)); clear hb)
    go_ret
    exact ⟨by rw [HV.out]; rfl, HB.out.trans (HB6.out.mono HB.out.size)⟩
   case neg =>
    have HV : Hid (canC ⟨es, x⟩ = 0) := Lib.hid (by rw [HF.out, HE0.out, if_neg (by simp), if_neg (by rw [HIT.out]; exact h32)])
    have h32' : ¬ (32 : Int) < (it : Int) := by omega
    go_wp2_with (go_at_call 45; refine (hit _ (HE.out.below HR.out (Nat.le_refl _))).mono ?_; rintro e w6 ⟨rfl, hb⟩; have HB6 := Lib.hid (HR.out.trans (hb.mono HR.out.size)); clear hb)
    go_ret
    exact ⟨by rw [HV.out]; rfl, HB.out.trans (HB6.out.mono HB.out.size)⟩
end Go.Proofs.YtpdedfpacklnoaaGreatDoor
