/- Contract of ormap.entry: entE; premise: ormap.item's. Contract of ormap.Can: canC; premises: ormap.item's and ormap.many's. -/
import Derived.Test.YtpdedfpacklnoaaGreatDoorTzRfI
import Derived.Test.YtpdedfpacklnoaaGreatDoorTzTkQ
import Derived.Deep.CutRange
import Derived.Test.YtpdedfpacklnoaaGreatDoorTzCnx
set_option maxRecDepth 100000
namespace Go.Proofs.YtpdedfpacklnoaaGreatDoor
open Go.RowKit Go.BL Go.Ct Go.Sl

/-- The contract of ormap.item. -/
def ItemC : Prop := ∀ (l : List UInt8) (w : World), l.length ≤ 1073741824 → Calls Tryz.prog 249 #[.string ⟨l.toArray⟩] w (RetV (.bool (isName l)) w)
set_option maxHeartbeats 16000000 in
theorem entry_any (hI : ItemC) (es : List En) (x : Cx) (ev : Value) (mv cv : Value) (k : Nat) (w : World) (he : Ents w ev es) (hm : Dots w mv x.ms) (hc : Dots w cv x.cl) (hcp : ∀ A n c, ev = .slice A n c → n ≤ c) (hlt : k < es.length) (hl64 : es.length ≤ 64)
  (hsl : ∀ e ∈ es, e.it.length ≤ 1073741824 ∧ e.p < 18446744073709551616) (hx : canX x = true) (hpv : ∀ j (h : j < es.length), j < k → mayD es[j].d = true) :
  Calls Tryz.prog 220 #[.agg #[ev, mv, cv], .int .i64 (k : Int)] w (RetV (.int .i64 ((entE x (preE es k) es[k] : Nat) : Int)) w) := by
 obtain ⟨A, ec, rfl⟩ := he.form
 have hcap : es.length ≤ ec := hcp A es.length ec rfl
 clear hcp
 have HPV := Lib.hid hpv
 have HXX := Lib.hid hx
 clear hpv hx
 obtain ⟨w0, hw0⟩ : ∃ w0, w.alloc (.cells #[.slice A es.length ec, mv, cv] 32) = w0 := ⟨_, rfl⟩
 have HB : Hid (Below w.heap.size w w0) := Lib.hid (by rw [← hw0]; exact (Below.refl _ _).alloc (Nat.le_refl _) _)
 have HS : Hid (w.heap.size < w0.heap.size) := Lib.hid (by rw [← hw0]; simp)
 obtain ⟨q0, q1, q2⟩ : w0.cell? ⟨w.heap.size, 0, none⟩ = some (.slice A es.length ec) ∧ w0.cell? ⟨w.heap.size, 1, none⟩ = some mv ∧ w0.cell? ⟨w.heap.size, 2, none⟩ = some cv := by rw [← hw0]; exact tri_at w _ _ _ 32 _ rfl
 have HM := Lib.hid (hm.below HB.out (Nat.le_refl _))
 have HC := Lib.hid (hc.below HB.out (Nat.le_refl _))
 have HE := Lib.hid (he.below HB.out (Nat.le_refl _))
 clear hm hc he
 obtain ⟨b, off, rfl, hbl, hcc⟩ := ent_cells HE.out (by omega)
 obtain ⟨d0, d1, d2, d3, d4, d5⟩ := hcc k hlt
 have HCC := Lib.hid hcc
 obtain ⟨X, hX⟩ : ∃ y, entE x (preE es k) es[k] = y := ⟨_, rfl⟩
 have hen := hX.symm.trans (entE_as x es k es[k])
 rw [hX]
 have HEN := Lib.hid hen
 have hsk := hsl _ (List.getElem_mem hlt)
 have HMY : Hid (covers x es[k].d = true → mayD es[k].d = true) := Lib.hid (covers_may HXX.out)
 clear hX hen hsl
 obtain ⟨⟨eit, ⟨dn, dl, dc⟩, eq, ep⟩, hx⟩ : ∃ x, es[k]'hlt = x := ⟨_, rfl⟩
 rw [hx] at d0 d1 d2 d3 d4 d5 HEN hsk HMY
 dsimp only at d0 d1 d2 d3 d4 d5 HEN hsk HMY
 have HBL := Lib.hid hbl
 clear hcc hx hbl
 have hnm := fun w => hI eit w hsk.1
 have hpr := fun w => price_any ep hsk.2 w
 have hco := fun w hm hc => covers_any x ⟨dn, dl, dc⟩ mv cv w hm hc
 dsimp only [dotV] at hco
 clear hsk
 obtain ⟨nm, hnm'⟩ : ∃ y, isName eit = y := ⟨_, rfl⟩
 obtain ⟨pr, hpr'⟩ : ∃ y, isPrice ep = y := ⟨_, rfl⟩
 obtain ⟨cv', hcv'⟩ : ∃ y, covers x ⟨dn, dl, dc⟩ = y := ⟨_, rfl⟩
 rw [hnm'] at hnm HEN
 rw [hpr'] at hpr HEN
 rw [hcv'] at hco HEN HMY
 obtain ⟨ab, hab'⟩ : ∃ y, abvP (preE es k) ⟨eit, ⟨dn, dl, dc⟩, eq, ep⟩ = y := ⟨_, rfl⟩
 rw [hab'] at HEN
 have HAB := Lib.hid hab'
 clear hnm' hpr' hcv' hab'
 obtain ⟨w1, hw1⟩ : ∃ w2, w0.alloc (.cells #[.string ⟨eit.toArray⟩, .int .i64 dn, .int .i64 dl, .int .i64 dc, .int .i64 eq, .int .u64 (ep : Int)] 92) = w2 := ⟨_, rfl⟩
 have HB0 : Hid (Below w0.heap.size w0 w1) := Lib.hid (by rw [← hw1]; exact (Below.refl _ _).alloc (Nat.le_refl _) _)
 have HBK : Hid (Bk w1 w0.heap.size [.string ⟨eit.toArray⟩, .int .i64 dn, .int .i64 dl, .int .i64 dc, .int .i64 eq, .int .u64 (ep : Int)]) := Lib.hid (by rw [← hw1]; exact Bk.new w0 _ 92 rfl)
 have HS1 : Hid (w0.heap.size < w1.heap.size) := Lib.hid (by rw [← hw1]; simp)
 have hk' : (k : Int) < (es.length : Int) := by omega
 go_enter Tryz.func220, Tryz.ntmps220
 go_upto_region 2 with fail
 clear hw0 hw1 d0 d1 d2 d3 d4 d5
 have t0 := (HBK.out 0 _ rfl).1
 cases nm
 case false =>
  have HV : Hid (X = 6) := Lib.hid (by rw [HEN.out, if_pos rfl])
  go_wp2_with (go_at_call 249; refine (hnm _).mono ?_; rintro e w1' ⟨rfl, hb⟩; have HWE := Lib.hid hb; clear hb)
  go_ret
  exact ⟨by rw [HV.out]; rfl, HB.out.trans ((HB0.out.trans (HWE.out.mono HB0.out.size)).mono HB.out.size)⟩
 case true =>
 have t4z := (HBK.out 4 _ rfl).1
 go_upto_region 4 with (go_at_call 249; refine (hnm _).mono ?_; rintro e w1' ⟨rfl, hb⟩; have HWE := Lib.hid hb; clear hb)
 have HBE := Lib.hid (HB0.out.trans (HWE.out.mono HB0.out.size))
 have HBKE := Lib.hid (HBK.out.below HWE.out HS1.out)
 have HSE : Hid (w0.heap.size < w1'.heap.size) := Lib.hid (Nat.lt_of_lt_of_le HS1.out HWE.out.size)
 clear t0 t4z
 have t0 := (HBKE.out 0 _ rfl).1
 have t1 := (HBKE.out 1 _ rfl).1
 have t2 := (HBKE.out 2 _ rfl).1
 have t3 := (HBKE.out 3 _ rfl).1
 have t4 := (HBKE.out 4 _ rfl).1
 have t5 := (HBKE.out 5 _ rfl).1
 by_cases hq : eq < 1 ∨ 1000000 < eq
 case pos =>
  have HV : Hid (X = 52) := Lib.hid (by rw [HEN.out, if_neg (by simp), if_pos hq])
  rcases hq with hq | hq
  ·go_wp2_with fail
   go_ret
   exact ⟨by rw [HV.out]; rfl, HB.out.trans (HBE.out.mono HB.out.size)⟩
  ·have hq2 : ¬ eq < 1 := by omega
   go_wp2_with fail
   go_ret
   exact ⟨by rw [HV.out]; rfl, HB.out.trans (HBE.out.mono HB.out.size)⟩
 have hq1 : ¬ eq < 1 := fun h => hq (Or.inl h)
 have hq2 : ¬ 1000000 < eq := fun h => hq (Or.inr h)
 cases pr
 case false =>
  have HV : Hid (X = 53) := Lib.hid (by rw [HEN.out, if_neg (by simp), if_neg hq, if_pos rfl])
  go_wp2_with (go_at_call 250; refine (hpr _).mono ?_; rintro e w_2 ⟨rfl, rfl⟩)
  go_ret
  exact ⟨by rw [HV.out]; rfl, HB.out.trans (HBE.out.mono HB.out.size)⟩
 case true =>
 have HST5 : Hid (X = if (cv' && ab) = false then 50 else if (es.take k).any (fun y => decide (y.d = ⟨dn, dl, dc⟩)) = true then 50 else 0) := Lib.hid (by rw [HEN.out, if_neg (by simp), if_neg hq, if_neg (by simp)])
 clear hq
 go_upto_region 8 with (go_at_call 250; refine (hpr _).mono ?_; rintro e w_2 ⟨rfl, rfl⟩)
 clear hnm hpr hq1 hq2
 have s0 := old_cell HBE.out HS.out q0
 have s1 := old_cell HBE.out HS.out q1
 have s2 := old_cell HBE.out HS.out q2
 have s3 := t0
 have s4 := t1
 have s5 := t2
 have s6 := t3
 have s7 := t4
 have s8 := t5
 go_cut [32] from 32 to 54 (fun s32 wx => s32 = .bool (!(cv' && ab)) ∧ Hid (Below w0.heap.size w0 wx) ∧ Hid (Below w1'.heap.size w1' wx))
 case first =>
  cases cv'
  case false =>
   have HOK : Hid ((!(false && ab)) = true) := Lib.hid (by simp)
   refine hstart (S := fun u => u.cell? ⟨w.heap.size, 0, none⟩ = some (.slice (some ⟨b, off, none⟩) es.length ec) ∧ u.cell? ⟨w.heap.size, 1, none⟩ = some (mv) ∧ u.cell? ⟨w.heap.size, 2, none⟩ = some (cv) ∧ u.cell? ⟨w0.heap.size, 0, none⟩ = some (.string ⟨eit.toArray⟩) ∧ u.cell? ⟨w0.heap.size, 1, none⟩ = some (.int .i64 dn) ∧ u.cell? ⟨w0.heap.size, 2, none⟩ = some (.int .i64 dl) ∧ u.cell? ⟨w0.heap.size, 3, none⟩ = some (.int .i64 dc) ∧ u.cell? ⟨w0.heap.size, 4, none⟩ = some (.int .i64 eq) ∧ u.cell? ⟨w0.heap.size, 5, none⟩ = some (.int .u64 (ep : Int))) (by kernel_rfl) (by repeat (first | exact PG.body | refine PG.then_ ?_ | refine PG.inBlock ?_)) ?_ (fun hPF hHeld => ?_)
   ·exact ⟨s0, s1, s2, s3, s4, s5, s6, s7, s8⟩
   refine htake (i := 0) (v := .pointer (some ⟨w.heap.size, 1, none⟩)) rfl (by kernel_rfl) (by kernel_rfl) (by kernel_rfl) hPF (Or.inl ⟨by kernel_rfl, ?_⟩) hHeld ?_
   ·intro u hS; obtain ⟨p0, p1, p2, p3, p4, p5, p6, p7, p8⟩ := hS; go_simp
   refine htake (i := 1) (v := .agg #[mv, cv]) rfl (by kernel_rfl) (by kernel_rfl) (by kernel_rfl) hPF (Or.inl ⟨by kernel_rfl, ?_⟩) hHeld ?_
   ·intro u hS; obtain ⟨p0, p1, p2, p3, p4, p5, p6, p7, p8⟩ := hS; go_simp
   refine htake (i := 2) (v := .pointer (some ⟨w0.heap.size, 1, none⟩)) rfl (by kernel_rfl) (by kernel_rfl) (by kernel_rfl) hPF (Or.inl ⟨by kernel_rfl, ?_⟩) hHeld ?_
   ·intro u hS; obtain ⟨p0, p1, p2, p3, p4, p5, p6, p7, p8⟩ := hS; go_simp
   refine htake (i := 3) (v := .agg #[.int .i64 dn, .int .i64 dl, .int .i64 dc]) rfl (by kernel_rfl) (by kernel_rfl) (by kernel_rfl) hPF (Or.inl ⟨by kernel_rfl, ?_⟩) hHeld ?_
   ·intro u hS; obtain ⟨p0, p1, p2, p3, p4, p5, p6, p7, p8⟩ := hS; go_simp
   refine wpAnyH_ready (rs := [4]) (by kernel_rfl) (by simp) ?_
   refine AllReadyH.cons (i := 4) rfl (fun K hK => ?_) AllReadyH.nil
   go_simp
   go_at_call 251
   refine (hco w1'.drew (HM.out.below HBE.out.drew (Nat.le_refl _)) (HC.out.below HBE.out.drew (Nat.le_refl _))).mono ?_
   rintro e w3 ⟨rfl, hb⟩
   have HW3 := Lib.hid ((Below.refl w1'.heap.size w1').drew.trans hb)
   have HB3 := Lib.hid (HBE.out.trans (HW3.out.mono HBE.out.size))
   clear hb
   have i0 := old_cell HB3.out HS.out q0
   have i1 := old_cell HB3.out HS.out q1
   have i2 := old_cell HB3.out HS.out q2
   have i3 := old_cell HW3.out HSE.out t0
   have i4 := old_cell HW3.out HSE.out t1
   have i5 := old_cell HW3.out HSE.out t2
   have i6 := old_cell HW3.out HSE.out t3
   have i7 := old_cell HW3.out HSE.out t4
   have i8 := old_cell HW3.out HSE.out t5
   refine hK.out _ _ ?_ (fun hHeld => ?_)
   ·exact ⟨i0, i1, i2, i3, i4, i5, i6, i7, i8⟩
   clear hK K
   refine htake (i := 5) (v := .bool true) rfl (by kernel_rfl) (by kernel_rfl) (by kernel_rfl) hPF (Or.inl ⟨by kernel_rfl, ?_⟩) hHeld ?_
   ·intro u hS; obtain ⟨p0, p1, p2, p3, p4, p5, p6, p7, p8⟩ := hS; go_simp
   refine htake (i := 6) (v := .bool true) rfl (by kernel_rfl) (by kernel_rfl) (by kernel_rfl) hPF (Or.inl ⟨by kernel_rfl, ?_⟩) hHeld ?_
   ·intro u hS; obtain ⟨p0, p1, p2, p3, p4, p5, p6, p7, p8⟩ := hS; go_simp
   refine htake (i := 7) (v := undef) rfl (by kernel_rfl) (by kernel_rfl) (by kernel_rfl) hPF (Or.inr ⟨by kernel_rfl, rfl⟩) hHeld ?_
   refine htake (i := 8) (v := undef) rfl (by kernel_rfl) (by kernel_rfl) (by kernel_rfl) hPF (Or.inr ⟨by kernel_rfl, rfl⟩) hHeld ?_
   refine htake (i := 9) (v := undef) rfl (by kernel_rfl) (by kernel_rfl) (by kernel_rfl) hPF (Or.inr ⟨by kernel_rfl, rfl⟩) hHeld ?_
   refine htake (i := 10) (v := undef) rfl (by kernel_rfl) (by kernel_rfl) (by kernel_rfl) hPF (Or.inr ⟨by kernel_rfl, rfl⟩) hHeld ?_
   refine htake (i := 11) (v := undef) rfl (by kernel_rfl) (by kernel_rfl) (by kernel_rfl) hPF (Or.inr ⟨by kernel_rfl, rfl⟩) hHeld ?_
   refine htake (i := 12) (v := undef) rfl (by kernel_rfl) (by kernel_rfl) (by kernel_rfl) hPF (Or.inr ⟨by kernel_rfl, rfl⟩) hHeld ?_
   refine htake (i := 13) (v := undef) rfl (by kernel_rfl) (by kernel_rfl) (by kernel_rfl) hPF (Or.inr ⟨by kernel_rfl, rfl⟩) hHeld ?_
   refine htake (i := 14) (v := undef) rfl (by kernel_rfl) (by kernel_rfl) (by kernel_rfl) hPF (Or.inr ⟨by kernel_rfl, rfl⟩) hHeld ?_
   refine htake (i := 15) (v := undef) rfl (by kernel_rfl) (by kernel_rfl) (by kernel_rfl) hPF (Or.inr ⟨by kernel_rfl, rfl⟩) hHeld ?_
   refine htake (i := 16) (v := undef) rfl (by kernel_rfl) (by kernel_rfl) (by kernel_rfl) hPF (Or.inr ⟨by kernel_rfl, rfl⟩) hHeld ?_
   refine htake (i := 17) (v := undef) rfl (by kernel_rfl) (by kernel_rfl) (by kernel_rfl) hPF (Or.inr ⟨by kernel_rfl, rfl⟩) hHeld ?_
   refine htake (i := 18) (v := undef) rfl (by kernel_rfl) (by kernel_rfl) (by kernel_rfl) hPF (Or.inr ⟨by kernel_rfl, rfl⟩) hHeld ?_
   refine htake (i := 19) (v := undef) rfl (by kernel_rfl) (by kernel_rfl) (by kernel_rfl) hPF (Or.inr ⟨by kernel_rfl, rfl⟩) hHeld ?_
   refine htake (i := 20) (v := .bool true) rfl (by kernel_rfl) (by kernel_rfl) (by kernel_rfl) hPF (Or.inl ⟨by kernel_rfl, ?_⟩) hHeld ?_
   ·intro u hS; obtain ⟨p0, p1, p2, p3, p4, p5, p6, p7, p8⟩ := hS; go_simp
   refine wpAnyH_ready (rs := [21]) (by kernel_rfl) (by simp) ?_
   refine AllReadyH.cons (i := 21) rfl (fun K hK => ?_) AllReadyH.nil
   go_simp
   refine hK.out _ _ ?_ (fun hHeld => ?_)
   ·exact ⟨i0, i1, i2, i3, i4, i5, i6, i7, i8⟩
   clear hK K
   refine wpAnyH_done (by kernel_rfl) ?_ _
   go_wp2_with fail
   go_meet
   case rel => exact ⟨by rw [HOK.out], HB3, HW3⟩
  case true =>
  rcases Nat.eq_zero_or_pos k with h0 | h0
  ·subst h0
   have hab1 : ab = true := HAB.out.symm
   subst hab1
   refine hstart (S := fun u => u.cell? ⟨w.heap.size, 0, none⟩ = some (.slice (some ⟨b, off, none⟩) es.length ec) ∧ u.cell? ⟨w.heap.size, 1, none⟩ = some (mv) ∧ u.cell? ⟨w.heap.size, 2, none⟩ = some (cv) ∧ u.cell? ⟨w0.heap.size, 0, none⟩ = some (.string ⟨eit.toArray⟩) ∧ u.cell? ⟨w0.heap.size, 1, none⟩ = some (.int .i64 dn) ∧ u.cell? ⟨w0.heap.size, 2, none⟩ = some (.int .i64 dl) ∧ u.cell? ⟨w0.heap.size, 3, none⟩ = some (.int .i64 dc) ∧ u.cell? ⟨w0.heap.size, 4, none⟩ = some (.int .i64 eq) ∧ u.cell? ⟨w0.heap.size, 5, none⟩ = some (.int .u64 (ep : Int))) (by kernel_rfl) (by repeat (first | exact PG.body | refine PG.then_ ?_ | refine PG.inBlock ?_)) ?_ (fun hPF hHeld => ?_)
   ·exact ⟨s0, s1, s2, s3, s4, s5, s6, s7, s8⟩
   refine htake (i := 0) (v := .pointer (some ⟨w.heap.size, 1, none⟩)) rfl (by kernel_rfl) (by kernel_rfl) (by kernel_rfl) hPF (Or.inl ⟨by kernel_rfl, ?_⟩) hHeld ?_
   ·intro u hS; obtain ⟨p0, p1, p2, p3, p4, p5, p6, p7, p8⟩ := hS; go_simp
   refine htake (i := 1) (v := .agg #[mv, cv]) rfl (by kernel_rfl) (by kernel_rfl) (by kernel_rfl) hPF (Or.inl ⟨by kernel_rfl, ?_⟩) hHeld ?_
   ·intro u hS; obtain ⟨p0, p1, p2, p3, p4, p5, p6, p7, p8⟩ := hS; go_simp
   refine htake (i := 2) (v := .pointer (some ⟨w0.heap.size, 1, none⟩)) rfl (by kernel_rfl) (by kernel_rfl) (by kernel_rfl) hPF (Or.inl ⟨by kernel_rfl, ?_⟩) hHeld ?_
   ·intro u hS; obtain ⟨p0, p1, p2, p3, p4, p5, p6, p7, p8⟩ := hS; go_simp
   refine htake (i := 3) (v := .agg #[.int .i64 dn, .int .i64 dl, .int .i64 dc]) rfl (by kernel_rfl) (by kernel_rfl) (by kernel_rfl) hPF (Or.inl ⟨by kernel_rfl, ?_⟩) hHeld ?_
   ·intro u hS; obtain ⟨p0, p1, p2, p3, p4, p5, p6, p7, p8⟩ := hS; go_simp
   refine wpAnyH_ready (rs := [4]) (by kernel_rfl) (by simp) ?_
   refine AllReadyH.cons (i := 4) rfl (fun K hK => ?_) AllReadyH.nil
   go_simp
   go_at_call 251
   refine (hco w1'.drew (HM.out.below HBE.out.drew (Nat.le_refl _)) (HC.out.below HBE.out.drew (Nat.le_refl _))).mono ?_
   rintro e w3 ⟨rfl, hb⟩
   have HW3 := Lib.hid ((Below.refl w1'.heap.size w1').drew.trans hb)
   have HB3 := Lib.hid (HBE.out.trans (HW3.out.mono HBE.out.size))
   clear hb
   have i0 := old_cell HB3.out HS.out q0
   have i1 := old_cell HB3.out HS.out q1
   have i2 := old_cell HB3.out HS.out q2
   have i3 := old_cell HW3.out HSE.out t0
   have i4 := old_cell HW3.out HSE.out t1
   have i5 := old_cell HW3.out HSE.out t2
   have i6 := old_cell HW3.out HSE.out t3
   have i7 := old_cell HW3.out HSE.out t4
   have i8 := old_cell HW3.out HSE.out t5
   refine hK.out _ _ ?_ (fun hHeld => ?_)
   ·exact ⟨i0, i1, i2, i3, i4, i5, i6, i7, i8⟩
   clear hK K
   refine htake (i := 5) (v := .bool false) rfl (by kernel_rfl) (by kernel_rfl) (by kernel_rfl) hPF (Or.inl ⟨by kernel_rfl, ?_⟩) hHeld ?_
   ·intro u hS; obtain ⟨p0, p1, p2, p3, p4, p5, p6, p7, p8⟩ := hS; go_simp
   refine htake (i := 6) (v := .bool false) rfl (by kernel_rfl) (by kernel_rfl) (by kernel_rfl) hPF (Or.inl ⟨by kernel_rfl, ?_⟩) hHeld ?_
   ·intro u hS; obtain ⟨p0, p1, p2, p3, p4, p5, p6, p7, p8⟩ := hS; go_simp
   refine htake (i := 7) (v := .int .i64 0) rfl (by kernel_rfl) (by kernel_rfl) (by kernel_rfl) hPF (Or.inl ⟨by kernel_rfl, ?_⟩) hHeld ?_
   ·intro u hS; obtain ⟨p0, p1, p2, p3, p4, p5, p6, p7, p8⟩ := hS; go_simp
   refine htake (i := 8) (v := .bool false) rfl (by kernel_rfl) (by kernel_rfl) (by kernel_rfl) hPF (Or.inl ⟨by kernel_rfl, ?_⟩) hHeld ?_
   ·intro u hS; obtain ⟨p0, p1, p2, p3, p4, p5, p6, p7, p8⟩ := hS; go_simp
   refine htake (i := 9) (v := .bool false) rfl (by kernel_rfl) (by kernel_rfl) (by kernel_rfl) hPF (Or.inl ⟨by kernel_rfl, ?_⟩) hHeld ?_
   ·intro u hS; obtain ⟨p0, p1, p2, p3, p4, p5, p6, p7, p8⟩ := hS; go_simp
   refine htake (i := 10) (v := undef) rfl (by kernel_rfl) (by kernel_rfl) (by kernel_rfl) hPF (Or.inr ⟨by kernel_rfl, rfl⟩) hHeld ?_
   refine htake (i := 11) (v := undef) rfl (by kernel_rfl) (by kernel_rfl) (by kernel_rfl) hPF (Or.inr ⟨by kernel_rfl, rfl⟩) hHeld ?_
   refine htake (i := 12) (v := undef) rfl (by kernel_rfl) (by kernel_rfl) (by kernel_rfl) hPF (Or.inr ⟨by kernel_rfl, rfl⟩) hHeld ?_
   refine htake (i := 13) (v := undef) rfl (by kernel_rfl) (by kernel_rfl) (by kernel_rfl) hPF (Or.inr ⟨by kernel_rfl, rfl⟩) hHeld ?_
   refine htake (i := 14) (v := undef) rfl (by kernel_rfl) (by kernel_rfl) (by kernel_rfl) hPF (Or.inr ⟨by kernel_rfl, rfl⟩) hHeld ?_
   refine htake (i := 15) (v := undef) rfl (by kernel_rfl) (by kernel_rfl) (by kernel_rfl) hPF (Or.inr ⟨by kernel_rfl, rfl⟩) hHeld ?_
   refine htake (i := 16) (v := undef) rfl (by kernel_rfl) (by kernel_rfl) (by kernel_rfl) hPF (Or.inr ⟨by kernel_rfl, rfl⟩) hHeld ?_
   refine htake (i := 17) (v := undef) rfl (by kernel_rfl) (by kernel_rfl) (by kernel_rfl) hPF (Or.inr ⟨by kernel_rfl, rfl⟩) hHeld ?_
   refine htake (i := 18) (v := undef) rfl (by kernel_rfl) (by kernel_rfl) (by kernel_rfl) hPF (Or.inr ⟨by kernel_rfl, rfl⟩) hHeld ?_
   refine htake (i := 19) (v := .bool false) rfl (by kernel_rfl) (by kernel_rfl) (by kernel_rfl) hPF (Or.inl ⟨by kernel_rfl, ?_⟩) hHeld ?_
   ·intro u hS; obtain ⟨p0, p1, p2, p3, p4, p5, p6, p7, p8⟩ := hS; go_simp
   refine htake (i := 20) (v := .bool false) rfl (by kernel_rfl) (by kernel_rfl) (by kernel_rfl) hPF (Or.inl ⟨by kernel_rfl, ?_⟩) hHeld ?_
   ·intro u hS; obtain ⟨p0, p1, p2, p3, p4, p5, p6, p7, p8⟩ := hS; go_simp
   refine wpAnyH_ready (rs := [21]) (by kernel_rfl) (by simp) ?_
   refine AllReadyH.cons (i := 21) rfl (fun K hK => ?_) AllReadyH.nil
   go_simp
   refine hK.out _ _ ?_ (fun hHeld => ?_)
   ·exact ⟨i0, i1, i2, i3, i4, i5, i6, i7, i8⟩
   clear hK K
   refine wpAnyH_done (by kernel_rfl) ?_ _
   go_wp2_with fail
   go_meet
   case rel => exact ⟨rfl, HB3, HW3⟩
  ·obtain ⟨k', rfl⟩ : ∃ k', k = k' + 1 := ⟨k - 1, by omega⟩
   have hlt' : k' < es.length := by omega
   obtain ⟨e0, e1, e2, e3, e4, e5⟩ := HCC.out k' hlt'
   have hmp := HPV.out k' hlt' (by omega)
   obtain ⟨⟨yit, ⟨yn, yl, yc⟩, yq, yp⟩, hy⟩ : ∃ x, es[k']'hlt' = x := ⟨_, rfl⟩
   rw [hy] at e0 e1 e2 e3 e4 e5 hmp
   dsimp only at e0 e1 e2 e3 e4 e5 hmp
   have hab2 : aboveE ⟨eit, ⟨dn, dl, dc⟩, eq, ep⟩ ⟨yit, ⟨yn, yl, yc⟩, yq, yp⟩ = ab := by rw [← HAB.out, preE_succ hlt', hy]; rfl
   have hoa := ord_above (a := ⟨yit, ⟨yn, yl, yc⟩, yq, yp⟩) (b := ⟨eit, ⟨dn, dl, dc⟩, eq, ep⟩) hmp (HMY.out rfl)
   rw [hab2] at hoa
   have hab := fun w => order2_any ⟨yit, ⟨yn, yl, yc⟩, yq, yp⟩ ⟨eit, ⟨dn, dl, dc⟩, eq, ep⟩ w
   obtain ⟨o, ho⟩ : ∃ o, ordE ⟨yit, ⟨yn, yl, yc⟩, yq, yp⟩ ⟨eit, ⟨dn, dl, dc⟩, eq, ep⟩ = o := ⟨_, rfl⟩
   rw [ho] at hab hoa
   dsimp only [entV] at hab
   have s9 := old_cell HBE.out HBL.out e0
   have s10 := old_cell HBE.out HBL.out e1
   have s11 := old_cell HBE.out HBL.out e2
   have s12 := old_cell HBE.out HBL.out e3
   have s13 := old_cell HBE.out HBL.out e4
   have s14 := old_cell HBE.out HBL.out e5
   have hw : IntKind.i64.wrap (k' : Int) = (k' : Int) := by rw [IntKind.wrap_i64]; omega
   clear hab2 hy ho hmp
   cases ab
   case false =>
    have hgo : (0 : Int) ≤ o := by simpa using hoa
    clear hoa
    refine hstart (S := fun u => u.cell? ⟨w.heap.size, 0, none⟩ = some (.slice (some ⟨b, off, none⟩) es.length ec) ∧ u.cell? ⟨w.heap.size, 1, none⟩ = some (mv) ∧ u.cell? ⟨w.heap.size, 2, none⟩ = some (cv) ∧ u.cell? ⟨w0.heap.size, 0, none⟩ = some (.string ⟨eit.toArray⟩) ∧ u.cell? ⟨w0.heap.size, 1, none⟩ = some (.int .i64 dn) ∧ u.cell? ⟨w0.heap.size, 2, none⟩ = some (.int .i64 dl) ∧ u.cell? ⟨w0.heap.size, 3, none⟩ = some (.int .i64 dc) ∧ u.cell? ⟨w0.heap.size, 4, none⟩ = some (.int .i64 eq) ∧ u.cell? ⟨w0.heap.size, 5, none⟩ = some (.int .u64 (ep : Int)) ∧ u.cell? ⟨b, off + k' * 6, none⟩ = some (.string ⟨yit.toArray⟩) ∧ u.cell? ⟨b, off + k' * 6 + 1, none⟩ = some (.int .i64 yn) ∧ u.cell? ⟨b, off + k' * 6 + 2, none⟩ = some (.int .i64 yl) ∧ u.cell? ⟨b, off + k' * 6 + 3, none⟩ = some (.int .i64 yc) ∧ u.cell? ⟨b, off + k' * 6 + 4, none⟩ = some (.int .i64 yq) ∧ u.cell? ⟨b, off + k' * 6 + 5, none⟩ = some (.int .u64 (yp : Int))) (by kernel_rfl) (by repeat (first | exact PG.body | refine PG.then_ ?_ | refine PG.inBlock ?_)) ?_ (fun hPF hHeld => ?_)
    ·exact ⟨s0, s1, s2, s3, s4, s5, s6, s7, s8, s9, s10, s11, s12, s13, s14⟩
    refine htake (i := 0) (v := .pointer (some ⟨w.heap.size, 1, none⟩)) rfl (by kernel_rfl) (by kernel_rfl) (by kernel_rfl) hPF (Or.inl ⟨by kernel_rfl, ?_⟩) hHeld ?_
    ·intro u hS; obtain ⟨p0, p1, p2, p3, p4, p5, p6, p7, p8, p9, p10, p11, p12, p13, p14⟩ := hS; go_simp
    refine htake (i := 1) (v := .agg #[mv, cv]) rfl (by kernel_rfl) (by kernel_rfl) (by kernel_rfl) hPF (Or.inl ⟨by kernel_rfl, ?_⟩) hHeld ?_
    ·intro u hS; obtain ⟨p0, p1, p2, p3, p4, p5, p6, p7, p8, p9, p10, p11, p12, p13, p14⟩ := hS; go_simp
    refine htake (i := 2) (v := .pointer (some ⟨w0.heap.size, 1, none⟩)) rfl (by kernel_rfl) (by kernel_rfl) (by kernel_rfl) hPF (Or.inl ⟨by kernel_rfl, ?_⟩) hHeld ?_
    ·intro u hS; obtain ⟨p0, p1, p2, p3, p4, p5, p6, p7, p8, p9, p10, p11, p12, p13, p14⟩ := hS; go_simp
    refine htake (i := 3) (v := .agg #[.int .i64 dn, .int .i64 dl, .int .i64 dc]) rfl (by kernel_rfl) (by kernel_rfl) (by kernel_rfl) hPF (Or.inl ⟨by kernel_rfl, ?_⟩) hHeld ?_
    ·intro u hS; obtain ⟨p0, p1, p2, p3, p4, p5, p6, p7, p8, p9, p10, p11, p12, p13, p14⟩ := hS; go_simp
    refine wpAnyH_ready (rs := [4]) (by kernel_rfl) (by simp) ?_
    refine AllReadyH.cons (i := 4) rfl (fun K hK => ?_) AllReadyH.nil
    go_simp
    go_at_call 251
    refine (hco w1'.drew (HM.out.below HBE.out.drew (Nat.le_refl _)) (HC.out.below HBE.out.drew (Nat.le_refl _))).mono ?_
    rintro e w3 ⟨rfl, hb⟩
    have HW3 := Lib.hid ((Below.refl w1'.heap.size w1').drew.trans hb)
    have HB3 := Lib.hid (HBE.out.trans (HW3.out.mono HBE.out.size))
    clear hb
    have i0 := old_cell HB3.out HS.out q0
    have i1 := old_cell HB3.out HS.out q1
    have i2 := old_cell HB3.out HS.out q2
    have i3 := old_cell HW3.out HSE.out t0
    have i4 := old_cell HW3.out HSE.out t1
    have i5 := old_cell HW3.out HSE.out t2
    have i6 := old_cell HW3.out HSE.out t3
    have i7 := old_cell HW3.out HSE.out t4
    have i8 := old_cell HW3.out HSE.out t5
    have i9 := old_cell HB3.out HBL.out e0
    have i10 := old_cell HB3.out HBL.out e1
    have i11 := old_cell HB3.out HBL.out e2
    have i12 := old_cell HB3.out HBL.out e3
    have i13 := old_cell HB3.out HBL.out e4
    have i14 := old_cell HB3.out HBL.out e5
    refine hK.out _ _ ?_ (fun hHeld => ?_)
    ·exact ⟨i0, i1, i2, i3, i4, i5, i6, i7, i8, i9, i10, i11, i12, i13, i14⟩
    clear hK K
    refine htake (i := 5) (v := .bool false) rfl (by kernel_rfl) (by kernel_rfl) (by kernel_rfl) hPF (Or.inl ⟨by kernel_rfl, ?_⟩) hHeld ?_
    ·intro u hS; obtain ⟨p0, p1, p2, p3, p4, p5, p6, p7, p8, p9, p10, p11, p12, p13, p14⟩ := hS; go_simp
    refine htake (i := 6) (v := .bool false) rfl (by kernel_rfl) (by kernel_rfl) (by kernel_rfl) hPF (Or.inl ⟨by kernel_rfl, ?_⟩) hHeld ?_
    ·intro u hS; obtain ⟨p0, p1, p2, p3, p4, p5, p6, p7, p8, p9, p10, p11, p12, p13, p14⟩ := hS; go_simp
    refine htake (i := 7) (v := .int .i64 ((k' : Int) + 1)) rfl (by kernel_rfl) (by kernel_rfl) (by kernel_rfl) hPF (Or.inl ⟨by kernel_rfl, ?_⟩) hHeld ?_
    ·intro u hS; obtain ⟨p0, p1, p2, p3, p4, p5, p6, p7, p8, p9, p10, p11, p12, p13, p14⟩ := hS; go_simp
    refine htake (i := 8) (v := .bool true) rfl (by kernel_rfl) (by kernel_rfl) (by kernel_rfl) hPF (Or.inl ⟨by kernel_rfl, ?_⟩) hHeld ?_
    ·intro u hS; obtain ⟨p0, p1, p2, p3, p4, p5, p6, p7, p8, p9, p10, p11, p12, p13, p14⟩ := hS; go_simp
    refine htake (i := 9) (v := .bool true) rfl (by kernel_rfl) (by kernel_rfl) (by kernel_rfl) hPF (Or.inl ⟨by kernel_rfl, ?_⟩) hHeld ?_
    ·intro u hS; obtain ⟨p0, p1, p2, p3, p4, p5, p6, p7, p8, p9, p10, p11, p12, p13, p14⟩ := hS; go_simp
    refine htake (i := 10) (v := .pointer (some ⟨w.heap.size, 0, none⟩)) rfl (by kernel_rfl) (by kernel_rfl) (by kernel_rfl) hPF (Or.inl ⟨by kernel_rfl, ?_⟩) hHeld ?_
    ·intro u hS; obtain ⟨p0, p1, p2, p3, p4, p5, p6, p7, p8, p9, p10, p11, p12, p13, p14⟩ := hS; go_simp
    refine htake (i := 11) (v := .slice (some ⟨b, off, none⟩) es.length ec) rfl (by kernel_rfl) (by kernel_rfl) (by kernel_rfl) hPF (Or.inl ⟨by kernel_rfl, ?_⟩) hHeld ?_
    ·intro u hS; obtain ⟨p0, p1, p2, p3, p4, p5, p6, p7, p8, p9, p10, p11, p12, p13, p14⟩ := hS; go_simp
    refine htake (i := 12) (v := .int .i64 ((k' : Int) + 1)) rfl (by kernel_rfl) (by kernel_rfl) (by kernel_rfl) hPF (Or.inl ⟨by kernel_rfl, ?_⟩) hHeld ?_
    ·intro u hS; obtain ⟨p0, p1, p2, p3, p4, p5, p6, p7, p8, p9, p10, p11, p12, p13, p14⟩ := hS; go_simp
    refine htake (i := 13) (v := .int .i64 (k' : Int)) rfl (by kernel_rfl) (by kernel_rfl) (by kernel_rfl) hPF (Or.inl ⟨by kernel_rfl, ?_⟩) hHeld ?_
    ·intro u hS; obtain ⟨p0, p1, p2, p3, p4, p5, p6, p7, p8, p9, p10, p11, p12, p13, p14⟩ := hS; go_simp
    refine htake (i := 14) (v := .pointer (some ⟨b, off + k' * 6, none⟩)) rfl (by kernel_rfl) (by kernel_rfl) (by kernel_rfl) hPF (Or.inl ⟨by kernel_rfl, ?_⟩) hHeld ?_
    ·intro u hS; obtain ⟨p0, p1, p2, p3, p4, p5, p6, p7, p8, p9, p10, p11, p12, p13, p14⟩ := hS; go_simp
    refine htake (i := 15) (v := .agg #[.string ⟨yit.toArray⟩, .int .i64 yn, .int .i64 yl, .int .i64 yc, .int .i64 yq, .int .u64 (yp : Int)]) rfl (by kernel_rfl) (by kernel_rfl) (by kernel_rfl) hPF (Or.inl ⟨by kernel_rfl, ?_⟩) hHeld ?_
    ·intro u hS; obtain ⟨p0, p1, p2, p3, p4, p5, p6, p7, p8, p9, p10, p11, p12, p13, p14⟩ := hS; go_simp
    refine htake (i := 16) (v := .agg #[.string ⟨eit.toArray⟩, .int .i64 dn, .int .i64 dl, .int .i64 dc, .int .i64 eq, .int .u64 (ep : Int)]) rfl (by kernel_rfl) (by kernel_rfl) (by kernel_rfl) hPF (Or.inl ⟨by kernel_rfl, ?_⟩) hHeld ?_
    ·intro u hS; obtain ⟨p0, p1, p2, p3, p4, p5, p6, p7, p8, p9, p10, p11, p12, p13, p14⟩ := hS; go_simp
    refine wpAnyH_ready (rs := [17]) (by kernel_rfl) (by simp) ?_
    refine AllReadyH.cons (i := 17) rfl (fun K hK => ?_) AllReadyH.nil
    go_simp
    go_at_call 252
    refine (hab _).mono ?_
    rintro e w4 ⟨rfl, hb⟩
    have HW4 := Lib.hid (HW3.out.trans (hb.mono HW3.out.size))
    have HB4 := Lib.hid (HBE.out.trans (HW4.out.mono HBE.out.size))
    clear hb
    have j0 := old_cell HB4.out HS.out q0
    have j1 := old_cell HB4.out HS.out q1
    have j2 := old_cell HB4.out HS.out q2
    have j3 := old_cell HW4.out HSE.out t0
    have j4 := old_cell HW4.out HSE.out t1
    have j5 := old_cell HW4.out HSE.out t2
    have j6 := old_cell HW4.out HSE.out t3
    have j7 := old_cell HW4.out HSE.out t4
    have j8 := old_cell HW4.out HSE.out t5
    have j9 := old_cell HB4.out HBL.out e0
    have j10 := old_cell HB4.out HBL.out e1
    have j11 := old_cell HB4.out HBL.out e2
    have j12 := old_cell HB4.out HBL.out e3
    have j13 := old_cell HB4.out HBL.out e4
    have j14 := old_cell HB4.out HBL.out e5
    refine hK.out _ _ ?_ (fun hHeld => ?_)
    ·exact ⟨j0, j1, j2, j3, j4, j5, j6, j7, j8, j9, j10, j11, j12, j13, j14⟩
    clear hK K
    refine htake (i := 18) (v := .bool true) rfl (by kernel_rfl) (by kernel_rfl) (by kernel_rfl) hPF (Or.inl ⟨by kernel_rfl, ?_⟩) hHeld ?_
    ·intro u hS; obtain ⟨p0, p1, p2, p3, p4, p5, p6, p7, p8, p9, p10, p11, p12, p13, p14⟩ := hS; go_simp
    refine htake (i := 19) (v := .bool true) rfl (by kernel_rfl) (by kernel_rfl) (by kernel_rfl) hPF (Or.inl ⟨by kernel_rfl, ?_⟩) hHeld ?_
    ·intro u hS; obtain ⟨p0, p1, p2, p3, p4, p5, p6, p7, p8, p9, p10, p11, p12, p13, p14⟩ := hS; go_simp
    refine htake (i := 20) (v := .bool true) rfl (by kernel_rfl) (by kernel_rfl) (by kernel_rfl) hPF (Or.inl ⟨by kernel_rfl, ?_⟩) hHeld ?_
    ·intro u hS; obtain ⟨p0, p1, p2, p3, p4, p5, p6, p7, p8, p9, p10, p11, p12, p13, p14⟩ := hS; go_simp
    refine wpAnyH_ready (rs := [21]) (by kernel_rfl) (by simp) ?_
    refine AllReadyH.cons (i := 21) rfl (fun K hK => ?_) AllReadyH.nil
    go_simp
    refine hK.out _ _ ?_ (fun hHeld => ?_)
    ·exact ⟨j0, j1, j2, j3, j4, j5, j6, j7, j8, j9, j10, j11, j12, j13, j14⟩
    clear hK K
    refine wpAnyH_done (by kernel_rfl) ?_ _
    go_wp2_with fail
    go_meet
    case rel => exact ⟨rfl, HB4, HW4⟩
   case true =>
    have hgo : ¬ (0 : Int) ≤ o := by simpa using hoa
    have hgo' : o < 0 := by omega
    clear hoa
    refine hstart (S := fun u => u.cell? ⟨w.heap.size, 0, none⟩ = some (.slice (some ⟨b, off, none⟩) es.length ec) ∧ u.cell? ⟨w.heap.size, 1, none⟩ = some (mv) ∧ u.cell? ⟨w.heap.size, 2, none⟩ = some (cv) ∧ u.cell? ⟨w0.heap.size, 0, none⟩ = some (.string ⟨eit.toArray⟩) ∧ u.cell? ⟨w0.heap.size, 1, none⟩ = some (.int .i64 dn) ∧ u.cell? ⟨w0.heap.size, 2, none⟩ = some (.int .i64 dl) ∧ u.cell? ⟨w0.heap.size, 3, none⟩ = some (.int .i64 dc) ∧ u.cell? ⟨w0.heap.size, 4, none⟩ = some (.int .i64 eq) ∧ u.cell? ⟨w0.heap.size, 5, none⟩ = some (.int .u64 (ep : Int)) ∧ u.cell? ⟨b, off + k' * 6, none⟩ = some (.string ⟨yit.toArray⟩) ∧ u.cell? ⟨b, off + k' * 6 + 1, none⟩ = some (.int .i64 yn) ∧ u.cell? ⟨b, off + k' * 6 + 2, none⟩ = some (.int .i64 yl) ∧ u.cell? ⟨b, off + k' * 6 + 3, none⟩ = some (.int .i64 yc) ∧ u.cell? ⟨b, off + k' * 6 + 4, none⟩ = some (.int .i64 yq) ∧ u.cell? ⟨b, off + k' * 6 + 5, none⟩ = some (.int .u64 (yp : Int))) (by kernel_rfl) (by repeat (first | exact PG.body | refine PG.then_ ?_ | refine PG.inBlock ?_)) ?_ (fun hPF hHeld => ?_)
    ·exact ⟨s0, s1, s2, s3, s4, s5, s6, s7, s8, s9, s10, s11, s12, s13, s14⟩
    refine htake (i := 0) (v := .pointer (some ⟨w.heap.size, 1, none⟩)) rfl (by kernel_rfl) (by kernel_rfl) (by kernel_rfl) hPF (Or.inl ⟨by kernel_rfl, ?_⟩) hHeld ?_
    ·intro u hS; obtain ⟨p0, p1, p2, p3, p4, p5, p6, p7, p8, p9, p10, p11, p12, p13, p14⟩ := hS; go_simp
    refine htake (i := 1) (v := .agg #[mv, cv]) rfl (by kernel_rfl) (by kernel_rfl) (by kernel_rfl) hPF (Or.inl ⟨by kernel_rfl, ?_⟩) hHeld ?_
    ·intro u hS; obtain ⟨p0, p1, p2, p3, p4, p5, p6, p7, p8, p9, p10, p11, p12, p13, p14⟩ := hS; go_simp
    refine htake (i := 2) (v := .pointer (some ⟨w0.heap.size, 1, none⟩)) rfl (by kernel_rfl) (by kernel_rfl) (by kernel_rfl) hPF (Or.inl ⟨by kernel_rfl, ?_⟩) hHeld ?_
    ·intro u hS; obtain ⟨p0, p1, p2, p3, p4, p5, p6, p7, p8, p9, p10, p11, p12, p13, p14⟩ := hS; go_simp
    refine htake (i := 3) (v := .agg #[.int .i64 dn, .int .i64 dl, .int .i64 dc]) rfl (by kernel_rfl) (by kernel_rfl) (by kernel_rfl) hPF (Or.inl ⟨by kernel_rfl, ?_⟩) hHeld ?_
    ·intro u hS; obtain ⟨p0, p1, p2, p3, p4, p5, p6, p7, p8, p9, p10, p11, p12, p13, p14⟩ := hS; go_simp
    refine wpAnyH_ready (rs := [4]) (by kernel_rfl) (by simp) ?_
    refine AllReadyH.cons (i := 4) rfl (fun K hK => ?_) AllReadyH.nil
    go_simp
    go_at_call 251
    refine (hco w1'.drew (HM.out.below HBE.out.drew (Nat.le_refl _)) (HC.out.below HBE.out.drew (Nat.le_refl _))).mono ?_
    rintro e w3 ⟨rfl, hb⟩
    have HW3 := Lib.hid ((Below.refl w1'.heap.size w1').drew.trans hb)
    have HB3 := Lib.hid (HBE.out.trans (HW3.out.mono HBE.out.size))
    clear hb
    have i0 := old_cell HB3.out HS.out q0
    have i1 := old_cell HB3.out HS.out q1
    have i2 := old_cell HB3.out HS.out q2
    have i3 := old_cell HW3.out HSE.out t0
    have i4 := old_cell HW3.out HSE.out t1
    have i5 := old_cell HW3.out HSE.out t2
    have i6 := old_cell HW3.out HSE.out t3
    have i7 := old_cell HW3.out HSE.out t4
    have i8 := old_cell HW3.out HSE.out t5
    have i9 := old_cell HB3.out HBL.out e0
    have i10 := old_cell HB3.out HBL.out e1
    have i11 := old_cell HB3.out HBL.out e2
    have i12 := old_cell HB3.out HBL.out e3
    have i13 := old_cell HB3.out HBL.out e4
    have i14 := old_cell HB3.out HBL.out e5
    refine hK.out _ _ ?_ (fun hHeld => ?_)
    ·exact ⟨i0, i1, i2, i3, i4, i5, i6, i7, i8, i9, i10, i11, i12, i13, i14⟩
    clear hK K
    refine htake (i := 5) (v := .bool false) rfl (by kernel_rfl) (by kernel_rfl) (by kernel_rfl) hPF (Or.inl ⟨by kernel_rfl, ?_⟩) hHeld ?_
    ·intro u hS; obtain ⟨p0, p1, p2, p3, p4, p5, p6, p7, p8, p9, p10, p11, p12, p13, p14⟩ := hS; go_simp
    refine htake (i := 6) (v := .bool false) rfl (by kernel_rfl) (by kernel_rfl) (by kernel_rfl) hPF (Or.inl ⟨by kernel_rfl, ?_⟩) hHeld ?_
    ·intro u hS; obtain ⟨p0, p1, p2, p3, p4, p5, p6, p7, p8, p9, p10, p11, p12, p13, p14⟩ := hS; go_simp
    refine htake (i := 7) (v := .int .i64 ((k' : Int) + 1)) rfl (by kernel_rfl) (by kernel_rfl) (by kernel_rfl) hPF (Or.inl ⟨by kernel_rfl, ?_⟩) hHeld ?_
    ·intro u hS; obtain ⟨p0, p1, p2, p3, p4, p5, p6, p7, p8, p9, p10, p11, p12, p13, p14⟩ := hS; go_simp
    refine htake (i := 8) (v := .bool true) rfl (by kernel_rfl) (by kernel_rfl) (by kernel_rfl) hPF (Or.inl ⟨by kernel_rfl, ?_⟩) hHeld ?_
    ·intro u hS; obtain ⟨p0, p1, p2, p3, p4, p5, p6, p7, p8, p9, p10, p11, p12, p13, p14⟩ := hS; go_simp
    refine htake (i := 9) (v := .bool true) rfl (by kernel_rfl) (by kernel_rfl) (by kernel_rfl) hPF (Or.inl ⟨by kernel_rfl, ?_⟩) hHeld ?_
    ·intro u hS; obtain ⟨p0, p1, p2, p3, p4, p5, p6, p7, p8, p9, p10, p11, p12, p13, p14⟩ := hS; go_simp
    refine htake (i := 10) (v := .pointer (some ⟨w.heap.size, 0, none⟩)) rfl (by kernel_rfl) (by kernel_rfl) (by kernel_rfl) hPF (Or.inl ⟨by kernel_rfl, ?_⟩) hHeld ?_
    ·intro u hS; obtain ⟨p0, p1, p2, p3, p4, p5, p6, p7, p8, p9, p10, p11, p12, p13, p14⟩ := hS; go_simp
    refine htake (i := 11) (v := .slice (some ⟨b, off, none⟩) es.length ec) rfl (by kernel_rfl) (by kernel_rfl) (by kernel_rfl) hPF (Or.inl ⟨by kernel_rfl, ?_⟩) hHeld ?_
    ·intro u hS; obtain ⟨p0, p1, p2, p3, p4, p5, p6, p7, p8, p9, p10, p11, p12, p13, p14⟩ := hS; go_simp
    refine htake (i := 12) (v := .int .i64 ((k' : Int) + 1)) rfl (by kernel_rfl) (by kernel_rfl) (by kernel_rfl) hPF (Or.inl ⟨by kernel_rfl, ?_⟩) hHeld ?_
    ·intro u hS; obtain ⟨p0, p1, p2, p3, p4, p5, p6, p7, p8, p9, p10, p11, p12, p13, p14⟩ := hS; go_simp
    refine htake (i := 13) (v := .int .i64 (k' : Int)) rfl (by kernel_rfl) (by kernel_rfl) (by kernel_rfl) hPF (Or.inl ⟨by kernel_rfl, ?_⟩) hHeld ?_
    ·intro u hS; obtain ⟨p0, p1, p2, p3, p4, p5, p6, p7, p8, p9, p10, p11, p12, p13, p14⟩ := hS; go_simp
    refine htake (i := 14) (v := .pointer (some ⟨b, off + k' * 6, none⟩)) rfl (by kernel_rfl) (by kernel_rfl) (by kernel_rfl) hPF (Or.inl ⟨by kernel_rfl, ?_⟩) hHeld ?_
    ·intro u hS; obtain ⟨p0, p1, p2, p3, p4, p5, p6, p7, p8, p9, p10, p11, p12, p13, p14⟩ := hS; go_simp
    refine htake (i := 15) (v := .agg #[.string ⟨yit.toArray⟩, .int .i64 yn, .int .i64 yl, .int .i64 yc, .int .i64 yq, .int .u64 (yp : Int)]) rfl (by kernel_rfl) (by kernel_rfl) (by kernel_rfl) hPF (Or.inl ⟨by kernel_rfl, ?_⟩) hHeld ?_
    ·intro u hS; obtain ⟨p0, p1, p2, p3, p4, p5, p6, p7, p8, p9, p10, p11, p12, p13, p14⟩ := hS; go_simp
    refine htake (i := 16) (v := .agg #[.string ⟨eit.toArray⟩, .int .i64 dn, .int .i64 dl, .int .i64 dc, .int .i64 eq, .int .u64 (ep : Int)]) rfl (by kernel_rfl) (by kernel_rfl) (by kernel_rfl) hPF (Or.inl ⟨by kernel_rfl, ?_⟩) hHeld ?_
    ·intro u hS; obtain ⟨p0, p1, p2, p3, p4, p5, p6, p7, p8, p9, p10, p11, p12, p13, p14⟩ := hS; go_simp
    refine wpAnyH_ready (rs := [17]) (by kernel_rfl) (by simp) ?_
    refine AllReadyH.cons (i := 17) rfl (fun K hK => ?_) AllReadyH.nil
    go_simp
    go_at_call 252
    refine (hab _).mono ?_
    rintro e w4 ⟨rfl, hb⟩
    have HW4 := Lib.hid (HW3.out.trans (hb.mono HW3.out.size))
    have HB4 := Lib.hid (HBE.out.trans (HW4.out.mono HBE.out.size))
    clear hb
    have j0 := old_cell HB4.out HS.out q0
    have j1 := old_cell HB4.out HS.out q1
    have j2 := old_cell HB4.out HS.out q2
    have j3 := old_cell HW4.out HSE.out t0
    have j4 := old_cell HW4.out HSE.out t1
    have j5 := old_cell HW4.out HSE.out t2
    have j6 := old_cell HW4.out HSE.out t3
    have j7 := old_cell HW4.out HSE.out t4
    have j8 := old_cell HW4.out HSE.out t5
    have j9 := old_cell HB4.out HBL.out e0
    have j10 := old_cell HB4.out HBL.out e1
    have j11 := old_cell HB4.out HBL.out e2
    have j12 := old_cell HB4.out HBL.out e3
    have j13 := old_cell HB4.out HBL.out e4
    have j14 := old_cell HB4.out HBL.out e5
    refine hK.out _ _ ?_ (fun hHeld => ?_)
    ·exact ⟨j0, j1, j2, j3, j4, j5, j6, j7, j8, j9, j10, j11, j12, j13, j14⟩
    clear hK K
    refine htake (i := 18) (v := .bool false) rfl (by kernel_rfl) (by kernel_rfl) (by kernel_rfl) hPF (Or.inl ⟨by kernel_rfl, ?_⟩) hHeld ?_
    ·intro u hS; obtain ⟨p0, p1, p2, p3, p4, p5, p6, p7, p8, p9, p10, p11, p12, p13, p14⟩ := hS; go_simp
    refine htake (i := 19) (v := .bool false) rfl (by kernel_rfl) (by kernel_rfl) (by kernel_rfl) hPF (Or.inl ⟨by kernel_rfl, ?_⟩) hHeld ?_
    ·intro u hS; obtain ⟨p0, p1, p2, p3, p4, p5, p6, p7, p8, p9, p10, p11, p12, p13, p14⟩ := hS; go_simp
    refine htake (i := 20) (v := .bool false) rfl (by kernel_rfl) (by kernel_rfl) (by kernel_rfl) hPF (Or.inl ⟨by kernel_rfl, ?_⟩) hHeld ?_
    ·intro u hS; obtain ⟨p0, p1, p2, p3, p4, p5, p6, p7, p8, p9, p10, p11, p12, p13, p14⟩ := hS; go_simp
    refine wpAnyH_ready (rs := [21]) (by kernel_rfl) (by simp) ?_
    refine AllReadyH.cons (i := 21) rfl (fun K hK => ?_) AllReadyH.nil
    go_simp
    refine hK.out _ _ ?_ (fun hHeld => ?_)
    ·exact ⟨j0, j1, j2, j3, j4, j5, j6, j7, j8, j9, j10, j11, j12, j13, j14⟩
    clear hK K
    refine wpAnyH_done (by kernel_rfl) ?_ _
    go_wp2_with fail
    go_meet
    case rel => exact ⟨rfl, HB4, HW4⟩
 case rest =>
 clear s0 s1 s2 s3 s4 s5 s6 s7 s8
 obtain ⟨rfl, HBX, HWX⟩ := hcut
 obtain ⟨ok, hok⟩ : ∃ x, (cv' && ab) = x := ⟨_, rfl⟩
 rw [hok]
 have hst := HST5.out
 rw [hok] at hst
 have HST6 := Lib.hid hst
 clear hok hst
 cases ok
 case false =>
  have HV : Hid (X = 50) := Lib.hid (by rw [HST6.out, if_pos rfl])
  go_wp2_with fail
  go_ret
  exact ⟨by rw [HV.out]; rfl, HB.out.trans (HBX.out.mono HB.out.size)⟩
 case true =>
 have hst7 := HST6.out
 rw [if_neg (by simp)] at hst7
 have HST7 := Lib.hid hst7
 clear hst7
 have x0 := old_cell HBX.out HS.out q0
 have hkc : (k : Int) ≤ (ec : Int) := by omega
 go_wp2_with fail
 clear x0
 go_loopw [59] (fun j wq => ∃ i : Nat, i ≤ k ∧ j = .int .i64 (i : Int) ∧ Hid (Below w0.heap.size w0 wq) ∧ Hid (Below w1'.heap.size w1' wq) ∧ Hid ((es.take i).any (fun y => decide (y.d = (⟨dn, dl, dc⟩ : Dt))) = false)) (fun j _ => k - (intOf j).toNat)
 case atStart => exact ⟨0, by omega, rfl, HBX, HWX, Lib.hid rfl⟩
 case round =>
  obtain ⟨i, hi, rfl, HBq, HWq, HNO⟩ := hrel
  by_cases hik : i < k
  ·have hlt' : i < es.length := by omega
   obtain ⟨e0, e1, e2, e3, e4, e5⟩ := HCC.out i hlt'
   obtain ⟨⟨yit, ⟨yn, yl, yc⟩, yq, yp⟩, hy⟩ : ∃ x, es[i]'hlt' = x := ⟨_, rfl⟩
   rw [hy] at e0 e1 e2 e3 e4 e5
   dsimp only at e0 e1 e2 e3 e4 e5
   have s0 := old_cell HBq.out HBL.out e0
   have s1 := old_cell HBq.out HBL.out e1
   have s2 := old_cell HBq.out HBL.out e2
   have s3 := old_cell HBq.out HBL.out e3
   have s4 := old_cell HBq.out HBL.out e4
   have s5 := old_cell HBq.out HBL.out e5
   have HY := Lib.hid hy
   clear hy e0 e1 e2 e3 e4 e5
   obtain ⟨w5, hw5⟩ : ∃ y, wr.alloc (.cells #[.string ⟨yit.toArray⟩, .int .i64 yn, .int .i64 yl, .int .i64 yc, .int .i64 yq, .int .u64 (yp : Int)] 92) = y := ⟨_, rfl⟩
   have HB5 : Hid (Below w0.heap.size w0 w5) := Lib.hid (by rw [← hw5]; exact HBq.out.alloc HBq.out.size _)
   have HW5 : Hid (Below w1'.heap.size w1' w5) := Lib.hid (by rw [← hw5]; exact HWq.out.alloc HWq.out.size _)
   have HK5 : Hid (Bk w5 wr.heap.size [.string ⟨yit.toArray⟩, .int .i64 yn, .int .i64 yl, .int .i64 yc, .int .i64 yq, .int .u64 (yp : Int)]) := Lib.hid (by rw [← hw5]; exact Bk.new wr _ 92 rfl)
   have hik' : (i : Int) < (k : Int) := by omega
   go_upto_region 13 with fail
   clear hw5 s0 s1 s2 s3 s4 s5
   have y1 := (HK5.out 1 _ rfl).1
   have y2 := (HK5.out 2 _ rfl).1
   have y3 := (HK5.out 3 _ rfl).1
   have z1 := old_cell HW5.out HSE.out t1
   have z2 := old_cell HW5.out HSE.out t2
   have z3 := old_cell HW5.out HSE.out t3
   by_cases h1 : yn = dn
   case neg =>
    have g1 : ¬ dn = yn := fun h => h1 h.symm
    have HNO2 := Lib.hid (any_take hlt' HNO.out (by rw [HY.out]; simp [h1]))
    go_wp2_with fail
    exact ⟨⟨i + 1, by omega, by go_num, HB5, HW5, HNO2⟩, by simp [intOf]; omega⟩
   subst h1
   by_cases h2 : yl = dl
   case neg =>
    have g2 : ¬ dl = yl := fun h => h2 h.symm
    have HNO2 := Lib.hid (any_take hlt' HNO.out (by rw [HY.out]; simp [h2]))
    go_wp2_with fail
    exact ⟨⟨i + 1, by omega, by go_num, HB5, HW5, HNO2⟩, by simp [intOf]; omega⟩
   subst h2
   by_cases h3 : yc = dc
   case neg =>
    have g3 : ¬ dc = yc := fun h => h3 h.symm
    have HNO2 := Lib.hid (any_take hlt' HNO.out (by rw [HY.out]; simp [h3]))
    go_wp2_with fail
    exact ⟨⟨i + 1, by omega, by go_num, HB5, HW5, HNO2⟩, by simp [intOf]; omega⟩
   subst h3
   have HV : Hid (X = 50) := Lib.hid (by rw [HST7.out, if_pos (any_hit hlt' hik (by rw [HY.out]))])
   go_wp2_with fail
   go_ret
   exact ⟨by rw [HV.out]; rfl, HB.out.trans (HB5.out.mono HB.out.size)⟩
  ·obtain rfl : i = k := by omega
   have HV : Hid (X = 0) := Lib.hid (by rw [HST7.out, if_neg (by rw [HNO.out]; simp)])
   go_wp2_with fail
   go_ret
   exact ⟨by rw [HV.out]; rfl, HB.out.trans (HBq.out.mono HB.out.size)⟩
end Go.Proofs.YtpdedfpacklnoaaGreatDoor
set_option maxRecDepth 100000
namespace Go.Proofs.YtpdedfpacklnoaaGreatDoor
open Go.RowKit Go.BL Go.Ct Go.Sl

/-- The contract of ormap.many. -/
def ManyC : Prop := ∀ (es : List En) (v : Value) (w : World), Ents w v es → es.length ≤ 64 → (∀ A n c, v = .slice A n c → n ≤ c) → Calls Tryz.prog 221 #[v] w (RetV (.int .i64 ((itemsF none es : Nat) : Int)) w)
theorem ent_cov {x : Cx} {p : List En} {e : En} (h : entE x p e = 0) : covers x e.d = true := by
 rw [entE_pre] at h
 split at h
 ·cases h
 ·split at h
  ·cases h
  ·split at h
   ·cases h
   ·split at h
    ·cases h
    ·rename_i h5
     cases hc : covers x e.d with
     | true => rfl
     | false => rw [hc] at h5; simp at h5
set_option maxHeartbeats 8000000 in
theorem can_any (hI : ItemC) (hMy : ManyC) (es : List En) (x : Cx) (ev : Value) (mv cv : Value) (w : World) (he : Ents w ev es) (hm : Dots w mv x.ms) (hc : Dots w cv x.cl) (hcp : ∀ A n c, ev = .slice A n c → n ≤ c) (hsl : ∀ e ∈ es, e.it.length ≤ 1073741824 ∧ e.p < 18446744073709551616) :
  Calls Tryz.prog 159 #[.agg #[ev, mv, cv]] w (RetV (.int .i64 ((canC ⟨es, x⟩ : Nat) : Int)) w) := by
 obtain ⟨A, ec, rfl⟩ := he.form
 have HCP := Lib.hid hcp
 have HSL := Lib.hid hsl
 have hmx := he.1
 obtain ⟨w0, hw0⟩ : ∃ w0, w.alloc (.cells #[.slice A es.length ec, mv, cv] 32) = w0 := ⟨_, rfl⟩
 have HB : Hid (Below w.heap.size w w0) := Lib.hid (by rw [← hw0]; exact (Below.refl _ _).alloc (Nat.le_refl _) _)
 have HS : Hid (w.heap.size < w0.heap.size) := Lib.hid (by rw [← hw0]; simp)
 obtain ⟨q0, q1, q2⟩ : w0.cell? ⟨w.heap.size, 0, none⟩ = some (.slice A es.length ec) ∧ w0.cell? ⟨w.heap.size, 1, none⟩ = some mv ∧ w0.cell? ⟨w.heap.size, 2, none⟩ = some cv := by rw [← hw0]; exact tri_at w _ _ _ 32 _ rfl
 have HM := Lib.hid (hm.below HB.out (Nat.le_refl _))
 have HC := Lib.hid (hc.below HB.out (Nat.le_refl _))
 have HE := Lib.hid (he.below HB.out (Nat.le_refl _))
 have hcx := canX_any x mv cv w0 HM.out HC.out
 clear hm hc he hcp hsl
 by_cases hx : canX x = true
 case neg =>
  have HV : Hid (canC ⟨es, x⟩ = 30) := Lib.hid (by unfold canC; dsimp only; rw [if_pos (by simpa using hx)])
  rw [show canX x = false by simpa using hx] at hcx
  clear hx
  go_enter Tryz.func159, Tryz.ntmps159
  go_wp2_with (go_at_call 219; refine hcx.mono ?_; rintro e w1 ⟨rfl, hb⟩; have HB1 := Lib.hid (HB.out.trans (hb.mono HB.out.size)); clear hb)
  go_ret
  exact ⟨by rw [HV.out]; rfl, HB1.out⟩
 rw [hx] at hcx
 have HX := Lib.hid hx
 clear hx
 by_cases hl : es.length ≤ 64
 case neg =>
  have HV : Hid (canC ⟨es, x⟩ = 51) := Lib.hid (by unfold canC; dsimp only; rw [HX.out, if_neg (by simp), if_pos (by omega)])
  have hl' : (64 : Int) < (es.length : Int) := by omega
  go_enter Tryz.func159, Tryz.ntmps159
  go_upto_region 3 with (go_at_call 219; refine hcx.mono ?_; rintro e w1 ⟨rfl, hb⟩; have HW1 := Lib.hid hb; clear hb)
  have r0 := old_cell HW1.out HS.out q0
  go_wp2_with fail
  go_ret
  exact ⟨by rw [HV.out]; rfl, HB.out.trans (HW1.out.mono HB.out.size)⟩
 have HF := Lib.hid (can_of HX.out hl)
 have hl' : ¬ (64 : Int) < (es.length : Int) := by omega
 have hil := itemsF_le es none
 have hit := fun w h => hMy es (.slice A es.length ec) w h hl HCP.out
 obtain ⟨it, hit'⟩ : ∃ y, itemsF none es = y := ⟨_, rfl⟩
 rw [hit'] at hit hil
 have HIT := Lib.hid hit'
 clear hit'
 go_enter Tryz.func159, Tryz.ntmps159
 go_upto_region 3 with (go_at_call 219; refine hcx.mono ?_; rintro e w1 ⟨rfl, hb⟩; have HW1 := Lib.hid hb; clear hb)
 have r0 := old_cell HW1.out HS.out q0
 clear hw0 hcx
 go_wp2_with fail
 clear r0 hl'
 go_loopw [18] (fun j wr => ∃ k : Nat, k ≤ es.length ∧ j = .int .i64 (k : Int) ∧ Hid (Below w0.heap.size w0 wr) ∧ Hid (entsE x (preE es k) (es.drop k) = entsE x [] es) ∧ Hid (∀ j (h : j < es.length), j < k → mayD es[j].d = true)) (fun j _ => es.length - (intOf j).toNat)
 case atStart => exact ⟨0, by omega, rfl, HW1, Lib.hid rfl, Lib.hid (fun _ _ h => absurd h (by omega))⟩
 case round =>
  obtain ⟨k, hk, rfl, HR, HN, HY⟩ := hrel
  have r0 := old_cell HR.out HS.out q0
  have r1 := old_cell HR.out HS.out q1
  have r2 := old_cell HR.out HS.out q2
  by_cases hlt : k < es.length
  ·have hen := entry_any hI es x (.slice A es.length ec) mv cv k wr (HE.out.below HR.out (Nat.le_refl _)) (HM.out.below HR.out (Nat.le_refl _)) (HC.out.below HR.out (Nat.le_refl _)) HCP.out hlt hl HSL.out HX.out HY.out
   have hst := ents_step x es hlt
   obtain ⟨X, hX⟩ : ∃ y, entE x (preE es k) es[k] = y := ⟨_, rfl⟩
   have hentE := hX
   rw [hX] at hen hst
   have HST := Lib.hid (HN.out.symm.trans hst)
   have HX0 := Lib.hid hentE
   clear hX hst hentE
   by_cases h0 : X = 0
   case neg =>
    have hne : ((X : Int) != 0) = true := bne_iff_ne.2 (by omega)
    have HV : Hid (canC ⟨es, x⟩ = X) := Lib.hid (by have h2 := HST.out; rw [if_pos h0] at h2; rw [HF.out, h2, if_pos h0])
    clear h0
    go_wp2_with (go_at_call 220; refine hen.mono ?_; rintro e w1' ⟨rfl, hb⟩; have HWE := Lib.hid (HR.out.trans (hb.mono HR.out.size)); clear hb)
    go_ret
    exact ⟨by rw [HV.out]; rfl, HB.out.trans (HWE.out.mono HB.out.size)⟩
   subst h0
   have HN2 : Hid (entsE x (preE es (k + 1)) (es.drop (k + 1)) = entsE x [] es) := Lib.hid (by have h2 := HST.out; rw [if_neg (by simp)] at h2; exact h2.symm)
   have HY2 : Hid (∀ j (h : j < es.length), j < k + 1 → mayD es[j].d = true) := Lib.hid (fun j h hj => by
    rcases Nat.lt_or_ge j k with h' | h'
    ·exact HY.out j h h'
    ·obtain rfl : j = k := by omega
     exact covers_may HX.out (ent_cov HX0.out))
   go_wp2_with (go_at_call 220; refine hen.mono ?_; rintro e w1' ⟨rfl, hb⟩; have HWE := Lib.hid (HR.out.trans (hb.mono HR.out.size)); clear hb)
   exact ⟨⟨k + 1, by omega, by go_num, HWE, HN2, HY2⟩, by simp [intOf]; omega⟩
  ·have HE0 : Hid (entsE x [] es = 0) := Lib.hid (by
    have h := HN.out
    rw [List.drop_of_length_le (by omega)] at h
    rw [← h]; rfl)
   by_cases h32 : 32 < it
   case pos =>
    have HV : Hid (canC ⟨es, x⟩ = 51) := Lib.hid (by rw [HF.out, HE0.out, if_neg (by simp), if_pos (by rw [HIT.out]; exact h32)])
    have h32' : (32 : Int) < (it : Int) := by omega
    go_wp2_with (go_at_call 221; refine (hit _ (HE.out.below HR.out (Nat.le_refl _))).mono ?_; rintro e w6 ⟨rfl, hb⟩; have HB6 := Lib.hid (HR.out.trans (hb.mono HR.out.size)); clear hb)
    go_ret
    exact ⟨by rw [HV.out]; rfl, HB.out.trans (HB6.out.mono HB.out.size)⟩
   case neg =>
    have HV : Hid (canC ⟨es, x⟩ = 0) := Lib.hid (by rw [HF.out, HE0.out, if_neg (by simp), if_neg (by rw [HIT.out]; exact h32)])
    have h32' : ¬ (32 : Int) < (it : Int) := by omega
    go_wp2_with (go_at_call 221; refine (hit _ (HE.out.below HR.out (Nat.le_refl _))).mono ?_; rintro e w6 ⟨rfl, hb⟩; have HB6 := Lib.hid (HR.out.trans (hb.mono HR.out.size)); clear hb)
    go_ret
    exact ⟨by rw [HV.out]; rfl, HB.out.trans (HB6.out.mono HB.out.size)⟩
end Go.Proofs.YtpdedfpacklnoaaGreatDoor
