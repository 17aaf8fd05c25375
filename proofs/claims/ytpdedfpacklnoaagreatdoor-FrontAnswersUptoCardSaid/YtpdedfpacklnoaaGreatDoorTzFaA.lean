/- Contract of the document's Encode of a context. Contract of the document's Encode of a cart: cartB, or what Can says. -/
import Derived.Test.YtpdedfpacklnoaaGreatDoorTzEnA
import Derived.Test.YtpdedfpacklnoaaGreatDoorTzRfE
import Derived.Test.YtpdedfpacklnoaaGreatDoorTzEnB
import Derived.Test.YtpdedfpacklnoaaGreatDoorTzRfI
set_option maxRecDepth 100000
namespace Go.Proofs.YtpdedfpacklnoaaGreatDoor
open Go.RowKit Go.BL Go.Ct Go.Sl Go.Wr W

theorem put_onR {w : World} {A : Option Addr} {m cap : Nat} {bs : List Nat} (hr : Rd w A m bs) (n : Int) (hm : m ≤ 1000000) (hn : n ≤ 9223372036854775807) : Calls Tryz.prog 165 #[.slice A m cap, .int .i64 n] w (RetO (bs ++ enc n.toNat) w) := putR_any A m cap bs n w hr (by omega) hn
set_option maxHeartbeats 8000000 in
theorem encD_any (x : Cx) (mv cv : Value) (A : Option Addr) (cap : Nat) (bs : List Nat) (w : World) (hm : Dots w mv x.ms) (hc : Dots w cv x.cl) (hr : Rd w A bs.length bs) (hbl : bs.length ≤ 90000) :
  Calls Tryz.prog 167 #[.slice A bs.length cap, .agg #[mv, cv]] w (EncR x bs w) := by
 obtain ⟨M, mc, rfl⟩ := hm.form
 obtain ⟨C, cc, rfl⟩ := hc.form
 obtain ⟨ms, cl⟩ := x
 dsimp only at hm hc ⊢
 obtain ⟨w1, hw1⟩ : ∃ y, w.alloc (.cells #[.slice M ms.length mc, .slice C cl.length cc] 30) = y := ⟨_, rfl⟩
 have HB1 : Hid (Below w.heap.size w w1) := Lib.hid (by rw [← hw1]; exact (Below.refl _ _).alloc (Nat.le_refl _) _)
 have HP1 : Hid (w1.cell? ⟨w.heap.size, 0, none⟩ = some (.slice M ms.length mc) ∧ w1.cell? ⟨w.heap.size, 1, none⟩ = some (.slice C cl.length cc)) := Lib.hid (by rw [← hw1]; exact pair_at w _ _ 30 _ rfl)
 have HQ1 : Hid (w.heap.size < w1.heap.size) := Lib.hid (by rw [← hw1]; simp)
 have HM1 := Lib.hid (hm.below HB1.out (Nat.le_refl _))
 have HC1 := Lib.hid (hc.below HB1.out (Nat.le_refl _))
 have HR1 := Lib.hid (hr.below HB1.out (Nat.le_refl _))
 have hca := R.canXR_any ⟨ms, cl⟩ _ _ w1 HM1.out HC1.out
 obtain ⟨g0, g1⟩ := HP1.out
 obtain ⟨ok, hok⟩ : ∃ y, canX ⟨ms, cl⟩ = y := ⟨_, rfl⟩
 rw [hok] at hca
 unfold EncR
 rw [hok]
 have HOK := Lib.hid hok
 clear hm hc hr hok
 cases ok
 ·go_enter Tryz.func167, Tryz.ntmps167
  go_wp2_with (go_at_call 39; refine hca.mono ?_; rintro e w2 ⟨rfl, hb⟩; have HB2 := Lib.hid (HB1.out.trans (hb.mono HB1.out.size)); clear hb g0 g1)
  go_ret2
  exact ⟨HB2.out, _, rfl⟩
 obtain ⟨hl1, hl2, hm1, hm2⟩ : ms.length ≤ 64 ∧ cl.length ≤ 64 ∧ (∀ d ∈ ms, mayD d = true) ∧ (∀ d ∈ cl, mayD d = true) := by
  have h := HOK.out
  simp only [canX, Bool.and_eq_true, decide_eq_true_eq] at h
  exact ⟨h.1.1.1, h.1.1.2, ms_may _ _ h.1.2, cl_may _ _ _ h.2⟩
 have HD1 : Hid (∀ d ∈ ms, d.n ≤ 9223372036854775807 ∧ d.l ≤ 9223372036854775807 ∧ d.c ≤ 9223372036854775807) := Lib.hid (fun d h => may_lt (hm1 d h))
 have HD2 : Hid (∀ d ∈ cl, d.n ≤ 9223372036854775807 ∧ d.l ≤ 9223372036854775807 ∧ d.c ≤ 9223372036854775807) := Lib.hid (fun d h => may_lt (hm2 d h))
 clear hm1 hm2
 have hp0 := fun w (hr : Rd w A bs.length bs) => put_onR (cap := cap) hr (ms.length : Int) (by omega) (by omega)
 rw [show ((ms.length : Int)).toNat = ms.length from rfl] at hp0
 obtain ⟨bs1, hbs1⟩ : ∃ y, bs ++ enc ms.length = y := ⟨_, rfl⟩
 rw [hbs1] at hp0
 have HL1 : Hid (bs1.length ≤ 90009) := Lib.hid (by rw [← hbs1, List.length_append]; have := enc_len9 (n := ms.length) (by omega); omega)
 go_enter Tryz.func167, Tryz.ntmps167
 go_upto_region 3 with (go_at_call 39; refine hca.mono ?_; rintro e w2 ⟨rfl, hb⟩; have HB2 := Lib.hid hb; have k0 := old_cell hb HQ1.out g0; have k1 := old_cell hb HQ1.out g1; have HR2 := Lib.hid (HR1.out.below hb (Nat.le_refl _)); clear hb g0 g1)
 clear hca hw1
 unfold RetO at hp0
 go_upto_region 4 with (go_at_call 165; refine (hp0 _ HR2.out).mono ?_; clear hp0; rintro e w3 ⟨v3, rfl, ho, hb⟩; obtain ⟨A3, c3, rfl, hr3⟩ := own_read ho; have HO3 := Lib.hid ho; have HB3 : Hid (Below w1.heap.size w1 w3) := Lib.hid (HB2.out.trans (hb.mono HB2.out.size)); have k0 := old_cell hb (by have := HB2.out.size; have := HQ1.out; omega) k0; have k1 := old_cell hb (by have := HB2.out.size; have := HQ1.out; omega) k1; clear hb ho hr3)
 have HO3' : Hid (Go.BL.Own w3 w1.heap.size (.slice A3 bs1.length c3) bs1) := Lib.hid (HO3.out.base (HB2.out.size))
 have HK1 := Lib.hid k1
 clear HO3 k1
 go_wp2_with fail
 go_loopw [0, 21] (fun v i wr => ∃ (k : Nat), k ≤ ms.length ∧ i = .int .i64 (k : Int) ∧ Hid (Below w3.heap.size w3 wr) ∧ Hid (Go.BL.Own wr w1.heap.size v (bs1 ++ dotsB (ms.take k)))) (fun _ i _ => ms.length - (intOf i).toNat)
 case atStart => exact ⟨0, by omega, rfl, Lib.hid (Below.refl _ _), Lib.hid (by simpa [dotsB] using HO3'.out)⟩
 case round =>
  obtain ⟨k, hk, rfl, HBr, HOr⟩ := hrel
  obtain ⟨A4, c4, hv4, hr4⟩ := own_read HOr.out
  subst hv4
  have HR4 := Lib.hid hr4
  clear hr4
  by_cases hlt : k < ms.length
  ·obtain ⟨vb, off, rfl, hbl2, hc⟩ := dot_cells HM1.out (by omega)
   obtain ⟨q1, q2, q3⟩ := hc k hlt
   have hmem := HD1.out _ (List.getElem_mem hlt)
   have htk := take_dots hlt
   obtain ⟨⟨dn, dl, dc⟩, hx⟩ : ∃ x, ms[k]'hlt = x := ⟨_, rfl⟩
   rw [hx] at q1 q2 q3 hmem htk
   dsimp only at q1 q2 q3 hmem
   have HW : Hid (Below w1.heap.size w1 wr) := Lib.hid (HB3.out.trans (HBr.out.mono HB3.out.size))
   have d1 := (HW.out.cell (p := ⟨vb, off + k * 3, none⟩) hbl2).trans q1
   have d2 := (HW.out.cell (p := ⟨vb, off + k * 3 + 1, none⟩) hbl2).trans q2
   have d3 := (HW.out.cell (p := ⟨vb, off + k * 3 + 2, none⟩) hbl2).trans q3
   have HTK := Lib.hid htk
   have hlen : Hid (((bs1 ++ dotsB (ms.take k)).length ≤ 100000)) := Lib.hid (by
    rw [List.length_append]
    have := dots_le (ms.take k) (fun d hd => HD1.out d (List.mem_of_mem_take hd))
    rw [List.length_take] at this
    have := HL1.out
    omega)
   obtain ⟨b0, hb0⟩ : ∃ y, bs1 ++ dotsB (ms.take k) = y := ⟨_, rfl⟩
   rw [hb0] at HR4 hlen ⊢
   obtain ⟨e1, he1⟩ : ∃ y, b0 ++ enc dn.toNat = y := ⟨_, rfl⟩
   obtain ⟨e2, he2⟩ : ∃ y, e1 ++ enc dl.toNat = y := ⟨_, rfl⟩
   obtain ⟨e3, he3⟩ : ∃ y, e2 ++ enc dc.toNat = y := ⟨_, rfl⟩
   have HE3 : Hid (e3 = bs1 ++ dotsB (ms.take (k + 1))) := Lib.hid (by rw [HTK.out, ← he3, ← he2, ← he1, ← hb0]; simp [dotB])
   have l1 : Hid (e1.length ≤ 100009) := Lib.hid (by rw [← he1, List.length_append]; have := enc_le hmem.1; have := hlen.out; omega)
   have l2 : Hid (e2.length ≤ 100018) := Lib.hid (by rw [← he2, List.length_append]; have := enc_le hmem.2.1; have := l1.out; omega)
   have c1 := fun w (hr : Rd w A4 b0.length b0) => put_onR (cap := c4) hr dn (by have := hlen.out; omega) hmem.1
   have c2 := fun A c w (hr : Rd w A e1.length e1) => put_onR (cap := c) hr dl (by have := l1.out; omega) hmem.2.1
   have c3 := fun A c w (hr : Rd w A e2.length e2) => put_onR (cap := c) hr dc (by have := l2.out; omega) hmem.2.2
   simp only [he1] at c1
   simp only [he2] at c2
   simp only [he3] at c3
   unfold RetO at c1 c2 c3
   have hlt' : (k : Int) < (ms.length : Int) := by omega
   obtain ⟨Y, hY⟩ : ∃ y, wr.heap.size = y := ⟨_, rfl⟩
   obtain ⟨w4, hw4⟩ : ∃ y, wr.alloc (.cells #[.int .i64 dn, .int .i64 dl, .int .i64 dc] 150) = y := ⟨_, rfl⟩
   have HB4 : Hid (Below w3.heap.size w3 w4) := Lib.hid (by rw [← hw4]; exact HBr.out.alloc HBr.out.size _)
   have HS4 : Hid (Y < w4.heap.size) := Lib.hid (by rw [← hw4, ← hY]; simp)
   have HRr : Hid (Rd w4 A4 b0.length b0) := Lib.hid (by rw [← hw4]; exact HR4.out.below ((Below.refl wr.heap.size wr).alloc (Nat.le_refl _) _) (Nat.le_refl _))
   have HY : Hid (w4.cell? ⟨Y, 0, none⟩ = some (.int .i64 dn) ∧ w4.cell? ⟨Y, 1, none⟩ = some (.int .i64 dl) ∧ w4.cell? ⟨Y, 2, none⟩ = some (.int .i64 dc)) := Lib.hid (by rw [← hw4]; exact tri_at wr _ _ _ 150 _ hY.symm)
   clear hc q1 q2 q3 hx hbl2 hmem htk he1 he2 he3 hb0
   go_upto_region 7 with fail
   try rw [hY]
   try rw [hw4]
   obtain ⟨y0, y1, y2⟩ := HY.out
   clear hw4 hY d1 d2 d3
   refine hstart (S := fun u => u.cell? ⟨Y, 0, none⟩ = some (.int .i64 dn) ∧ u.cell? ⟨Y, 1, none⟩ = some (.int .i64 dl) ∧ u.cell? ⟨Y, 2, none⟩ = some (.int .i64 dc)) (by kernel_rfl) (by repeat (first | exact PG.body | refine PG.then_ ?_ | refine PG.inBlock ?_)) ?_ (fun hPF hHeld => ?_)
   ·exact ⟨y0, y1, y2⟩
   refine htake (i := 0) (v := .slice A4 b0.length c4) rfl (by kernel_rfl) (by kernel_rfl) (by kernel_rfl) hPF (Or.inl ⟨by kernel_rfl, ?_⟩) hHeld ?_
   ·intro u hS; obtain ⟨p0, p1, p2⟩ := hS; go_simp
   refine htake (i := 1) (v := .pointer (some ⟨Y, 0, none⟩)) rfl (by kernel_rfl) (by kernel_rfl) (by kernel_rfl) hPF (Or.inl ⟨by kernel_rfl, ?_⟩) hHeld ?_
   ·intro u hS; obtain ⟨p0, p1, p2⟩ := hS; go_simp
   refine htake (i := 2) (v := .int .i64 dn) rfl (by kernel_rfl) (by kernel_rfl) (by kernel_rfl) hPF (Or.inl ⟨by kernel_rfl, ?_⟩) hHeld ?_
   ·intro u hS; obtain ⟨p0, p1, p2⟩ := hS; go_simp
   refine htake (i := 4) (v := .pointer (some ⟨Y, 1, none⟩)) rfl (by kernel_rfl) (by kernel_rfl) (by kernel_rfl) hPF (Or.inl ⟨by kernel_rfl, ?_⟩) hHeld ?_
   ·intro u hS; obtain ⟨p0, p1, p2⟩ := hS; go_simp
   refine htake (i := 5) (v := .int .i64 dl) rfl (by kernel_rfl) (by kernel_rfl) (by kernel_rfl) hPF (Or.inl ⟨by kernel_rfl, ?_⟩) hHeld ?_
   ·intro u hS; obtain ⟨p0, p1, p2⟩ := hS; go_simp
   refine htake (i := 7) (v := .pointer (some ⟨Y, 2, none⟩)) rfl (by kernel_rfl) (by kernel_rfl) (by kernel_rfl) hPF (Or.inl ⟨by kernel_rfl, ?_⟩) hHeld ?_
   ·intro u hS; obtain ⟨p0, p1, p2⟩ := hS; go_simp
   refine htake (i := 8) (v := .int .i64 dc) rfl (by kernel_rfl) (by kernel_rfl) (by kernel_rfl) hPF (Or.inl ⟨by kernel_rfl, ?_⟩) hHeld ?_
   ·intro u hS; obtain ⟨p0, p1, p2⟩ := hS; go_simp
   refine wpAnyH_ready (rs := [3]) (by kernel_rfl) (by simp) ?_
   refine AllReadyH.cons (i := 3) rfl (fun K hK => ?_) AllReadyH.nil
   go_simp
   go_at_call 165
   refine (c1 w4.drew HRr.out).mono ?_
   rintro e w5 ⟨v5, rfl, ho, hb⟩
   obtain ⟨A5, k5, rfl, hr5⟩ := own_read ho
   have hb' : Below w4.heap.size w4 w5 := (Below.refl w4.heap.size w4).drew.trans hb
   have HB5 := Lib.hid hb'
   have HR5 := Lib.hid hr5
   have u0 := old_cell hb' HS4.out y0
   have u1 := old_cell hb' HS4.out y1
   have u2 := old_cell hb' HS4.out y2
   clear hb hb' ho hr5 c1
   refine hK.out _ _ ?_ (fun hHeld => ?_)
   ·exact ⟨u0, u1, u2⟩
   clear hK K
   refine wpAnyH_ready (rs := [6]) (by kernel_rfl) (by simp) ?_
   refine AllReadyH.cons (i := 6) rfl (fun K hK => ?_) AllReadyH.nil
   go_simp
   go_at_call 165
   refine (c2 _ _ w5 HR5.out).mono ?_
   rintro e w6 ⟨v6, rfl, ho, hb⟩
   obtain ⟨A6, k6, rfl, hr6⟩ := own_read ho
   have HB6 : Hid (Below w4.heap.size w4 w6) := Lib.hid (HB5.out.trans (hb.mono HB5.out.size))
   have HR6 := Lib.hid hr6
   have v0 := old_cell HB6.out HS4.out y0
   have v1 := old_cell HB6.out HS4.out y1
   have v2 := old_cell HB6.out HS4.out y2
   clear hb ho hr6 c2
   refine hK.out _ _ ?_ (fun hHeld => ?_)
   ·exact ⟨v0, v1, v2⟩
   clear hK K
   refine wpAnyH_ready (rs := [9]) (by kernel_rfl) (by simp) ?_
   refine AllReadyH.cons (i := 9) rfl (fun K hK => ?_) AllReadyH.nil
   go_simp
   go_at_call 165
   refine (c3 _ _ w6 HR6.out).mono ?_
   rintro e w7 ⟨v7, rfl, ho, hb⟩
   have HB7 : Hid (Below w4.heap.size w4 w7) := Lib.hid (HB6.out.trans (hb.mono HB6.out.size))
   have HBZ : Hid (Below w3.heap.size w3 w7) := Lib.hid (HB4.out.trans (HB7.out.mono HB4.out.size))
   have HOZ : Hid (Go.BL.Own w7 w1.heap.size v7 e3) := Lib.hid (ho.base (by have h1 := HB6.out.size; have h2 := HB4.out.size; have h3 := HB3.out.size; omega))
   have x0 := old_cell HB7.out HS4.out y0
   have x1 := old_cell HB7.out HS4.out y1
   have x2 := old_cell HB7.out HS4.out y2
   obtain ⟨A7, k7, rfl, -⟩ := own_read HOZ.out
   clear hb ho c3
   refine hK.out _ _ ?_ (fun hHeld => ?_)
   ·exact ⟨x0, x1, x2⟩
   clear hK K
   refine wpAnyH_ready (rs := [10]) (by kernel_rfl) (by simp) ?_
   refine AllReadyH.cons (i := 10) rfl (fun K hK => ?_) AllReadyH.nil
   go_simp
   refine hK.out _ _ ?_ (fun hHeld => ?_)
   ·exact ⟨x0, x1, x2⟩
   clear hK K
   refine wpAnyH_done (by kernel_rfl) ?_ _
   go_wp2_with fail
   exact ⟨⟨k + 1, by omega, by go_num, HBZ, Lib.hid (by rw [← HE3.out]; exact HOZ.out)⟩, by simp [intOf]; omega⟩
  ·obtain rfl : k = ms.length := by omega
   rw [List.take_length] at HR4 HOr ⊢
   have hge : ¬ (ms.length : Int) < (ms.length : Int) := by omega
   obtain ⟨b1, hb1⟩ : ∃ y, bs1 ++ dotsB ms = y := ⟨_, rfl⟩
   obtain ⟨bs2, hbs2⟩ : ∃ y, b1 ++ enc cl.length = y := ⟨_, rfl⟩
   have HL0 : Hid (b1.length ≤ 100000) := Lib.hid (by rw [← hb1, List.length_append]; have := dots_le ms HD1.out; have := HL1.out; omega)
   have HL2 : Hid (bs2.length ≤ 93000) := Lib.hid (by rw [← hbs2, ← hb1, List.length_append, List.length_append]; have := dots_le ms HD1.out; have := HL1.out; have := enc_len9 (n := cl.length) (by omega); omega)
   have HEB : Hid (bs2 ++ dotsB cl = bs ++ ctxB ⟨ms, cl⟩) := Lib.hid (by rw [← hbs2, ← hb1, ← hbs1]; simp [ctxB])
   rw [hb1] at HR4 HOr ⊢
   have hp2 := fun w (hr : Rd w A4 b1.length b1) => put_onR (cap := c4) hr (cl.length : Int) (by have := HL0.out; omega) (by omega)
   rw [show ((cl.length : Int)).toNat = cl.length from rfl] at hp2
   rw [hbs2] at hp2
   unfold RetO at hp2
   have k1 := old_cell HBr.out (by have := HB3.out.size; have := HQ1.out; omega) HK1.out
   clear hb1 hbs2
   go_upto_region 10 with (go_at_call 165; refine (hp2 _ HR4.out).mono ?_; clear hp2; rintro e w8 ⟨v8, rfl, ho, hb⟩; obtain ⟨A8, c8, rfl, hr8⟩ := own_read ho; have HB8 : Hid (Below w1.heap.size w1 w8) := Lib.hid ((HB3.out.trans (HBr.out.mono HB3.out.size)).trans (hb.mono (HB3.out.trans (HBr.out.mono HB3.out.size)).size)); have HO8 : Hid (Go.BL.Own w8 w1.heap.size (.slice A8 bs2.length c8) bs2) := Lib.hid (ho.base (HB3.out.trans (HBr.out.mono HB3.out.size)).size); have k1 := old_cell hb (by have := (HB3.out.trans (HBr.out.mono HB3.out.size)).size; have := HQ1.out; omega) k1; clear hb ho hr8)
   go_wp2_with fail
   clear k1
   go_loopw [0, 44] (fun v i wq => ∃ (k : Nat), k ≤ cl.length ∧ i = .int .i64 (k : Int) ∧ Hid (Below w8.heap.size w8 wq) ∧ Hid (Go.BL.Own wq w1.heap.size v (bs2 ++ dotsB (cl.take k)))) (fun _ i _ => cl.length - (intOf i).toNat)
   case atStart => exact ⟨0, by omega, rfl, Lib.hid (Below.refl _ _), Lib.hid (by simpa [dotsB] using HO8.out)⟩
   case round =>
    rename World => wq
    obtain ⟨k, hk, rfl, HBq, HOq⟩ := hrel
    obtain ⟨A4, c4, hv4, hr4⟩ := own_read HOq.out
    subst hv4
    have HR4 := Lib.hid hr4
    clear hr4
    by_cases hlt : k < cl.length
    ·obtain ⟨vb, off, rfl, hbl2, hc⟩ := dot_cells HC1.out (by omega)
     obtain ⟨q1, q2, q3⟩ := hc k hlt
     have hmem := HD2.out _ (List.getElem_mem hlt)
     have htk := take_dots hlt
     obtain ⟨⟨dn, dl, dc⟩, hx⟩ : ∃ x, cl[k]'hlt = x := ⟨_, rfl⟩
     rw [hx] at q1 q2 q3 hmem htk
     dsimp only at q1 q2 q3 hmem
     have HW : Hid (Below w1.heap.size w1 wq) := Lib.hid (HB8.out.trans (HBq.out.mono HB8.out.size))
     have d1 := (HW.out.cell (p := ⟨vb, off + k * 3, none⟩) hbl2).trans q1
     have d2 := (HW.out.cell (p := ⟨vb, off + k * 3 + 1, none⟩) hbl2).trans q2
     have d3 := (HW.out.cell (p := ⟨vb, off + k * 3 + 2, none⟩) hbl2).trans q3
     have HTK := Lib.hid htk
     have hlen : Hid (((bs2 ++ dotsB (cl.take k)).length ≤ 100000)) := Lib.hid (by
      rw [List.length_append]
      have := dots_le (cl.take k) (fun d hd => HD2.out d (List.mem_of_mem_take hd))
      rw [List.length_take] at this
      have := HL2.out
      omega)
     obtain ⟨b0, hb0⟩ : ∃ y, bs2 ++ dotsB (cl.take k) = y := ⟨_, rfl⟩
     rw [hb0] at HR4 hlen ⊢
     obtain ⟨e1, he1⟩ : ∃ y, b0 ++ enc dn.toNat = y := ⟨_, rfl⟩
     obtain ⟨e2, he2⟩ : ∃ y, e1 ++ enc dl.toNat = y := ⟨_, rfl⟩
     obtain ⟨e3, he3⟩ : ∃ y, e2 ++ enc dc.toNat = y := ⟨_, rfl⟩
     have HE3 : Hid (e3 = bs2 ++ dotsB (cl.take (k + 1))) := Lib.hid (by rw [HTK.out, ← he3, ← he2, ← he1, ← hb0]; simp [dotB])
     have l1 : Hid (e1.length ≤ 100009) := Lib.hid (by rw [← he1, List.length_append]; have := enc_le hmem.1; have := hlen.out; omega)
     have l2 : Hid (e2.length ≤ 100018) := Lib.hid (by rw [← he2, List.length_append]; have := enc_le hmem.2.1; have := l1.out; omega)
     have c1 := fun w (hr : Rd w A4 b0.length b0) => put_onR (cap := c4) hr dn (by have := hlen.out; omega) hmem.1
     have c2 := fun A c w (hr : Rd w A e1.length e1) => put_onR (cap := c) hr dl (by have := l1.out; omega) hmem.2.1
     have c3 := fun A c w (hr : Rd w A e2.length e2) => put_onR (cap := c) hr dc (by have := l2.out; omega) hmem.2.2
     simp only [he1] at c1
     simp only [he2] at c2
     simp only [he3] at c3
     unfold RetO at c1 c2 c3
     have hlt' : (k : Int) < (cl.length : Int) := by omega
     obtain ⟨Y, hY⟩ : ∃ y, wq.heap.size = y := ⟨_, rfl⟩
     obtain ⟨w4, hw4⟩ : ∃ y, wq.alloc (.cells #[.int .i64 dn, .int .i64 dl, .int .i64 dc] 90) = y := ⟨_, rfl⟩
     have HB4 : Hid (Below w8.heap.size w8 w4) := Lib.hid (by rw [← hw4]; exact HBq.out.alloc HBq.out.size _)
     have HS4 : Hid (Y < w4.heap.size) := Lib.hid (by rw [← hw4, ← hY]; simp)
     have HRr : Hid (Rd w4 A4 b0.length b0) := Lib.hid (by rw [← hw4]; exact HR4.out.below ((Below.refl wq.heap.size wq).alloc (Nat.le_refl _) _) (Nat.le_refl _))
     have HY : Hid (w4.cell? ⟨Y, 0, none⟩ = some (.int .i64 dn) ∧ w4.cell? ⟨Y, 1, none⟩ = some (.int .i64 dl) ∧ w4.cell? ⟨Y, 2, none⟩ = some (.int .i64 dc)) := Lib.hid (by rw [← hw4]; exact tri_at wq _ _ _ 90 _ hY.symm)
     clear hc q1 q2 q3 hx hbl2 hmem htk he1 he2 he3 hb0
     go_upto_region 13 with fail
     try rw [hY]
     try rw [hw4]
     obtain ⟨y0, y1, y2⟩ := HY.out
     clear hw4 hY d1 d2 d3
     refine hstart (S := fun u => u.cell? ⟨Y, 0, none⟩ = some (.int .i64 dn) ∧ u.cell? ⟨Y, 1, none⟩ = some (.int .i64 dl) ∧ u.cell? ⟨Y, 2, none⟩ = some (.int .i64 dc)) (by kernel_rfl) (by repeat (first | exact PG.body | refine PG.then_ ?_ | refine PG.inBlock ?_)) ?_ (fun hPF hHeld => ?_)
     ·exact ⟨y0, y1, y2⟩
     refine htake (i := 0) (v := .slice A4 b0.length c4) rfl (by kernel_rfl) (by kernel_rfl) (by kernel_rfl) hPF (Or.inl ⟨by kernel_rfl, ?_⟩) hHeld ?_
     ·intro u hS; obtain ⟨p0, p1, p2⟩ := hS; go_simp
     refine htake (i := 1) (v := .pointer (some ⟨Y, 0, none⟩)) rfl (by kernel_rfl) (by kernel_rfl) (by kernel_rfl) hPF (Or.inl ⟨by kernel_rfl, ?_⟩) hHeld ?_
     ·intro u hS; obtain ⟨p0, p1, p2⟩ := hS; go_simp
     refine htake (i := 2) (v := .int .i64 dn) rfl (by kernel_rfl) (by kernel_rfl) (by kernel_rfl) hPF (Or.inl ⟨by kernel_rfl, ?_⟩) hHeld ?_
     ·intro u hS; obtain ⟨p0, p1, p2⟩ := hS; go_simp
     refine htake (i := 4) (v := .pointer (some ⟨Y, 1, none⟩)) rfl (by kernel_rfl) (by kernel_rfl) (by kernel_rfl) hPF (Or.inl ⟨by kernel_rfl, ?_⟩) hHeld ?_
     ·intro u hS; obtain ⟨p0, p1, p2⟩ := hS; go_simp
     refine htake (i := 5) (v := .int .i64 dl) rfl (by kernel_rfl) (by kernel_rfl) (by kernel_rfl) hPF (Or.inl ⟨by kernel_rfl, ?_⟩) hHeld ?_
     ·intro u hS; obtain ⟨p0, p1, p2⟩ := hS; go_simp
     refine htake (i := 7) (v := .pointer (some ⟨Y, 2, none⟩)) rfl (by kernel_rfl) (by kernel_rfl) (by kernel_rfl) hPF (Or.inl ⟨by kernel_rfl, ?_⟩) hHeld ?_
     ·intro u hS; obtain ⟨p0, p1, p2⟩ := hS; go_simp
     refine htake (i := 8) (v := .int .i64 dc) rfl (by kernel_rfl) (by kernel_rfl) (by kernel_rfl) hPF (Or.inl ⟨by kernel_rfl, ?_⟩) hHeld ?_
     ·intro u hS; obtain ⟨p0, p1, p2⟩ := hS; go_simp
     refine wpAnyH_ready (rs := [3]) (by kernel_rfl) (by simp) ?_
     refine AllReadyH.cons (i := 3) rfl (fun K hK => ?_) AllReadyH.nil
     go_simp
     go_at_call 165
     refine (c1 w4.drew HRr.out).mono ?_
     rintro e w5 ⟨v5, rfl, ho, hb⟩
     obtain ⟨A5, k5, rfl, hr5⟩ := own_read ho
     have hb' : Below w4.heap.size w4 w5 := (Below.refl w4.heap.size w4).drew.trans hb
     have HB5 := Lib.hid hb'
     have HR5 := Lib.hid hr5
     have u0 := old_cell hb' HS4.out y0
     have u1 := old_cell hb' HS4.out y1
     have u2 := old_cell hb' HS4.out y2
     clear hb hb' ho hr5 c1
     refine hK.out _ _ ?_ (fun hHeld => ?_)
     ·exact ⟨u0, u1, u2⟩
     clear hK K
     refine wpAnyH_ready (rs := [6]) (by kernel_rfl) (by simp) ?_
     refine AllReadyH.cons (i := 6) rfl (fun K hK => ?_) AllReadyH.nil
     go_simp
     go_at_call 165
     refine (c2 _ _ w5 HR5.out).mono ?_
     rintro e w6 ⟨v6, rfl, ho, hb⟩
     obtain ⟨A6, k6, rfl, hr6⟩ := own_read ho
     have HB6 : Hid (Below w4.heap.size w4 w6) := Lib.hid (HB5.out.trans (hb.mono HB5.out.size))
     have HR6 := Lib.hid hr6
     have v0 := old_cell HB6.out HS4.out y0
     have v1 := old_cell HB6.out HS4.out y1
     have v2 := old_cell HB6.out HS4.out y2
     clear hb ho hr6 c2
     refine hK.out _ _ ?_ (fun hHeld => ?_)
     ·exact ⟨v0, v1, v2⟩
     clear hK K
     refine wpAnyH_ready (rs := [9]) (by kernel_rfl) (by simp) ?_
     refine AllReadyH.cons (i := 9) rfl (fun K hK => ?_) AllReadyH.nil
     go_simp
     go_at_call 165
     refine (c3 _ _ w6 HR6.out).mono ?_
     rintro e w7 ⟨v7, rfl, ho, hb⟩
     have HB7 : Hid (Below w4.heap.size w4 w7) := Lib.hid (HB6.out.trans (hb.mono HB6.out.size))
     have HBZ : Hid (Below w8.heap.size w8 w7) := Lib.hid (HB4.out.trans (HB7.out.mono HB4.out.size))
     have HOZ : Hid (Go.BL.Own w7 w1.heap.size v7 e3) := Lib.hid (ho.base (by have h1 := HB6.out.size; have h2 := HB4.out.size; have h3 := HB3.out.size; have h4 := HB8.out.size; omega))
     have x0 := old_cell HB7.out HS4.out y0
     have x1 := old_cell HB7.out HS4.out y1
     have x2 := old_cell HB7.out HS4.out y2
     obtain ⟨A7, k7, rfl, -⟩ := own_read HOZ.out
     clear hb ho c3
     refine hK.out _ _ ?_ (fun hHeld => ?_)
     ·exact ⟨x0, x1, x2⟩
     clear hK K
     refine wpAnyH_ready (rs := [10]) (by kernel_rfl) (by simp) ?_
     refine AllReadyH.cons (i := 10) rfl (fun K hK => ?_) AllReadyH.nil
     go_simp
     refine hK.out _ _ ?_ (fun hHeld => ?_)
     ·exact ⟨x0, x1, x2⟩
     clear hK K
     refine wpAnyH_done (by kernel_rfl) ?_ _
     go_wp2_with fail
     exact ⟨⟨k + 1, by omega, by go_num, HBZ, Lib.hid (by rw [← HE3.out]; exact HOZ.out)⟩, by simp [intOf]; omega⟩
    ·obtain rfl : k = cl.length := by omega
     rw [List.take_length] at HOq ⊢
     have hge : ¬ (cl.length : Int) < (cl.length : Int) := by omega
     go_wp2_with fail
     go_ret2
     refine ⟨HB1.out.trans ((HB8.out.trans (HBq.out.mono HB8.out.size)).mono HB1.out.size), _, rfl, ?_⟩
     have h := HOq.out.base HB1.out.size
     rw [List.length_append] at h
     rw [← HEB.out]
     exact h
end Go.Proofs.YtpdedfpacklnoaaGreatDoor
set_option maxRecDepth 100000
namespace Go.Proofs.YtpdedfpacklnoaaGreatDoor
open Go.RowKit Go.BL Go.Ct Go.Sl Go.Wr W

set_option maxHeartbeats 8000000 in
theorem encodeR_any (es : List En) (x : Cx) (ev mv cv : Value) (w : World) (he : Ents w ev es) (hm : Dots w mv x.ms) (hc : Dots w cv x.cl) (hcp : ∀ A n c, ev = .slice A n c → n ≤ c) (hsl : ∀ e ∈ es, e.it.length ≤ 1073741824 ∧ e.p < 18446744073709551616) :
  Calls Tryz.prog 123 #[.agg #[ev, mv, cv]] w (EncC ⟨es, x⟩ w) := by
 obtain ⟨A, ec, rfl⟩ := he.form
 have HSL := Lib.hid hsl
 obtain ⟨w0, hw0⟩ : ∃ w0, w.alloc (.cells #[.slice A es.length ec, mv, cv] 32) = w0 := ⟨_, rfl⟩
 have HB : Hid (Below w.heap.size w w0) := Lib.hid (by rw [← hw0]; exact (Below.refl _ _).alloc (Nat.le_refl _) _)
 have HS : Hid (w.heap.size < w0.heap.size) := Lib.hid (by rw [← hw0]; simp)
 obtain ⟨q0, q1, q2⟩ : w0.cell? ⟨w.heap.size, 0, none⟩ = some (.slice A es.length ec) ∧ w0.cell? ⟨w.heap.size, 1, none⟩ = some mv ∧ w0.cell? ⟨w.heap.size, 2, none⟩ = some cv := by rw [← hw0]; exact tri_at w _ _ _ 32 _ rfl
 have HM := Lib.hid (hm.below HB.out (Nat.le_refl _))
 have HC := Lib.hid (hc.below HB.out (Nat.le_refl _))
 have HE := Lib.hid (he.below HB.out (Nat.le_refl _))
 have hca := canR_any es x _ mv cv w0 HE.out HM.out HC.out hcp (fun e h => by have := (hsl e h).1; omega)
 obtain ⟨X, hX⟩ : ∃ y, canC ⟨es, x⟩ = y := ⟨_, rfl⟩
 unfold EncC
 rw [hX] at hca ⊢
 have HX := Lib.hid hX
 clear hm hc he hcp hsl hX
 by_cases h0 : X = 0
 case neg =>
  have hne : ((X : Int) != 0) = true := bne_iff_ne.2 (by omega)
  go_enter Tryz.func123, Tryz.ntmps123
  go_wp2_with (go_at_call 12; refine hca.mono ?_; rintro e w1 ⟨rfl, hb⟩; have HB1 := Lib.hid hb; clear hb)
  go_ret2
  exact ⟨.slice none 0 0, HB.out.trans (HB1.out.mono HB.out.size), rfl, fun h => absurd h h0⟩
 case pos =>
  subst h0
  obtain ⟨hx1, hel, hent, hprice⟩ : canX x = true ∧ es.length ≤ 64 ∧ entsE x [] es = 0 ∧ True := ⟨(can_iff HX.out).1, (can_iff HX.out).2.1, (can_iff HX.out).2.2.1, trivial⟩
  have HOK : Hid (∀ e ∈ es, okE e) := Lib.hid (ents_ok hx1 es [] hent (fun e h => (HSL.out e h).2))
  have HXX := Lib.hid hx1
  clear hent hx1 hprice
  have hp0 := fun w => put_onR (w := w) (cap := 0) (A := none) (bs := []) (Rd.none_) (es.length : Int) (by omega) (by omega)
  simp only [List.nil_append, Int.toNat_natCast] at hp0
  go_enter Tryz.func123, Tryz.ntmps123
  go_wp2_with (first | (go_at_call 12; refine hca.mono ?_; rintro e w1 ⟨rfl, hb⟩; have HB1 := Lib.hid hb; have k0 := old_cell hb HS.out q0; have k1 := old_cell hb HS.out q1; have k2 := old_cell hb HS.out q2; clear hb q0 q1 q2) | (go_at_call 165; refine (hp0 _).mono ?_; rintro e w2 ⟨v2, rfl, ho, hb⟩; have HB2 := Lib.hid (HB1.out.trans (hb.mono HB1.out.size)); have HO2 := Lib.hid (ho.base HB1.out.size); have HQ1 : Hid (w.heap.size < w1.heap.size) := Lib.hid (Nat.lt_of_lt_of_le HS.out HB1.out.size); have j0 := old_cell hb HQ1.out k0; have j1 := old_cell hb HQ1.out k1; have j2 := old_cell hb HQ1.out k2; clear ho hb k0 k1 k2))
  have HJ0 := Lib.hid j0
  have HJ1 := Lib.hid j1
  have HJ2 := Lib.hid j2
  have HQ2 : Hid (w.heap.size < w2.heap.size) := Lib.hid (Nat.lt_of_lt_of_le HS.out HB2.out.size)
  have HE2 := Lib.hid (HE.out.below HB2.out (Nat.le_refl _))
  clear hca hp0 j0 j1 j2 hw0
  go_loopw [5, 23] (fun jv kv wr => ∃ (k : Nat), k ≤ es.length ∧ kv = .int .i64 (k : Int) ∧ Hid (Below w0.heap.size w2 wr) ∧ Hid (Go.BL.Own wr w0.heap.size jv (enc es.length ++ entsB (es.take k)))) (fun _ kv _ => es.length - (intOf kv).toNat)
  case atStart => exact ⟨0, by omega, rfl, Lib.hid (Below.refl _ _), by simpa [entsB] using HO2⟩
  case round =>
   rename_i u5
   rename World => wr
   obtain ⟨k, hk, rfl, HBr, HO⟩ := hrel
   by_cases hlt : k < es.length
   ·obtain ⟨vb, off, rfl, hbl2, hcc⟩ := ent_cells HE2.out (by omega)
    obtain ⟨e0, e1, e2, e3, e4, e5⟩ := hcc k hlt
    have hvw : vb < w0.heap.size := by
     obtain ⟨vb', off', ee, h1, _⟩ := ent_cells HE.out (by omega)
     injection ee with ee; injection ee with ee _ _; omega
    have HOKE := Lib.hid (HOK.out _ (List.getElem_mem hlt))
    obtain ⟨⟨eit, ⟨dn, dl, dc⟩, eq, ep⟩, hx⟩ : ∃ x, es[k]'hlt = x := ⟨_, rfl⟩
    rw [hx] at e0 e1 e2 e3 e4 e5 HOKE
    dsimp only at e0 e1 e2 e3 e4 e5
    have d0 := (HBr.out.cell (p := ⟨vb, off + k * 6, none⟩) hvw).trans e0
    have d1 := (HBr.out.cell (p := ⟨vb, off + k * 6 + 1, none⟩) hvw).trans e1
    have d2 := (HBr.out.cell (p := ⟨vb, off + k * 6 + 2, none⟩) hvw).trans e2
    have d3 := (HBr.out.cell (p := ⟨vb, off + k * 6 + 3, none⟩) hvw).trans e3
    have d4 := (HBr.out.cell (p := ⟨vb, off + k * 6 + 4, none⟩) hvw).trans e4
    have d5 := (HBr.out.cell (p := ⟨vb, off + k * 6 + 5, none⟩) hvw).trans e5
    have HTK : Hid (entsB (es.take (k + 1)) = entsB (es.take k) ++ entB ⟨eit, ⟨dn, dl, dc⟩, eq, ep⟩) := Lib.hid (by rw [take_ents hlt, hx])
    obtain ⟨b4, hb4⟩ : ∃ y, enc es.length ++ entsB (es.take k) = y := ⟨_, rfl⟩
    have HL4 : Hid (b4.length ≤ 6000) := Lib.hid (by
     rw [← hb4, List.length_append]
     have := enc_len9 (n := es.length) (by omega)
     have := entsB_len (es.take k) (fun e h => HOK.out e (List.mem_of_mem_take h))
     rw [List.length_take] at this
     omega)
    rw [hb4] at HO
    have HB4 := Lib.hid hb4
    clear hcc e0 e1 e2 e3 e4 e5 hx hbl2 hvw hb4
    obtain ⟨w4, hw4⟩ : ∃ y, wr.alloc (.cells #[.string ⟨eit.toArray⟩, .int .i64 dn, .int .i64 dl, .int .i64 dc, .int .i64 eq, .int .u64 (ep : Int)] 92) = y := ⟨_, rfl⟩
    have HW4 : Hid (Below w0.heap.size w2 w4) := Lib.hid (by rw [← hw4]; exact HBr.out.alloc (Nat.le_trans HB2.out.size HBr.out.size) _)
    have HO4 : Hid (Go.BL.Own w4 w0.heap.size u5 b4) := Lib.hid (by rw [← hw4]; exact HO.out.alloc _)
    have HBK : Hid (Bk w4 wr.heap.size [.string ⟨eit.toArray⟩, .int .i64 dn, .int .i64 dl, .int .i64 dc, .int .i64 eq, .int .u64 (ep : Int)]) := Lib.hid (by rw [← hw4]; exact Bk.new wr _ 92 rfl)
    have HS4 : Hid (wr.heap.size < w4.heap.size) := Lib.hid (by rw [← hw4]; simp)
    obtain ⟨A4, c4, rfl, hr4⟩ := own_read HO4.out
    have htx := textR_any A4 b4.length c4 b4 ⟨eit.toArray⟩ w4 hr4 (by have h1 := HOKE.out.1; have := HL4.out; dsimp only at h1; simp [ByteArray.size]; omega)
    rw [nats_bl] at htx
    clear hr4
    go_upto_region 8 with fail
    clear hw4 d0 d1 d2 d3 d4 d5
    have t0 := (HBK.out 0 _ rfl).1
    go_wp2_with (go_at_call 166; refine htx.mono ?_; rintro e w5 ⟨v5, rfl, ho, hb⟩; have HB5 := Lib.hid hb; have HO5 := Lib.hid ho; have HBK5 := Lib.hid (HBK.out.below hb HS4.out); have t1 := (HBK5.out 1 _ rfl).1; have t2 := (HBK5.out 2 _ rfl).1; have t3 := (HBK5.out 3 _ rfl).1; have t4 := (HBK5.out 4 _ rfl).1; clear ho hb t0)
    obtain ⟨b5, hb5⟩ : ∃ y, b4 ++ enc (ByteArray.size ⟨eit.toArray⟩) ++ nats eit = y := ⟨_, rfl⟩
    rw [hb5] at HO5
    have HN5 : Hid (b4 ++ (enc eit.length ++ nats eit) = b5) := Lib.hid (by rw [← hb5, List.append_assoc]; simp [ByteArray.size])
    have HL5 : Hid (b5.length ≤ 6050) := Lib.hid (by
     rw [← HN5.out]; simp only [List.length_append]
     have h1 := HOKE.out.1; dsimp only at h1
     have := enc_len9 (n := eit.length) (by omega)
     have := HL4.out
     simp only [nats, List.length_map]; omega)
    obtain ⟨hz1, hz2, hz3⟩ := may_lt HOKE.out.2.1
    have hz4 : eq ≤ 9223372036854775807 := by have := HOKE.out.2.2.1.2; dsimp only at this; omega
    dsimp only at hz1 hz2 hz3
    have HZ := Lib.hid (fun m => enc4_at (m := m) hz1 hz2 hz3 hz4)
    clear htx t1 t2 t3 t4 hb5 hz1 hz2 hz3 hz4
    obtain ⟨w6, hw6⟩ : ∃ y, w5.alloc (.cells #[.int .i64 dn, .int .i64 dl, .int .i64 dc, .int .i64 eq] 3) = y := ⟨_, rfl⟩
    have HB6 : Hid (Below w4.heap.size w4 w6) := Lib.hid (by rw [← hw6]; exact HB5.out.alloc HB5.out.size _)
    have HO6 : Hid (Go.BL.Own w6 w4.heap.size v5 b5) := Lib.hid (by rw [← hw6]; exact HO5.out.alloc _)
    have HK6 : Hid (Bk w6 w5.heap.size [.int .i64 dn, .int .i64 dl, .int .i64 dc, .int .i64 eq]) := Lib.hid (by rw [← hw6]; exact Bk.new w5 _ 3 rfl)
    have HS6 : Hid (w5.heap.size < w6.heap.size) := Lib.hid (by rw [← hw6]; simp)
    simp only [hw6]
    clear hw6
    go_loopw [5, 44] (fun jv mv wq => ∃ (m : Nat), m ≤ 4 ∧ mv = .int .i64 (m : Int) ∧ Hid (Below w6.heap.size w6 wq) ∧ Hid (Go.BL.Own wq w4.heap.size jv (b5 ++ enc4 [dn, dl, dc, eq] m))) (fun _ mv _ => 4 - (intOf mv).toNat)
    case atStart => exact ⟨0, by omega, rfl, Lib.hid (Below.refl _ _), by simpa [enc4] using HO6⟩
    case round =>
     rename_i u5
     rename World => wq
     obtain ⟨m, hm4, rfl, HBq, HOq⟩ := hrel
     by_cases hm : m < 4
     ·have hm' : (m : Int) < 4 := by omega
      obtain ⟨z, hz, hzl, hze, hzn⟩ := HZ.out m hm
      have HKq := HK6.out.below HBq.out HS6.out
      have c0 := (HKq m _ hz).1
      have HZE := Lib.hid hze
      obtain ⟨bq, hbq⟩ : ∃ y, b5 ++ enc4 [dn, dl, dc, eq] m = y := ⟨_, rfl⟩
      have HLQ : Hid (bq.length ≤ 6100) := Lib.hid (by rw [← hbq, List.length_append]; have := HL5.out; omega)
      rw [hbq] at HOq
      have HEQ : Hid (bq ++ enc z.toNat = b5 ++ enc4 [dn, dl, dc, eq] (m + 1)) := Lib.hid (by rw [HZE.out, ← hbq, List.append_assoc])
      obtain ⟨Aq, cq, rfl, hrq⟩ := own_read HOq.out
      have hput := put_onR (w := wq) (cap := cq) hrq z (Nat.le_trans HLQ.out (by decide)) hzl
      rw [HEQ.out] at hput
      clear hz hze hzn hbq hrq HKq
      go_wp2_with (go_at_call 165; refine hput.mono ?_; rintro e w7 ⟨v7, rfl, ho, hb⟩; have HB7 := Lib.hid (HBq.out.trans (hb.mono HBq.out.size)); have HO7 := Lib.hid (ho.base (Nat.le_trans HB6.out.size HBq.out.size)); clear ho hb)
      exact ⟨⟨m + 1, by omega, by go_num, HB7, HO7⟩, by simp [intOf]; omega⟩
     ·obtain rfl : m = 4 := by omega
      have hng : ¬ ((4 : Nat) : Int) < 4 := by omega
      obtain ⟨b8, hb8⟩ : ∃ y, b5 ++ enc4 [dn, dl, dc, eq] 4 = y := ⟨_, rfl⟩
      have HL8 : Hid (b8.length ≤ 6100) := Lib.hid (by
       rw [← hb8, List.length_append]; have := HL5.out
       obtain ⟨z, _, hz2, hz3, hz4⟩ := HZ.out 3 (by omega)
       have := enc_le hz2
       rw [hz3, List.length_append]; omega)
      rw [hb8] at HOq
      have HN8 : Hid (enc es.length ++ entsB (es.take (k + 1)) = b8 ++ le8 ep) := Lib.hid (by
       rw [HTK.out, ← hb8, ← HN5.out, ← HB4.out]; simp [entB, enc4])
      have HBw : Hid (Below w4.heap.size w4 wq) := Lib.hid (HB6.out.trans (HBq.out.mono HB6.out.size))
      clear hb8 hm hm4
      have t5 := ((HBK.out.below HBw.out HS4.out) 5 _ rfl).1
      go_wp2_with fail
      go_loopw [5, 10, 54] (fun jv pv iv wz => ∃ (i : Nat), i ≤ 8 ∧ iv = .int .i64 (i : Int) ∧ pv = .int .u64 ((ep / 2 ^ (8 * i) : Nat) : Int) ∧ Hid (Below w4.heap.size w4 wz) ∧ Hid (Go.BL.Own wz w4.heap.size jv (b8 ++ (le8 ep).take i))) (fun _ _ iv _ => 8 - (intOf iv).toNat)
      case atStart => exact ⟨0, by omega, rfl, by simp, HBw, by simpa using HOq⟩
      case round =>
       rename_i u5 _
       rename World => wz
       obtain ⟨i, hi8, rfl, rfl, HBz, HOz⟩ := hrel
       by_cases hi : i < 8
       ·have hi' : (i : Int) < 8 := by omega
        have hep : ep < 18446744073709551616 := HOKE.out.2.2.2
        obtain ⟨PP, hP⟩ : ∃ y : Nat, ep / 2 ^ (8 * i) = y := ⟨_, rfl⟩
        have HPP : Hid (PP < 18446744073709551616) := Lib.hid (by rw [← hP]; exact Nat.lt_of_le_of_lt (Nat.div_le_self _ _) hep)
        have HQ : Hid (ep / 2 ^ (8 * (i + 1)) = PP / 256) := Lib.hid (by rw [← hP, Nat.div_div_eq_div_mul, show 8 * (i + 1) = 8 * i + 8 by omega, Nat.pow_add])
        obtain ⟨y, hy⟩ : ∃ y : Nat, PP % 256 = y := ⟨_, rfl⟩
        have hylt : y < 256 := by omega
        have HYI : Hid ((PP : Int) % 256 = (y : Int)) := Lib.hid (by rw [← hy]; norm_cast)
        have HTI : Hid ((le8 ep).take (i + 1) = (le8 ep).take i ++ [y]) := Lib.hid (by rw [le8_at hi, hP, hy])
        have HYL := Lib.hid hylt
        have HPL : Hid ((b8 ++ (le8 ep).take i).length + 1 ≤ 140737488355328) := Lib.hid (by rw [List.length_append, List.length_take]; have := HL8.out; omega)
        have hye := HYI.out
        have hpp : (PP : Int) ≤ 18446744073709551615 := by have := HPP.out; omega
        rw [hP]
        clear hy hylt hep hP
        go_wp2_with (at_builtin; refine Go.BL.wpList_appB rfl (.tmp 56) (.tmp 60) 75 rfl Tryz.underlying75 info5 rfl (HOz.out.alloc _) rfl (rd_one wz _ y rfl HYL.out 5 (0, 0)) HPL.out (Nat.le_trans HBz.out.size (by simp)) ?_; intro v9 w9 ho hb; have HB9 := Lib.hid ((HBz.out.alloc HBz.out.size _).trans hb); have HO9 := Lib.hid ho; clear ho hb)
        exact ⟨⟨i + 1, by omega, by go_num, by rw [HQ.out]; norm_cast, HB9, by rw [HTI.out, ← List.append_assoc]; exact HO9⟩, by simp [intOf]; omega⟩
       ·obtain rfl : i = 8 := by omega
        have hng8 : ¬ ((8 : Nat) : Int) < 8 := by omega
        have hle : w0.heap.size ≤ w4.heap.size := Nat.le_trans HB2.out.size HW4.out.size
        have HBn : Hid (Below w0.heap.size w2 wz) := Lib.hid (HW4.out.trans (HBz.out.mono hle))
        have HOn : Hid (Go.BL.Own wz w0.heap.size u5 (enc es.length ++ entsB (es.take (k + 1)))) := Lib.hid (by
         have h := HOz.out.base hle
         rw [List.take_of_length_le (by simp [le8])] at h
         rw [HN8.out]; exact h)
        clear hle
        go_wp2_with fail
        exact ⟨⟨k + 1, by omega, by go_num, HBn, HOn⟩, by simp [intOf]; omega⟩
   ·have hkl : k = es.length := by omega
    subst hkl
    rw [List.take_length] at HO
    obtain ⟨bq, hbq⟩ : ∃ y, enc es.length ++ entsB es = y := ⟨_, rfl⟩
    have HLQ : Hid (bq.length ≤ 90000) := Lib.hid (by
     rw [← hbq, List.length_append]
     have := enc_len9 (n := es.length) (by omega)
     have := entsB_len es HOK.out
     omega)
    rw [hbq] at HO
    have HN : Hid (bq ++ ctxB x = cartB ⟨es, x⟩) := Lib.hid (by rw [← hbq]; simp [cartB])
    obtain ⟨Aq, cq, rfl, hrq⟩ := own_read HO.out
    have HB3 := Lib.hid (HB2.out.trans HBr.out)
    have henc := encD_any x mv cv Aq cq bq wr (HM.out.below HB3.out (Nat.le_refl _)) (HC.out.below HB3.out (Nat.le_refl _)) hrq HLQ.out
    unfold EncR at henc
    rw [HXX.out, HN.out] at henc
    have r1 := (HBr.out.cell (p := ⟨w.heap.size, 1, none⟩) HS.out).trans HJ1.out
    have r2 := (HBr.out.cell (p := ⟨w.heap.size, 2, none⟩) HS.out).trans HJ2.out
    clear hbq hrq
    go_wp2_with (go_at_call 167; refine henc.mono ?_; rintro e w9 ⟨v9, hb, rfl, ho⟩; have HB9 := Lib.hid hb; have HO9 := Lib.hid (ho rfl); clear hb ho)
    go_ret2
    have hle : w.heap.size ≤ wr.heap.size := Nat.le_trans HB.out.size HB3.out.size
    exact ⟨v9, (HB.out.trans (HB3.out.mono HB.out.size)).trans (HB9.out.mono hle), rfl, fun _ => HO9.out.base hle⟩
end Go.Proofs.YtpdedfpacklnoaaGreatDoor
