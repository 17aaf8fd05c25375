/- Contract of causal.read: ctxR. Contract of causal.Decode: ctxR. -/
import Derived.Test.YtpdedfpacklnoaaGreatDoorTkTkD
import Derived.Test.YtpdedfpacklnoaaGreatDoorTkCnx
set_option maxRecDepth 100000
namespace Go.Proofs.YtpdedfpacklnoaaGreatDoor
open Go.RowKit Go.BL Go.Ct Go.Sl Go.Wr W

theorem info150 : (Tryz.prog.info? 150).map (fun i => (i.zero, i.size, i.bytes)) = some (some (.agg #[.int .i64 0, .int .i64 0, .int .i64 0]), 3, 24) := by kernel_rfl
theorem dotsR_len : ∀ {bs : List Nat} {k i j : Nat} {a l : List Dt}, dotsR bs k i a = .ok (l, j) → l.length = a.length + k
 | bs, 0, i, j, a, l, h => by unfold dotsR at h; cases h; rfl
 | bs, k + 1, i, j, a, l, h => by
  unfold dotsR at h
  cases hd : dotR bs i with
  | error e => rw [hd] at h; cases h
  | ok p =>
   obtain ⟨d, j'⟩ := p
   rw [hd] at h
   have := dotsR_len h
   simp at this
   omega
theorem dots_len {bs : List Nat} {i j : Nat} {l : List Dt} (h : listR bs i = .ok (l, j)) : l.length ≤ 64 := by
 unfold listR at h
 split at h
 ·cases h
 ·split at h
  ·cases h
  ·have := dotsR_len h
   simp at this
   omega
def CtxRR (B g : Nat) (bs : List Nat) (r : Except Nat (Cx × Nat)) (w : World) (e : Ending) (w' : World) : Prop := Kept [g] w w' ∧ ∃ m v c j, e = .returned (.tuple #[.agg #[m, v], .int .i64 ((c : Nat) : Int)]) ∧ Rdr w' B g bs j ∧
 match r with
 | .error k => c = k ∧ k ≠ 0 ∧ m = .slice none 0 0 ∧ v = .slice none 0 0
 | .ok (x, j') => c = 0 ∧ j = j' ∧ OwnS 150 3 dotC w' w.heap.size m x.ms ∧ OwnS 90 3 dotC w' w.heap.size v x.cl
set_option maxHeartbeats 8000000 in
theorem cread_any (B g : Nat) (bs : List Nat) (i : Nat) (w : World) (h : Rdr w B g bs i) (hB : B ≤ w.heap.size) : Calls Tryz.prog 230 #[.pointer (some ⟨g, 0, none⟩)] w (CtxRR B g bs (ctxR bs i) w) := by
 have HBW := Lib.hid hB
 have HGB := Lib.hid h.ltB
 have HGW : Hid (g < w.heap.size) := Lib.hid (Nat.lt_of_lt_of_le h.ltB hB)
 obtain ⟨w0, hw0⟩ : ∃ y, w.alloc (.cells #[.slice none 0 0, .slice none 0 0] 30) = y := ⟨_, rfl⟩
 have HR0 : Hid (Rdr w0 B g bs i) := Lib.hid (by rw [← hw0]; exact h.alloc _)
 have HK0 : Hid (Kept [g] w w0) := Lib.hid (by rw [← hw0]; exact (Kept.refl _ w).alloc _)
 have HD0 : Hid (Bk w0 w.heap.size [.slice none 0 0, .slice none 0 0]) := Lib.hid (by rw [← hw0]; exact Bk.new w _ 30 rfl)
 have HS0 : Hid (w.heap.size < w0.heap.size) := Lib.hid (by rw [← hw0]; simp)
 have HRg : Hid (w.heap.size ∉ [g]) := Lib.hid (by have := HGW.out; simp; omega)
 have hd0 := dots_any B g bs i w0 HR0.out (Nat.le_trans hB HK0.out.size)
 unfold DotR at hd0
 clear h hB
 go_enter Tryz.func230, Tryz.ntmps230
 go_wp2_with fail
 clear hw0
 go_at_call 255
 refine hd0.mono ?_
 rintro e w1 ⟨hk1, v1, c1, j1, rfl, hr1, hm1⟩
 have HK1 := Lib.hid (HK0.out.then_ hk1)
 have HD1 := Lib.hid (HD0.out.kept hk1 HS0.out HRg.out)
 have HS1 : Hid (w.heap.size < w1.heap.size) := Lib.hid (Nat.lt_of_lt_of_le HS0.out hk1.size)
 have HR1 := Lib.hid hr1
 have HM1 := Lib.hid hm1
 clear hk1 hr1 hd0 hm1
 cases hl : listR bs i with
 | error k1 =>
  have hm1 := HM1.out
  rw [hl] at hm1
  obtain ⟨rfl, hk⟩ := hm1
  have HV : Hid (ctxR bs i = .error c1) := Lib.hid (by unfold ctxR; rw [hl])
  have hne : ((c1 : Int) != 0) = true := bne_iff_ne.2 (by omega)
  have HC1 := Lib.hid hk
  clear hl hk
  obtain ⟨f0, f1⟩ : w1.frozen? ⟨w.heap.size, 0, none⟩ = false ∧ w1.frozen? ⟨w.heap.size, 1, none⟩ = false := ⟨(HD1.out 0 _ rfl).2, (HD1.out 1 _ rfl).2⟩
  obtain ⟨g0, g1⟩ : w1.cell? ⟨w.heap.size, 0, none⟩ = some (.slice none 0 0) ∧ w1.cell? ⟨w.heap.size, 1, none⟩ = some (.slice none 0 0) := ⟨(HD1.out 0 _ rfl).1, (HD1.out 1 _ rfl).1⟩
  have hq := (HD1.out.set 0 (.slice none 0 0)).set 1 (.slice none 0 0)
  have q0 := (hq 0 _ rfl).1
  have q1 := (hq 1 _ rfl).1
  have HKF := Lib.hid ((HK1.out.setCell (p := ⟨w.heap.size, 0, none⟩) (.inr (Nat.le_refl _)) (.slice none 0 0)).setCell (p := ⟨w.heap.size, 1, none⟩) (.inr (Nat.le_refl _)) (.slice none 0 0))
  have HRF := Lib.hid ((HR1.out.far (p := ⟨w.heap.size, 0, none⟩) HBW.out (.slice none 0 0)).far (p := ⟨w.heap.size, 1, none⟩) HBW.out (.slice none 0 0))
  clear hq
  go_wp2_with fail
  refine bodyPost_ret (v := .tuple #[.agg #[.slice none 0 0, .slice none 0 0], .int .i64 (c1 : Int)]) (by simp [results, Tryz.results230, go_sem, q0, q1]; try rfl) rfl ?_
  exact ⟨HKF.out, _, _, c1, j1, rfl, HRF.out, by rw [HV.out]; exact ⟨rfl, HC1.out, rfl, rfl⟩⟩
 | ok r1 =>
  obtain ⟨l, i1⟩ := r1
  have hm1 := HM1.out
  rw [hl] at hm1
  obtain ⟨rfl, rfl, ho1⟩ := hm1
  have HO1 := Lib.hid ho1
  have HL1 := Lib.hid hl
  clear hl ho1 HM1
  have hd1 := dots_any B g bs j1 w1 HR1.out (Nat.le_trans HBW.out HK1.out.size)
  unfold DotR at hd1
  go_wp2_with fail
  go_at_call 255
  refine hd1.mono ?_
  rintro e w2 ⟨hk2, v2, c2, j2, rfl, hr2, hm2⟩
  have HK2 := Lib.hid (HK1.out.then_ hk2)
  have HD2 := Lib.hid (HD1.out.kept hk2 HS1.out HRg.out)
  have HS2 : Hid (w.heap.size < w2.heap.size) := Lib.hid (Nat.lt_of_lt_of_le HS1.out hk2.size)
  have HO1b := Lib.hid (HO1.out.kept hk2 (fun b hb => by have := HO1.out.block_ge b hb; have := HGW.out; have := HS0.out; simp; omega))
  have HR2 := Lib.hid hr2
  have HM2 := Lib.hid hm2
  have HW12 := Lib.hid hk2.size
  clear hk2 hr2 hd1 hm2
  cases hl : listR bs j1 with
  | error k2 =>
   have hm2 := HM2.out
   rw [hl] at hm2
   obtain ⟨rfl, hk⟩ := hm2
   have HV : Hid (ctxR bs i = .error c2) := Lib.hid (by unfold ctxR; rw [HL1.out]; dsimp only; rw [hl])
   have hne : ((c2 : Int) != 0) = true := bne_iff_ne.2 (by omega)
   have HC2 := Lib.hid hk
   clear hl hk
   obtain ⟨f0, f1⟩ : w2.frozen? ⟨w.heap.size, 0, none⟩ = false ∧ w2.frozen? ⟨w.heap.size, 1, none⟩ = false := ⟨(HD2.out 0 _ rfl).2, (HD2.out 1 _ rfl).2⟩
   obtain ⟨g0, g1⟩ : w2.cell? ⟨w.heap.size, 0, none⟩ = some (.slice none 0 0) ∧ w2.cell? ⟨w.heap.size, 1, none⟩ = some (.slice none 0 0) := ⟨(HD2.out 0 _ rfl).1, (HD2.out 1 _ rfl).1⟩
   have hq := (HD2.out.set 0 (.slice none 0 0)).set 1 (.slice none 0 0)
   have q0 := (hq 0 _ rfl).1
   have q1 := (hq 1 _ rfl).1
   have HKF := Lib.hid ((HK2.out.setCell (p := ⟨w.heap.size, 0, none⟩) (.inr (Nat.le_refl _)) (.slice none 0 0)).setCell (p := ⟨w.heap.size, 1, none⟩) (.inr (Nat.le_refl _)) (.slice none 0 0))
   have HRF := Lib.hid ((HR2.out.far (p := ⟨w.heap.size, 0, none⟩) HBW.out (.slice none 0 0)).far (p := ⟨w.heap.size, 1, none⟩) HBW.out (.slice none 0 0))
   clear hq
   go_wp2_with fail
   refine bodyPost_ret (v := .tuple #[.agg #[.slice none 0 0, .slice none 0 0], .int .i64 (c2 : Int)]) (by simp [results, Tryz.results230, go_sem, q0, q1]; try rfl) rfl ?_
   exact ⟨HKF.out, _, _, c2, j2, rfl, HRF.out, by rw [HV.out]; exact ⟨rfl, HC2.out, rfl, rfl⟩⟩
  | ok r2 =>
   obtain ⟨m, i2⟩ := r2
   have hm2 := HM2.out
   rw [hl] at hm2
   obtain ⟨rfl, rfl, ho2⟩ := hm2
   have HO2 := Lib.hid ho2
   have HL2 := Lib.hid hl
   clear hl ho2 HM2
   obtain ⟨A1, k1, rfl⟩ := HO1b.out.form
   obtain ⟨A2, k2, rfl⟩ := HO2.out.form
   obtain ⟨w3, hw3⟩ : ∃ y, w2.alloc (.cells #[.slice none 0 0, .slice A2 m.length k2] 30) = y := ⟨_, rfl⟩
   have HR3 : Hid (Rdr w3 B g bs j2) := Lib.hid (by rw [← hw3]; exact HR2.out.alloc _)
   have HK3 : Hid (Kept [g] w w3) := Lib.hid (by rw [← hw3]; exact HK2.out.alloc _)
   have HX3 : Hid (Bk w3 w2.heap.size [.slice none 0 0, .slice A2 m.length k2]) := Lib.hid (by rw [← hw3]; exact Bk.new w2 _ 30 rfl)
   have HD3 : Hid (Bk w3 w.heap.size [.slice none 0 0, .slice none 0 0]) := Lib.hid (by rw [← hw3]; exact HD2.out.alloc _ HS2.out)
   have hb23 : Below w2.heap.size w2 w3 := by rw [← hw3]; exact (Below.refl _ _).alloc (Nat.le_refl _) _
   have HO13 := Lib.hid (HO1b.out.below hb23 (Nat.le_refl _))
   have HO23 := Lib.hid (HO2.out.below hb23 (Nat.le_refl _))
   have HS3 : Hid (w2.heap.size < w3.heap.size) := Lib.hid (by rw [← hw3]; simp)
   have HX1 : Hid (∀ b, (Value.slice A1 l.length k1).ownBlock = some b → b ∉ [w2.heap.size]) := Lib.hid (fun b hb => by have := HO1b.out.block_lt b hb; simp; omega)
   have HX2 : Hid (∀ b, (Value.slice A2 m.length k2).ownBlock = some b → b ∉ [w2.heap.size]) := Lib.hid (fun b hb => by have := HO2.out.block_lt b hb; simp; omega)
   have HXR : Hid (w.heap.size ∉ [w2.heap.size]) := Lib.hid (by have := HS2.out; simp; omega)
   have HXB : Hid (∀ x ∈ [w2.heap.size], B ≤ x) := Lib.hid (by intro x hx; simp at hx; have := HBW.out; have := HS2.out; omega)
   clear hb23
   go_upto_region 8 with fail
   clear hw3
   have hl64 : l.length ≤ 1000000 := Nat.le_trans (dots_len HL1.out) (by decide)
   have hmm : m.length ≤ 1000000 := Nat.le_trans (dots_len HL2.out) (by decide)
   go_wp2_with fail
   go_loopw [32] (fun kv wr => ∃ (k : Nat) (mv : Value), k ≤ l.length ∧ kv = .int .i64 (k : Int) ∧ Hid (Kept [w2.heap.size] w3 wr) ∧ Hid (Bk wr w2.heap.size [mv, .slice A2 m.length k2]) ∧ Hid (OwnS 150 3 dotC wr w3.heap.size mv (l.take k))) (fun kv _ => l.length - (intOf kv).toNat)
   case atStart => exact ⟨0, .slice none 0 0, by omega, rfl, Lib.hid (Kept.refl _ _), HX3, Lib.hid (OwnS.nil _ _)⟩
   case round =>
    obtain ⟨k, mv, hk, rfl, HKr, HXr, HOr⟩ := hrel
    by_cases hlt : k < l.length
    ·have hsl : Dots wr (.slice A1 l.length k1) l := (HO13.out.kept HKr.out HX1.out).sl dotC_len (by omega)
     obtain ⟨b, off, rfl, hbl, hcc⟩ := dot_cells hsl (by omega)
     obtain ⟨d1, d2, d3⟩ := hcc k hlt
     have HTK := Lib.hid (List.take_succ_eq_append_getElem hlt)
     obtain ⟨⟨dn, dl, dc⟩, hx⟩ : ∃ x, l[k]'hlt = x := ⟨_, rfl⟩
     rw [hx] at d1 d2 d3 HTK
     dsimp only at d1 d2 d3
     clear hcc hx hsl
     obtain ⟨w5, hw5⟩ : ∃ y, wr.alloc (.cells #[.int .i64 dn, .int .i64 dl, .int .i64 dc] 90) = y := ⟨_, rfl⟩
     have HK5 : Hid (Kept [w2.heap.size] w3 w5) := Lib.hid (by rw [← hw5]; exact HKr.out.alloc _)
     have HX5 : Hid (Bk w5 w2.heap.size [mv, .slice A2 m.length k2]) := Lib.hid (by rw [← hw5]; exact HXr.out.alloc _ (Nat.lt_of_lt_of_le HS3.out HKr.out.size))
     have HO5 : Hid (OwnS 150 3 dotC w5 w3.heap.size mv (l.take k)) := Lib.hid (by rw [← hw5]; exact HOr.out.below ((Below.refl wr.heap.size wr).alloc (Nat.le_refl _) _) (Nat.le_refl _))
     have HD5 : Hid (Bk w5 wr.heap.size [.int .i64 dn, .int .i64 dl, .int .i64 dc]) := Lib.hid (by rw [← hw5]; exact Bk.new wr _ 90 rfl)
     have HLk : Hid ((l.take k).length ≤ 1000000) := Lib.hid (by rw [List.length_take]; omega)
     have HLN : Hid ((l.take k ++ [(⟨dn, dl, dc⟩ : Dt)]).length = k + 1) := Lib.hid (by rw [List.length_append, List.length_take]; simp; omega)
     go_upto_region 11 with fail
     clear hw5 d1 d2 d3
     have z0 := (HX5.out 0 _ rfl).1
     have z1 := (HX5.out 1 _ rfl).1
     have e0 := (HD5.out 0 _ rfl).1
     have e1 := (HD5.out 1 _ rfl).1
     have e2 := (HD5.out 2 _ rfl).1
     have HK6 := Lib.hid (HK5.out.alloc (.cells #[.int .i64 dn, .int .i64 dl, .int .i64 dc] 150))
     have HX6 := Lib.hid (HX5.out.alloc (.cells #[.int .i64 dn, .int .i64 dl, .int .i64 dc] 150) (Nat.lt_of_lt_of_le HS3.out HK5.out.size))
     have HO6 := Lib.hid (HO5.out.below ((Below.refl w5.heap.size w5).alloc (Nat.le_refl _) (.cells #[.int .i64 dn, .int .i64 dl, .int .i64 dc] 150)) (Nat.le_refl _))
     have HN6 := Lib.hid (Bk.new w5 (dotC ⟨dn, dl, dc⟩) 150 rfl)
     go_wp2_with (at_builtin; refine wpList_appS rfl _ _ 27 rfl Tryz.underlying27 info150 rfl (by decide) dotC_len dotC_one (by decide) rfl HO6.out (g := w5.heap.size) (c := 1) (y := ⟨dn, dl, dc⟩) rfl (fun j u hj => (HN6.out j u hj).1) HLk.out HK6.out.size ?_; intro v' w7 hown' hb7 _; have HO7 := Lib.hid hown'; have HK7 := Lib.hid (HK6.out.then_below hb7); have HX7 := Lib.hid (HX6.out.below hb7 HS3.out); clear hown' hb7; obtain ⟨y0, yf0⟩ := HX7.out 0 _ rfl; obtain ⟨A7, c7, h7⟩ := HO7.out.form; rw [HLN.out] at h7; subst h7)
     exact ⟨⟨k + 1, _, by omega, by go_num, Lib.hid (HK7.out.setCell (p := ⟨w2.heap.size, 0, none⟩) (.inl (by simp)) _), Lib.hid (HX7.out.set 0 _), Lib.hid (by rw [HTK.out]; exact HO7.out.setCell (p := ⟨w2.heap.size, 0, none⟩) HS3.out _)⟩, by simp [intOf]; omega⟩
    ·have hkl : k = l.length := by omega
     have HTL : Hid (l.take k = l) := Lib.hid (List.take_of_length_le (by omega))
     obtain ⟨A8, c8, rfl⟩ := HOr.out.form
     rw [HTL.out] at HOr HXr
     have hDl : Dots wr (.slice A8 l.length c8) l := HOr.out.sl dotC_len (by omega)
     have HOm := Lib.hid (HO23.out.kept HKr.out HX2.out)
     have hDm : Dots wr (.slice A2 m.length k2) m := HOm.out.sl dotC_len (by omega)
     have hcan := canX_any ⟨l, m⟩ (.slice A8 l.length c8) (.slice A2 m.length k2) wr hDl hDm
     obtain ⟨cx, hcx⟩ : ∃ y, canX ⟨l, m⟩ = y := ⟨_, rfl⟩
     rw [hcx] at hcan
     have HCX := Lib.hid hcx
     have HRr := Lib.hid (HR3.out.kept HKr.out HXB.out)
     have HDr := Lib.hid (HD3.out.kept HKr.out (Nat.lt_trans HS2.out HS3.out) HXR.out)
     have HKw := Lib.hid (HK3.out.trans HKr.out (fun x hx => by simp at hx; have := HS2.out; omega))
     have HSr : Hid (w.heap.size < wr.heap.size) := Lib.hid (Nat.lt_of_lt_of_le (Nat.lt_trans HS2.out HS3.out) HKr.out.size)
     have HSX : Hid (w2.heap.size < wr.heap.size) := Lib.hid (Nat.lt_of_lt_of_le HS3.out HKr.out.size)
     have x0 := (HXr.out 0 _ rfl).1
     have x1 := (HXr.out 1 _ rfl).1
     clear hDl hDm hcx
     go_upto_region 13 with fail
     cases cx
     case false =>
      have HV : Hid (ctxR bs i = .error 30) := Lib.hid (by unfold ctxR; rw [HL1.out]; dsimp only; rw [HL2.out]; dsimp only; rw [HCX.out]; rfl)
      go_wp2_with (go_at_call 219; refine hcan.mono ?_; rintro e w8 ⟨rfl, hb8⟩; have HB8 := Lib.hid hb8; clear hb8 hcan; have HD8 := Lib.hid (HDr.out.below HB8.out HSr.out); have HX8 := Lib.hid (HXr.out.below HB8.out HSX.out); obtain ⟨g0, f0⟩ := HD8.out 0 _ rfl; obtain ⟨g1, f1⟩ := HD8.out 1 _ rfl; have y0 := (HX8.out 0 _ rfl).1; have y1 := (HX8.out 1 _ rfl).1; have HQ := Lib.hid ((HD8.out.set 0 (.slice none 0 0)).set 1 (.slice none 0 0)); have q0 := (HQ.out 0 _ rfl).1; have q1 := (HQ.out 1 _ rfl).1)
      have HKF := Lib.hid (((HKw.out.then_below (HB8.out.mono (Nat.le_of_lt HSr.out))).setCell (p := ⟨w.heap.size, 0, none⟩) (.inr (Nat.le_refl _)) (.slice none 0 0)).setCell (p := ⟨w.heap.size, 1, none⟩) (.inr (Nat.le_refl _)) (.slice none 0 0))
      have HRF := Lib.hid (((HRr.out.below HB8.out (Nat.le_trans HBW.out (Nat.le_of_lt HSr.out))).far (p := ⟨w.heap.size, 0, none⟩) HBW.out (.slice none 0 0)).far (p := ⟨w.heap.size, 1, none⟩) HBW.out (.slice none 0 0))
      refine bodyPost_ret (v := .tuple #[.agg #[.slice none 0 0, .slice none 0 0], .int .i64 30]) (by simp [results, Tryz.results230, go_sem, q0, q1]; try rfl) rfl ?_
      exact ⟨HKF.out, _, _, 30, j2, rfl, HRF.out, by rw [HV.out]; exact ⟨rfl, by decide, rfl, rfl⟩⟩
     case true =>
      have HV : Hid (ctxR bs i = .ok (⟨l, m⟩, j2)) := Lib.hid (by unfold ctxR; rw [HL1.out]; dsimp only; rw [HL2.out]; dsimp only; rw [HCX.out]; rfl)
      go_wp2_with (go_at_call 219; refine hcan.mono ?_; rintro e w8 ⟨rfl, hb8⟩; have HB8 := Lib.hid hb8; clear hb8 hcan; have HD8 := Lib.hid (HDr.out.below HB8.out HSr.out); have HX8 := Lib.hid (HXr.out.below HB8.out HSX.out); obtain ⟨g0, f0⟩ := HD8.out 0 _ rfl; obtain ⟨g1, f1⟩ := HD8.out 1 _ rfl; have y0 := (HX8.out 0 _ rfl).1; have y1 := (HX8.out 1 _ rfl).1; have HQ := Lib.hid ((HD8.out.set 0 (.slice A8 l.length c8)).set 1 (.slice A2 m.length k2)); have q0 := (HQ.out 0 _ rfl).1; have q1 := (HQ.out 1 _ rfl).1)
      have HO8 := Lib.hid (HOr.out.below HB8.out (Nat.le_refl _))
      have HM8 := Lib.hid (HOm.out.below HB8.out (Nat.le_refl _))
      have HOF := Lib.hid (((HO8.out.setCell (p := ⟨w.heap.size, 0, none⟩) (Nat.lt_trans HS2.out HS3.out) (.slice A8 l.length c8)).setCell (p := ⟨w.heap.size, 1, none⟩) (Nat.lt_trans HS2.out HS3.out) (.slice A2 m.length k2)).base (Nat.le_of_lt (Nat.lt_trans HS2.out HS3.out)))
      have HOG := Lib.hid (((HM8.out.setCell (p := ⟨w.heap.size, 0, none⟩) HS1.out (.slice A8 l.length c8)).setCell (p := ⟨w.heap.size, 1, none⟩) HS1.out (.slice A2 m.length k2)).base (Nat.le_of_lt HS1.out))
      have HKF := Lib.hid (((HKw.out.then_below (HB8.out.mono (Nat.le_of_lt HSr.out))).setCell (p := ⟨w.heap.size, 0, none⟩) (.inr (Nat.le_refl _)) (.slice A8 l.length c8)).setCell (p := ⟨w.heap.size, 1, none⟩) (.inr (Nat.le_refl _)) (.slice A2 m.length k2))
      have HRF := Lib.hid (((HRr.out.below HB8.out (Nat.le_trans HBW.out (Nat.le_of_lt HSr.out))).far (p := ⟨w.heap.size, 0, none⟩) HBW.out (.slice A8 l.length c8)).far (p := ⟨w.heap.size, 1, none⟩) HBW.out (.slice A2 m.length k2))
      refine bodyPost_ret (v := .tuple #[.agg #[.slice A8 l.length c8, .slice A2 m.length k2], .int .i64 0]) (by simp [results, Tryz.results230, go_sem, q0, q1]; try rfl) rfl ?_
      exact ⟨HKF.out, _, _, 0, j2, rfl, HRF.out, by rw [HV.out]; exact ⟨rfl, rfl, HOF.out, HOG.out⟩⟩
end Go.Proofs.YtpdedfpacklnoaaGreatDoor
set_option maxRecDepth 100000
namespace Go.Proofs.YtpdedfpacklnoaaGreatDoor
open Go.RowKit Go.BL Go.Ct Go.Sl Go.Wr W

def CDecR (B g : Nat) (bs : List Nat) (r : Except Nat (Cx × Nat)) (w : World) (e : Ending) (w' : World) : Prop := Kept [g] w w' ∧ ∃ m v c, e = .returned (.tuple #[.agg #[m, v], .int .i64 ((c : Nat) : Int)]) ∧
 match r with
 | .error k => c = k ∧ k ≠ 0 ∧ m = .slice none 0 0 ∧ v = .slice none 0 0
 | .ok (x, j') => c = 0 ∧ Rdr w' B g bs j' ∧ OwnS 150 3 dotC w' w.heap.size m x.ms ∧ OwnS 90 3 dotC w' w.heap.size v x.cl
theorem rdr_bk {w : World} {B g i : Nat} {bs : List Nat} (h : Rdr w B g bs i) : ∃ G c, Bk w g [.slice G bs.length c, .int .i64 (i : Int), .bool true] := by
 obtain ⟨G, c, hh, _⟩ := h
 refine ⟨G, c, fun k v hv => ⟨?_, ?_⟩⟩
 ·rw [cell_of_row w g k _ 270 (0, 0) hh]; simpa using hv
 ·unfold World.frozen?; simp [hh]
set_option maxHeartbeats 8000000 in
theorem cdec_any (B g : Nat) (bs : List Nat) (i : Nat) (w : World) (h : Rdr w B g bs i) (hB : B ≤ w.heap.size) : Calls Tryz.prog 189 #[.pointer (some ⟨g, 0, none⟩)] w (CDecR B g bs (ctxR bs i) w) := by
 have HBW := Lib.hid hB
 have HGB := Lib.hid h.ltB
 have HGW : Hid (g < w.heap.size) := Lib.hid (Nat.lt_of_lt_of_le h.ltB hB)
 obtain ⟨w0, hw0⟩ : ∃ y, w.alloc (.cells #[.slice none 0 0, .slice none 0 0] 30) = y := ⟨_, rfl⟩
 have hr0 : Rdr w0 B g bs i := by rw [← hw0]; exact h.alloc _
 obtain ⟨G, cc, hbk⟩ := rdr_bk hr0
 obtain ⟨w1, hw1⟩ : ∃ y, w0.alloc (.cells #[.slice G bs.length cc, .int .i64 (i : Int), .bool true] 270) = y := ⟨_, rfl⟩
 have HR1 : Hid (Rdr w1 B g bs i) := Lib.hid (by rw [← hw1]; exact hr0.alloc _)
 have HK1 : Hid (Kept [g] w w1) := Lib.hid (by rw [← hw1, ← hw0]; exact ((Kept.refl _ w).alloc _).alloc _)
 have HD1 : Hid (Bk w1 w.heap.size [.slice none 0 0, .slice none 0 0]) := Lib.hid (by rw [← hw1, ← hw0]; exact (Bk.new w _ 30 rfl).alloc _ (by simp))
 have HS0 : Hid (w.heap.size < w0.heap.size) := Lib.hid (by rw [← hw0]; simp)
 have HC1 : Hid (Bk w1 w0.heap.size [.slice G bs.length cc, .int .i64 (i : Int), .bool true]) := Lib.hid (by rw [← hw1]; exact Bk.new w0 _ 270 rfl)
 have HS1 : Hid (w0.heap.size < w1.heap.size) := Lib.hid (by rw [← hw1]; simp)
 have HRg : Hid (w.heap.size ∉ [g]) := Lib.hid (by have := HGW.out; simp; omega)
 have HRg1 : Hid (w0.heap.size ∉ [g]) := Lib.hid (by have := HGW.out; have := HS0.out; simp; omega)
 have b0 := (hbk 0 _ rfl).1
 have b1 := (hbk 1 _ rfl).1
 have b2 := (hbk 2 _ rfl).1
 have hd := cread_any B g bs i w1 HR1.out (Nat.le_trans hB HK1.out.size)
 unfold CtxRR at hd
 clear h hB hr0 hbk
 go_enter Tryz.func189, Tryz.ntmps189
 go_upto_region 4 with fail
 clear hw0 hw1 b0 b1 b2
 go_wp2_with fail
 go_at_call 230
 refine hd.mono ?_
 clear hd
 rintro e w2 ⟨hk2, m, v, c2, j2, rfl, hr2, hm2⟩
 have HK2 := Lib.hid (HK1.out.then_ hk2)
 have HD2 := Lib.hid (HD1.out.kept hk2 (Nat.lt_trans HS0.out HS1.out) HRg.out)
 have HC2 := Lib.hid (HC1.out.kept hk2 HS1.out HRg1.out)
 have HS2 : Hid (w0.heap.size < w2.heap.size) := Lib.hid (Nat.lt_of_lt_of_le HS1.out hk2.size)
 have HSw : Hid (w.heap.size < w2.heap.size) := Lib.hid (Nat.lt_trans HS0.out HS2.out)
 have HW12 := Lib.hid hk2.size
 have HR2 := Lib.hid hr2
 have HM2 := Lib.hid hm2
 clear hk2 hr2 hm2
 have HGR : Hid (g ≠ w.heap.size) := Lib.hid (by have := HGW.out; omega)
 cases hl : ctxR bs i with
 | error k2 =>
  have hm2 := HM2.out
  rw [hl] at hm2
  obtain ⟨rfl, hk, rfl, rfl⟩ := hm2
  have HV := Lib.hid hl
  have hne : ((c2 : Int) != 0) = true := bne_iff_ne.2 (by omega)
  have HCC := Lib.hid hk
  clear hl hk HM2
  obtain ⟨w3, hw3⟩ : ∃ y, w2.alloc (.cells #[.slice none 0 0, .slice none 0 0] 30) = y := ⟨_, rfl⟩
  obtain ⟨G', cc', hbk⟩ := rdr_bk HR2.out
  have hgw2 : g < w2.heap.size := Nat.lt_trans HGW.out HSw.out
  have HG3 : Hid (Bk w3 g [.slice G' bs.length cc', .int .i64 (j2 : Int), .bool true]) := Lib.hid (by rw [← hw3]; exact hbk.alloc _ hgw2)
  have HC3 : Hid (Bk w3 w0.heap.size [.slice G bs.length cc, .int .i64 (i : Int), .bool true]) := Lib.hid (by rw [← hw3]; exact HC2.out.alloc _ HS2.out)
  have HD3 : Hid (Bk w3 w.heap.size [.slice none 0 0, .slice none 0 0]) := Lib.hid (by rw [← hw3]; exact HD2.out.alloc _ HSw.out)
  have HK3 : Hid (Kept [g] w w3) := Lib.hid (by rw [← hw3]; exact HK2.out.alloc _)
  have HW3 := Lib.hid hw3
  clear hbk hgw2 hw3
  go_upto_region 5 with fail
  rw [HW3.out]
  obtain ⟨c0, _⟩ := HC3.out 0 _ rfl
  obtain ⟨c1, _⟩ := HC3.out 1 _ rfl
  obtain ⟨c2', _⟩ := HC3.out 2 _ rfl
  obtain ⟨g0, f0⟩ := HG3.out 0 _ rfl
  obtain ⟨g1, f1⟩ := HG3.out 1 _ rfl
  obtain ⟨g2, f2⟩ := HG3.out 2 _ rfl
  have HK4 := Lib.hid (((HK3.out.setCell (p := ⟨g, 0, none⟩) (.inl (by simp)) (.slice G bs.length cc)).setCell (p := ⟨g, 1, none⟩) (.inl (by simp)) (.int .i64 (i : Int))).setCell (p := ⟨g, 2, none⟩) (.inl (by simp)) (.bool true))
  have HD4 := Lib.hid (((HD3.out.other (p := ⟨g, 0, none⟩) HGR.out (.slice G bs.length cc)).other (p := ⟨g, 1, none⟩) HGR.out (.int .i64 (i : Int))).other (p := ⟨g, 2, none⟩) HGR.out (.bool true))
  obtain ⟨w4, hw4⟩ : ∃ y, ((w3.setCell ⟨g, 0, none⟩ (.slice G bs.length cc)).setCell ⟨g, 1, none⟩ (.int .i64 (i : Int))).setCell ⟨g, 2, none⟩ (.bool true) = y := ⟨_, rfl⟩
  rw [hw4] at HK4 HD4
  go_upto_region 7 with fail
  clear hw4 c0 c1 c2' g0 g1 g2 f0 f1 f2
  obtain ⟨g0, f0⟩ := HD4.out 0 _ rfl
  obtain ⟨g1, f1⟩ := HD4.out 1 _ rfl
  have HQ := Lib.hid ((HD4.out.set 0 (.slice none 0 0)).set 1 (.slice none 0 0))
  have q0 := (HQ.out 0 _ rfl).1
  have q1 := (HQ.out 1 _ rfl).1
  have HKF := Lib.hid ((HK4.out.setCell (p := ⟨w.heap.size, 0, none⟩) (.inr (Nat.le_refl _)) (.slice none 0 0)).setCell (p := ⟨w.heap.size, 1, none⟩) (.inr (Nat.le_refl _)) (.slice none 0 0))
  go_wp2_with fail
  refine bodyPost_ret (v := .tuple #[.agg #[.slice none 0 0, .slice none 0 0], .int .i64 (c2 : Int)]) (by simp [results, Tryz.results189, go_sem, q0, q1]; try rfl) rfl ?_
  exact ⟨HKF.out, _, _, c2, rfl, by rw [HV.out]; exact ⟨rfl, HCC.out, rfl, rfl⟩⟩
 | ok r2 =>
  obtain ⟨x, i2⟩ := r2
  have hm2 := HM2.out
  rw [hl] at hm2
  obtain ⟨rfl, rfl, ho1, ho2⟩ := hm2
  obtain ⟨Am, cm, rfl⟩ := ho1.form
  obtain ⟨Av, cv, rfl⟩ := ho2.form
  have HV := Lib.hid hl
  have HO1 := Lib.hid ho1
  have HO2 := Lib.hid ho2
  clear hl ho1 ho2 HM2
  obtain ⟨w3, hw3⟩ : ∃ y, w2.alloc (.cells #[.slice Am x.ms.length cm, .slice Av x.cl.length cv] 30) = y := ⟨_, rfl⟩
  have HD3 : Hid (Bk w3 w.heap.size [.slice none 0 0, .slice none 0 0]) := Lib.hid (by rw [← hw3]; exact HD2.out.alloc _ HSw.out)
  have HX3 : Hid (Bk w3 w2.heap.size [.slice Am x.ms.length cm, .slice Av x.cl.length cv]) := Lib.hid (by rw [← hw3]; exact Bk.new w2 _ 30 rfl)
  have HK3 : Hid (Kept [g] w w3) := Lib.hid (by rw [← hw3]; exact HK2.out.alloc _)
  have HR3 : Hid (Rdr w3 B g bs j2) := Lib.hid (by rw [← hw3]; exact HR2.out.alloc _)
  have hb23 : Below w2.heap.size w2 w3 := by rw [← hw3]; exact (Below.refl _ _).alloc (Nat.le_refl _) _
  have HO13 := Lib.hid (HO1.out.below hb23 (Nat.le_refl _))
  have HO23 := Lib.hid (HO2.out.below hb23 (Nat.le_refl _))
  clear hb23
  go_upto_region 5 with fail
  clear hw3
  obtain ⟨x0, _⟩ := HX3.out 0 _ rfl
  obtain ⟨x1, _⟩ := HX3.out 1 _ rfl
  obtain ⟨g0, f0⟩ := HD3.out 0 _ rfl
  obtain ⟨g1, f1⟩ := HD3.out 1 _ rfl
  have HQ := Lib.hid ((HD3.out.set 0 (.slice Am x.ms.length cm)).set 1 (.slice Av x.cl.length cv))
  have q0 := (HQ.out 0 _ rfl).1
  have q1 := (HQ.out 1 _ rfl).1
  have HKF := Lib.hid ((HK3.out.setCell (p := ⟨w.heap.size, 0, none⟩) (.inr (Nat.le_refl _)) (.slice Am x.ms.length cm)).setCell (p := ⟨w.heap.size, 1, none⟩) (.inr (Nat.le_refl _)) (.slice Av x.cl.length cv))
  have HRF := Lib.hid ((HR3.out.far (p := ⟨w.heap.size, 0, none⟩) HBW.out (.slice Am x.ms.length cm)).far (p := ⟨w.heap.size, 1, none⟩) HBW.out (.slice Av x.cl.length cv))
  have HSa : Hid (w.heap.size < w1.heap.size) := Lib.hid (Nat.lt_trans HS0.out HS1.out)
  have HOF := Lib.hid (((HO13.out.setCell (p := ⟨w.heap.size, 0, none⟩) HSa.out (.slice Am x.ms.length cm)).setCell (p := ⟨w.heap.size, 1, none⟩) HSa.out (.slice Av x.cl.length cv)).base (Nat.le_of_lt HSa.out))
  have HOG := Lib.hid (((HO23.out.setCell (p := ⟨w.heap.size, 0, none⟩) HSa.out (.slice Am x.ms.length cm)).setCell (p := ⟨w.heap.size, 1, none⟩) HSa.out (.slice Av x.cl.length cv)).base (Nat.le_of_lt HSa.out))
  go_wp2_with fail
  refine bodyPost_ret (v := .tuple #[.agg #[.slice Am x.ms.length cm, .slice Av x.cl.length cv], .int .i64 0]) (by simp [results, Tryz.results189, go_sem, q0, q1]; try rfl) rfl ?_
  exact ⟨HKF.out, _, _, 0, rfl, by rw [HV.out]; exact ⟨rfl, HRF.out, HOF.out, HOG.out⟩⟩
end Go.Proofs.YtpdedfpacklnoaaGreatDoor
