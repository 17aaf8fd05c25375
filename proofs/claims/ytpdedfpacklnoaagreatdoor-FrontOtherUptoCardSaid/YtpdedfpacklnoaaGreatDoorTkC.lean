/- Contract of causal.Decode: ctxR. -/
import Derived.Test.YtpdedfpacklnoaaGreatDoorTkR
set_option maxRecDepth 100000
namespace Go.Proofs.YtpdedfpacklnoaaGreatDoor
open Go.RowKit Go.BL Go.Ct Go.Sl Go.Wr W

def CDecR (B g : Nat) (bs : List Nat) (r : Except Nat (Cx × Nat)) (w : World) (e : Ending) (w' : World) : Prop := Kept [g] w w' ∧ ∃ m v c, e = .returned (.tuple #[.agg #[m, v], .int .i64 ((c : Nat) : Int)]) ∧
  match r with
  | .error k => c = k ∧ k ≠ 0 ∧ m = .slice none 0 0 ∧ v = .slice none 0 0
  | .ok (x, j') => c = 0 ∧ Rdr w' B g bs j' ∧ OwnS 150 3 dotC w' w.heap.size m x.ms ∧ OwnS 90 3 dotC w' w.heap.size v x.cl
theorem rdr_bk {w : World} {B g i : Nat} {bs : List Nat} (h : Rdr w B g bs i) : ∃ G c, Bk w g [.slice G bs.length c, .int .i64 (i : Int), .bool true] := by
  obtain ⟨G, c, hh, _⟩ := h
  refine ⟨G, c, fun k v hv => ⟨?_, ?_⟩⟩
  · rw [cell_of_row w g k _ 270 (0, 0) hh]; simpa using hv
  · unfold World.frozen?; simp [hh]
set_option maxHeartbeats 8000000 in
theorem cdec_any (B g : Nat) (bs : List Nat) (i : Nat) (w : World) (h : Rdr w B g bs i) (hB : B ≤ w.heap.size) : Calls Tryz.prog 189 #[.pointer (some ⟨g, 0, none⟩)] w (CDecR B g bs (ctxR bs i) w) := by
  have HBW := Lib.hid hB
  have HGB := Lib.hid h.ltB
  have HGW : Hid (g < w.heap.size) := Lib.hid (Nat.lt_of_lt_of_le h.ltB hB)
  obtain ⟨w0, hw0⟩ : ∃ y, w.alloc (.cells #[.slice none 0 0, .slice none 0 0] 30) = y := ⟨_, rfl⟩
  have hr0 : Rdr w0 B g bs i := by rw [← hw0]; exact h.alloc _
  obtain ⟨G, cc, hbk⟩ := rdr_bk hr0
  obtain ⟨w1, hw1⟩ : ∃ y, w0.alloc (.cells #[.slice G bs.length cc, .int .i64 (i : Int), .bool true] 270) = y := ⟨_, rfl⟩
  have HR1 : Hid (Rdr w1 B g bs i) := Lib.hid (by rw [← hw1]; exact hr0.alloc _)
  have HK1 : Hid (Kept [g] w w1) := Lib.hid (by rw [← hw1, ← hw0]; exact ((Kept.refl _ w).alloc _).alloc _)
  have HD1 : Hid (Bk w1 w.heap.size [.slice none 0 0, .slice none 0 0]) := Lib.hid (by rw [← hw1, ← hw0]; exact (Bk.new w _ 30 rfl).alloc _ (by simp))
  have HS0 : Hid (w.heap.size < w0.heap.size) := Lib.hid (by rw [← hw0]; simp)
  have HC1 : Hid (Bk w1 w0.heap.size [.slice G bs.length cc, .int .i64 (i : Int), .bool true]) := Lib.hid (by rw [← hw1]; exact Bk.new w0 _ 270 rfl)
  have HS1 : Hid (w0.heap.size < w1.heap.size) := Lib.hid (by rw [← hw1]; simp)
  have HRg : Hid (w.heap.size ∉ [g]) := Lib.hid (by have := HGW.out; simp; omega)
  have HRg1 : Hid (w0.heap.size ∉ [g]) := Lib.hid (by have := HGW.out; have := HS0.out; simp; omega)
  have b0 := (hbk 0 _ rfl).1
  have b1 := (hbk 1 _ rfl).1
  have b2 := (hbk 2 _ rfl).1
  have hd := cread_any B g bs i w1 HR1.out (Nat.le_trans hB HK1.out.size)
  unfold CtxRR at hd
  clear h hB hr0 hbk
  go_enter Tryz.func189, Tryz.ntmps189
  go_upto_region 4 with fail
  clear hw0 hw1 b0 b1 b2
  go_wp2_with fail
  go_at_call 230
  refine hd.mono ?_
  clear hd
  rintro e w2 ⟨hk2, m, v, c2, j2, rfl, hr2, hm2⟩
  have HK2 := Lib.hid (HK1.out.then_ hk2)
  have HD2 := Lib.hid (HD1.out.kept hk2 (Nat.lt_trans HS0.out HS1.out) HRg.out)
  have HC2 := Lib.hid (HC1.out.kept hk2 HS1.out HRg1.out)
  have HS2 : Hid (w0.heap.size < w2.heap.size) := Lib.hid (Nat.lt_of_lt_of_le HS1.out hk2.size)
  have HSw : Hid (w.heap.size < w2.heap.size) := Lib.hid (Nat.lt_trans HS0.out HS2.out)
  have HW12 := Lib.hid hk2.size
  have HR2 := Lib.hid hr2
  have HM2 := Lib.hid hm2
  clear hk2 hr2 hm2
  have HGR : Hid (g ≠ w.heap.size) := Lib.hid (by have := HGW.out; omega)
  cases hl : ctxR bs i with
  | error k2 =>
    have hm2 := HM2.out
    rw [hl] at hm2
    obtain ⟨rfl, hk, rfl, rfl⟩ := hm2
    have HV := Lib.hid hl
    have hne : ((c2 : Int) != 0) = true := bne_iff_ne.2 (by omega)
    have HCC := Lib.hid hk
    clear hl hk HM2
    obtain ⟨w3, hw3⟩ : ∃ y, w2.alloc (.cells #[.slice none 0 0, .slice none 0 0] 30) = y := ⟨_, rfl⟩
    obtain ⟨G', cc', hbk⟩ := rdr_bk HR2.out
    have hgw2 : g < w2.heap.size := Nat.lt_trans HGW.out HSw.out
    have HG3 : Hid (Bk w3 g [.slice G' bs.length cc', .int .i64 (j2 : Int), .bool true]) := Lib.hid (by rw [← hw3]; exact hbk.alloc _ hgw2)
    have HC3 : Hid (Bk w3 w0.heap.size [.slice G bs.length cc, .int .i64 (i : Int), .bool true]) := Lib.hid (by rw [← hw3]; exact HC2.out.alloc _ HS2.out)
    have HD3 : Hid (Bk w3 w.heap.size [.slice none 0 0, .slice none 0 0]) := Lib.hid (by rw [← hw3]; exact HD2.out.alloc _ HSw.out)
    have HK3 : Hid (Kept [g] w w3) := Lib.hid (by rw [← hw3]; exact HK2.out.alloc _)
    have HW3 := Lib.hid hw3
    clear hbk hgw2 hw3
    go_upto_region 5 with fail
    rw [HW3.out]
    obtain ⟨c0, _⟩ := HC3.out 0 _ rfl
    obtain ⟨c1, _⟩ := HC3.out 1 _ rfl
    obtain ⟨c2', _⟩ := HC3.out 2 _ rfl
    obtain ⟨g0, f0⟩ := HG3.out 0 _ rfl
    obtain ⟨g1, f1⟩ := HG3.out 1 _ rfl
    obtain ⟨g2, f2⟩ := HG3.out 2 _ rfl
    have HK4 := Lib.hid (((HK3.out.setCell (p := ⟨g, 0, none⟩) (.inl (by simp)) (.slice G bs.length cc)).setCell (p := ⟨g, 1, none⟩) (.inl (by simp)) (.int .i64 (i : Int))).setCell (p := ⟨g, 2, none⟩) (.inl (by simp)) (.bool true))
    have HD4 := Lib.hid (((HD3.out.other (p := ⟨g, 0, none⟩) HGR.out (.slice G bs.length cc)).other (p := ⟨g, 1, none⟩) HGR.out (.int .i64 (i : Int))).other (p := ⟨g, 2, none⟩) HGR.out (.bool true))
    obtain ⟨w4, hw4⟩ : ∃ y, ((w3.setCell ⟨g, 0, none⟩ (.slice G bs.length cc)).setCell ⟨g, 1, none⟩ (.int .i64 (i : Int))).setCell ⟨g, 2, none⟩ (.bool true) = y := ⟨_, rfl⟩
    rw [hw4] at HK4 HD4
    go_upto_region 7 with fail
    clear hw4 c0 c1 c2' g0 g1 g2 f0 f1 f2
    obtain ⟨g0, f0⟩ := HD4.out 0 _ rfl
    obtain ⟨g1, f1⟩ := HD4.out 1 _ rfl
    have HQ := Lib.hid ((HD4.out.set 0 (.slice none 0 0)).set 1 (.slice none 0 0))
    have q0 := (HQ.out 0 _ rfl).1
    have q1 := (HQ.out 1 _ rfl).1
    have HKF := Lib.hid ((HK4.out.setCell (p := ⟨w.heap.size, 0, none⟩) (.inr (Nat.le_refl _)) (.slice none 0 0)).setCell (p := ⟨w.heap.size, 1, none⟩) (.inr (Nat.le_refl _)) (.slice none 0 0))
    go_wp2_with fail
    refine bodyPost_ret (v := .tuple #[.agg #[.slice none 0 0, .slice none 0 0], .int .i64 (c2 : Int)]) (by simp [results, Tryz.results189, go_sem, q0, q1]; try rfl) rfl ?_
    exact ⟨HKF.out, _, _, c2, rfl, by rw [HV.out]; exact ⟨rfl, HCC.out, rfl, rfl⟩⟩
  | ok r2 =>
    obtain ⟨x, i2⟩ := r2
    have hm2 := HM2.out
    rw [hl] at hm2
    obtain ⟨rfl, rfl, ho1, ho2⟩ := hm2
    obtain ⟨Am, cm, rfl⟩ := ho1.form
    obtain ⟨Av, cv, rfl⟩ := ho2.form
    have HV := Lib.hid hl
    have HO1 := Lib.hid ho1
    have HO2 := Lib.hid ho2
    clear hl ho1 ho2 HM2
    obtain ⟨w3, hw3⟩ : ∃ y, w2.alloc (.cells #[.slice Am x.ms.length cm, .slice Av x.cl.length cv] 30) = y := ⟨_, rfl⟩
    have HD3 : Hid (Bk w3 w.heap.size [.slice none 0 0, .slice none 0 0]) := Lib.hid (by rw [← hw3]; exact HD2.out.alloc _ HSw.out)
    have HX3 : Hid (Bk w3 w2.heap.size [.slice Am x.ms.length cm, .slice Av x.cl.length cv]) := Lib.hid (by rw [← hw3]; exact Bk.new w2 _ 30 rfl)
    have HK3 : Hid (Kept [g] w w3) := Lib.hid (by rw [← hw3]; exact HK2.out.alloc _)
    have HR3 : Hid (Rdr w3 B g bs j2) := Lib.hid (by rw [← hw3]; exact HR2.out.alloc _)
    have hb23 : Below w2.heap.size w2 w3 := by rw [← hw3]; exact (Below.refl _ _).alloc (Nat.le_refl _) _
    have HO13 := Lib.hid (HO1.out.below hb23 (Nat.le_refl _))
    have HO23 := Lib.hid (HO2.out.below hb23 (Nat.le_refl _))
    clear hb23
    go_upto_region 5 with fail
    clear hw3
    obtain ⟨x0, _⟩ := HX3.out 0 _ rfl
    obtain ⟨x1, _⟩ := HX3.out 1 _ rfl
    obtain ⟨g0, f0⟩ := HD3.out 0 _ rfl
    obtain ⟨g1, f1⟩ := HD3.out 1 _ rfl
    have HQ := Lib.hid ((HD3.out.set 0 (.slice Am x.ms.length cm)).set 1 (.slice Av x.cl.length cv))
    have q0 := (HQ.out 0 _ rfl).1
    have q1 := (HQ.out 1 _ rfl).1
    have HKF := Lib.hid ((HK3.out.setCell (p := ⟨w.heap.size, 0, none⟩) (.inr (Nat.le_refl _)) (.slice Am x.ms.length cm)).setCell (p := ⟨w.heap.size, 1, none⟩) (.inr (Nat.le_refl _)) (.slice Av x.cl.length cv))
    have HRF := Lib.hid ((HR3.out.far (p := ⟨w.heap.size, 0, none⟩) HBW.out (.slice Am x.ms.length cm)).far (p := ⟨w.heap.size, 1, none⟩) HBW.out (.slice Av x.cl.length cv))
    have HSa : Hid (w.heap.size < w1.heap.size) := Lib.hid (Nat.lt_trans HS0.out HS1.out)
    have HOF := Lib.hid (((HO13.out.setCell (p := ⟨w.heap.size, 0, none⟩) HSa.out (.slice Am x.ms.length cm)).setCell (p := ⟨w.heap.size, 1, none⟩) HSa.out (.slice Av x.cl.length cv)).base (Nat.le_of_lt HSa.out))
    have HOG := Lib.hid (((HO23.out.setCell (p := ⟨w.heap.size, 0, none⟩) HSa.out (.slice Am x.ms.length cm)).setCell (p := ⟨w.heap.size, 1, none⟩) HSa.out (.slice Av x.cl.length cv)).base (Nat.le_of_lt HSa.out))
    go_wp2_with fail
    refine bodyPost_ret (v := .tuple #[.agg #[.slice Am x.ms.length cm, .slice Av x.cl.length cv], .int .i64 0]) (by simp [results, Tryz.results189, go_sem, q0, q1]; try rfl) rfl ?_
    exact ⟨HKF.out, _, _, 0, rfl, by rw [HV.out]; exact ⟨rfl, HRF.out, HOF.out, HOG.out⟩⟩
end Go.Proofs.YtpdedfpacklnoaaGreatDoor
