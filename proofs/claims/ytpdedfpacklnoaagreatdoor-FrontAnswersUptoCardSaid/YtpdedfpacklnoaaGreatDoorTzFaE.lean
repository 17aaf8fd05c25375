/- Law 8: FrontAnswers; premises: the contracts of both Makes, trolleyplain.Cart. The contracts that law 8 wants. -/
import Derived.Test.YtpdedfpacklnoaaGreatDoorTzFaC
import Derived.Test.YtpdedfpacklnoaaGreatDoorTzGdA
import Derived.Test.YtpdedfpacklnoaaGreatDoorTzToA
import Derived.Test.YtpdedfpacklnoaaGreatDoorTzMkC
import Derived.Test.YtpdedfpacklnoaaGreatDoorTzEnD
set_option maxRecDepth 100000
namespace Go.Proofs.YtpdedfpacklnoaaGreatDoor
open Go.RowKit Go.BL Go.Ct Go.Sl

def MakeDC : Prop := ∀ (c : Ct) (ev mv cv : Value) (w : World), Ents w ev c.es → Dots w mv c.x.ms → Dots w cv c.x.cl → (∀ A n c, ev = .slice A n c → n ≤ c) → (∀ e ∈ c.es, e.it.length ≤ 1073741824 ∧ e.p < 18446744073709551616) → Calls Tryz.prog 71 #[.agg #[ev, mv, cv]] w (MkA c w)
set_option maxHeartbeats 16000000 in
theorem answers_law (hmk : MakeC) (hmd : MakeDC) (hpl : PlainC) (haw : AwkC) (kind id st : Int) (c : Ct) (ev mv cv : Value) (w : World) (he : Ents w ev c.es) (hm : Dots w mv c.x.ms) (hc : Dots w cv c.x.cl) (hcp : ∀ A n c, ev = .slice A n c → n ≤ c)
  (hok : ∀ y ∈ c.es, y.it.length ≤ 1048576 ∧ y.p < 18446744073709551616) (hln : c.es.length ≤ 1000000 ∧ c.x.ms.length ≤ 1000000 ∧ c.x.cl.length ≤ 1000000) (hg : Gnd w) :
  Calls Tryz.prog 8 #[.int .i64 kind, .agg #[.int .i64 id, .int .i64 st, ev, mv, cv]] w (RetV (.bool true) w) := by
 obtain ⟨E1, a1, rfl⟩ := he.form
 obtain ⟨M1, b1, rfl⟩ := hm.form
 obtain ⟨D1, d1, rfl⟩ := hc.form
 obtain ⟨w0, hw0⟩ : ∃ y, w.alloc (.cells #[.int .i64 id, .int .i64 st, .slice E1 c.es.length a1, .slice M1 c.x.ms.length b1, .slice D1 c.x.cl.length d1] 64) = y := ⟨_, rfl⟩
 obtain ⟨w1, hw1⟩ : ∃ y, w0.alloc (.cells #[.int .i64 id, .int .i64 st, .slice E1 c.es.length a1, .slice M1 c.x.ms.length b1, .slice D1 c.x.cl.length d1] 64) = y := ⟨_, rfl⟩
 have HZ : Hid (w0.heap.size = w.heap.size + 1) := Lib.hid (by rw [← hw0]; simp)
 have HB0 : Hid (Below w.heap.size w w0) := Lib.hid (by rw [← hw0]; exact (Below.refl _ _).alloc (Nat.le_refl _) _)
 have HB1 : Hid (Below w.heap.size w w1) := Lib.hid (by rw [← hw1]; exact HB0.out.alloc HB0.out.size _)
 have HS1 : Hid (w1.heap.size = w.heap.size + 2) := Lib.hid (by rw [← hw1, ← hw0]; simp)
 have HP0 : Hid (Bk w0 w.heap.size [.int .i64 id, .int .i64 st, .slice E1 c.es.length a1, .slice M1 c.x.ms.length b1, .slice D1 c.x.cl.length d1]) := Lib.hid (by rw [← hw0]; exact Bk.new w [.int .i64 id, .int .i64 st, .slice E1 c.es.length a1, .slice M1 c.x.ms.length b1, .slice D1 c.x.cl.length d1] 64 rfl)
 have HP1 : Hid (Bk w1 w.heap.size [.int .i64 id, .int .i64 st, .slice E1 c.es.length a1, .slice M1 c.x.ms.length b1, .slice D1 c.x.cl.length d1]) := Lib.hid (by rw [← hw1]; exact HP0.out.alloc _ (by have := HZ.out; omega))
 have HQ1 : Hid (Bk w1 (w.heap.size + 1) [.int .i64 id, .int .i64 st, .slice E1 c.es.length a1, .slice M1 c.x.ms.length b1, .slice D1 c.x.cl.length d1]) := Lib.hid (by rw [← hw1]; exact Bk.new w0 [.int .i64 id, .int .i64 st, .slice E1 c.es.length a1, .slice M1 c.x.ms.length b1, .slice D1 c.x.cl.length d1] 64 (by have := HZ.out; omega))
 have HG := Lib.hid hg
 have HOK := Lib.hid hok
 have HLN := Lib.hid hln
 have HE := Lib.hid he
 have HM := Lib.hid hm
 have HC := Lib.hid hc
 have HCP := Lib.hid hcp
 have HMK := Lib.hid hmk
 have HMD := Lib.hid hmd
 have HAW := Lib.hid (fun w => awake_any haw w)
 have hpl0 := hpl c _ _ _ w1 (he.below HB1.out (Nat.le_refl _)) (hm.below HB1.out (Nat.le_refl _)) (hc.below HB1.out (Nat.le_refl _)) hln.1 hln.2.1 hln.2.2
 unfold PlainR at hpl0
 have hga := good_answerA kind st c (fun e he => (hok e he).2)
 have hgr := good_refA st
 obtain ⟨⟨s1, hs1, b1'⟩, ha1⟩ : ∃ y, answerL kind st c = y := ⟨_, rfl⟩
 have hrf := fun w => refuseA_any st w
 have hrd := fun w => refuseR_any st w
 obtain ⟨⟨s2, hs2, b2⟩, ha2⟩ : ∃ y, refA st = y := ⟨_, rfl⟩
 have hrv : refV st = .agg #[.int .i64 s2, .slice none 0 0, .string ⟨b2.toArray⟩] ∧ hs2 = [] := by
  unfold refA at ha2
  injection ha2 with e1 e2 e3
  exact ⟨by unfold refV; rw [← e1, ← e3], e2.symm⟩
 rw [hrv.1] at hrf hrd
 obtain ⟨-, rfl⟩ := hrv
 unfold RetV at hrf hrd
 have HAN := Lib.hid ha1
 have HGA := Lib.hid (ha1 ▸ hga)
 have hlh : hs1.length < 32 := (HGA.out).1.2.2.1
 have HLH := Lib.hid hlh
 obtain ⟨x0, -⟩ := HP0.out 0 _ rfl
 obtain ⟨x1, -⟩ := HP0.out 1 _ rfl
 obtain ⟨x2, -⟩ := HP0.out 2 _ rfl
 obtain ⟨x3, -⟩ := HP0.out 3 _ rfl
 obtain ⟨x4, -⟩ := HP0.out 4 _ rfl
 have HW0 := Lib.hid hw0
 have HW1 := Lib.hid hw1
 clear he hm hc hcp hok hln hg hmk hmd haw hpl hga hgr ha1 ha2 hlh hw0 hw1
 go_enter Tryz.func8, Tryz.ntmps8
 go_upto_region 1 with fail
 rw [HW0.out]
 go_upto_region 2 with fail
 try rw [HZ.out]
 rw [HW1.out]
 clear HW0 HW1 x0 x1 x2 x3 x4
 obtain ⟨x2, -⟩ := HP1.out 2 _ rfl
 obtain ⟨x3, -⟩ := HP1.out 3 _ rfl
 obtain ⟨x4, -⟩ := HP1.out 4 _ rfl
 go_upto_region 3 with (go_at_call 28; refine hpl0.mono ?_; clear hpl0; rintro e w2 ⟨e1, m1, k1, rfl, ho1, ho2, ho3, hb⟩; obtain ⟨A2, c2, rfl⟩ := ho1.form; obtain ⟨A3, c3, rfl⟩ := ho2.form; obtain ⟨A4, c4, rfl⟩ := ho3.form; have HO1 := Lib.hid ho1; have HO2 := Lib.hid ho2; have HO3 := Lib.hid ho3; have HB2 := Lib.hid hb; have HQ2 := Lib.hid (HQ1.out.below hb (by have := HS1.out; omega)); obtain ⟨y2, yf2⟩ := HQ2.out 2 _ rfl; obtain ⟨y3, yf3⟩ := HQ2.out 3 _ rfl; obtain ⟨y4, yf4⟩ := HQ2.out 4 _ rfl; clear ho1 ho2 ho3 hb)
 obtain ⟨w3, hw3⟩ : ∃ y, ((w2.setCell ⟨w.heap.size + 1, 2, none⟩ (.slice A2 c.es.length c2)).setCell ⟨w.heap.size + 1, 3, none⟩ (.slice A3 c.x.ms.length c3)).setCell ⟨w.heap.size + 1, 4, none⟩ (.slice A4 c.x.cl.length c4) = y := ⟨_, rfl⟩
 have HB3 : Hid (Below w.heap.size w w3) := Lib.hid (by rw [← hw3]; exact (((HB1.out.trans (HB2.out.mono HB1.out.size)).setCell (p := ⟨w.heap.size + 1, 2, none⟩) (by simp) _).setCell (p := ⟨w.heap.size + 1, 3, none⟩) (by simp) _).setCell (p := ⟨w.heap.size + 1, 4, none⟩) (by simp) _)
 have HP3 : Hid (Bk w3 w.heap.size [.int .i64 id, .int .i64 st, .slice E1 c.es.length a1, .slice M1 c.x.ms.length b1, .slice D1 c.x.cl.length d1]) := Lib.hid (by rw [← hw3]; exact (((HP1.out.below HB2.out (by have := HS1.out; omega)).other (p := ⟨w.heap.size + 1, 2, none⟩) (by simp) _).other (p := ⟨w.heap.size + 1, 3, none⟩) (by simp) _).other (p := ⟨w.heap.size + 1, 4, none⟩) (by simp) _)
 have HQ3 : Hid (Bk w3 (w.heap.size + 1) [.int .i64 id, .int .i64 st, .slice A2 c.es.length c2, .slice A3 c.x.ms.length c3, .slice A4 c.x.cl.length c4]) := Lib.hid (by rw [← hw3]; exact ((HQ2.out.set 2 _).set 3 _).set 4 _)
 have hlt1 : w.heap.size + 1 < w1.heap.size := by have := HS1.out; omega
 have HE3 : Hid (OwnS 92 6 entC w3 w1.heap.size (.slice A2 c.es.length c2) c.es) := Lib.hid (by rw [← hw3]; exact ((HO1.out.setCell (p := ⟨w.heap.size + 1, 2, none⟩) hlt1 _).setCell (p := ⟨w.heap.size + 1, 3, none⟩) hlt1 _).setCell (p := ⟨w.heap.size + 1, 4, none⟩) hlt1 _)
 have HM3 : Hid (OwnS 150 3 dotC w3 w1.heap.size (.slice A3 c.x.ms.length c3) c.x.ms) := Lib.hid (by rw [← hw3]; exact ((HO2.out.setCell (p := ⟨w.heap.size + 1, 2, none⟩) hlt1 _).setCell (p := ⟨w.heap.size + 1, 3, none⟩) hlt1 _).setCell (p := ⟨w.heap.size + 1, 4, none⟩) hlt1 _)
 have HC3 : Hid (OwnS 90 3 dotC w3 w1.heap.size (.slice A4 c.x.cl.length c4) c.x.cl) := Lib.hid (by rw [← hw3]; exact ((HO3.out.setCell (p := ⟨w.heap.size + 1, 2, none⟩) hlt1 _).setCell (p := ⟨w.heap.size + 1, 3, none⟩) hlt1 _).setCell (p := ⟨w.heap.size + 1, 4, none⟩) hlt1 _)
 have HS3 : Hid (w.heap.size + 2 ≤ w3.heap.size) := Lib.hid (by rw [← hw3, World.size_setCell, World.size_setCell, World.size_setCell]; have := HB2.out.size; have := HS1.out; omega)
 have HN1 : Hid (Ents w3 (.slice A2 c.es.length c2) c.es) := Lib.hid (HE3.out.sl entC_len (by have := HLN.out.1; omega))
 have HN2 : Hid (Dots w3 (.slice A3 c.x.ms.length c3) c.x.ms) := Lib.hid (HM3.out.sl dotC_len (by have := HLN.out.2.1; omega))
 have HN3 : Hid (Dots w3 (.slice A4 c.x.cl.length c4) c.x.cl) := Lib.hid (HC3.out.sl dotC_len (by have := HLN.out.2.2; omega))
 have HCP2 := Lib.hid (own_cap HE3.out)
 have han := answer_of kind st id c (.slice A2 c.es.length c2) (.slice A3 c.x.ms.length c3) (.slice A4 c.x.cl.length c4) w3 HN1.out HN2.out HN3.out HCP2.out (HG.out.below HB3.out).tab
  (fun w4 hb => HMK.out c _ _ _ w4 (HN1.out.below hb (Nat.le_refl _)) (HN2.out.below hb (Nat.le_refl _)) (HN3.out.below hb (Nat.le_refl _)) HCP2.out (fun e he => ⟨by have := (HOK.out e he).1; omega, (HOK.out e he).2⟩))
 rw [HAN.out] at han
 unfold AnsO H.ansV at han
 dsimp only at han
 try rw [hw3]
 clear hw3 y2 yf2 y3 yf3 y4 yf4 x2 x3 x4 hlt1
 obtain ⟨q0, -⟩ := HQ3.out 0 _ rfl
 obtain ⟨q1, -⟩ := HQ3.out 1 _ rfl
 obtain ⟨q2, -⟩ := HQ3.out 2 _ rfl
 obtain ⟨q3, -⟩ := HQ3.out 3 _ rfl
 obtain ⟨q4, -⟩ := HQ3.out 4 _ rfl
 go_upto_region 4 with (go_at_call 29; refine han.mono ?_; clear han; rintro e w4 ⟨hb, h, rfl, hh⟩; obtain ⟨A5, c5, rfl⟩ := H.Hdrs.form hh; have HH4 := Lib.hid hh; have HB4 := Lib.hid hb; clear hb hh)
 obtain ⟨g, hgg⟩ : ∃ y, w4.heap.size = y := ⟨_, rfl⟩
 obtain ⟨w5, hw5⟩ : ∃ y, w4.alloc (.cells #[.int .i64 s1, .slice A5 hs1.length c5, .string ⟨b1'.toArray⟩] 67) = y := ⟨_, rfl⟩
 have hb5 : Below w4.heap.size w4 w5 := by rw [← hw5]; exact (Below.refl _ _).alloc (Nat.le_refl _) _
 have HB35 : Hid (Below w3.heap.size w3 w5) := Lib.hid (HB4.out.trans (hb5.mono HB4.out.size))
 have HB5 : Hid (Below w.heap.size w w5) := Lib.hid (HB3.out.trans (HB35.out.mono HB3.out.size))
 have HP5 : Hid (Bk w5 w.heap.size [.int .i64 id, .int .i64 st, .slice E1 c.es.length a1, .slice M1 c.x.ms.length b1, .slice D1 c.x.cl.length d1]) := Lib.hid (HP3.out.below HB35.out (by have := HS3.out; omega))
 have HQ5 : Hid (Bk w5 (w.heap.size + 1) [.int .i64 id, .int .i64 st, .slice A2 c.es.length c2, .slice A3 c.x.ms.length c3, .slice A4 c.x.cl.length c4]) := Lib.hid (HQ3.out.below HB35.out (by have := HS3.out; omega))
 have HR5 : Hid (Bk w5 g [.int .i64 s1, .slice A5 hs1.length c5, .string ⟨b1'.toArray⟩]) := Lib.hid (by rw [← hw5]; exact Bk.new w4 [.int .i64 s1, .slice A5 hs1.length c5, .string ⟨b1'.toArray⟩] 67 hgg.symm)
 have HSG : Hid (g < w5.heap.size) := Lib.hid (by rw [← hw5, ← hgg]; simp)
 have HSW : Hid (w.heap.size + 2 ≤ w5.heap.size) := Lib.hid (Nat.le_trans HS3.out HB35.out.size)
 have HH5 : Hid (H.Hdrs w5 (.slice A5 hs1.length c5) hs1) := Lib.hid (H.Hdrs.below HH4.out hb5 (Nat.le_refl _))
 have HM1 : Hid (Ents w5 (.slice A2 c.es.length c2) c.es) := Lib.hid (HN1.out.below HB35.out (Nat.le_refl _))
 have HM2' : Hid (Dots w5 (.slice A3 c.x.ms.length c3) c.x.ms) := Lib.hid (HN2.out.below HB35.out (Nat.le_refl _))
 have HM3' : Hid (Dots w5 (.slice A4 c.x.cl.length c4) c.x.cl) := Lib.hid (HN3.out.below HB35.out (Nat.le_refl _))
 have HE5 : Hid (Ents w5 (.slice E1 c.es.length a1) c.es) := Lib.hid (HE.out.below HB5.out (Nat.le_refl _))
 have HF5 : Hid (Dots w5 (.slice M1 c.x.ms.length b1) c.x.ms) := Lib.hid (HM.out.below HB5.out (Nat.le_refl _))
 have HD5 : Hid (Dots w5 (.slice D1 c.x.cl.length d1) c.x.cl) := Lib.hid (HC.out.below HB5.out (Nat.le_refl _))
 have hans := answerD_of kind st id c (.slice E1 c.es.length a1) (.slice M1 c.x.ms.length b1) (.slice D1 c.x.cl.length d1) w5.drew HE5.out HF5.out HD5.out HCP.out (HG.out.below HB5.out.drew).tab
  (fun w6 hb => HMD.out c _ _ _ w6 (HE5.out.below ((Below.refl w5.heap.size w5).drew.trans hb) (Nat.le_refl _)) (HF5.out.below ((Below.refl w5.heap.size w5).drew.trans hb) (Nat.le_refl _)) (HD5.out.below ((Below.refl w5.heap.size w5).drew.trans hb) (Nat.le_refl _)) HCP.out (fun e he => ⟨by have := (HOK.out e he).1; omega, (HOK.out e he).2⟩))
 rw [HAN.out] at hans
 unfold AnsO H.ansV at hans
 dsimp only at hans
 have HGG := Lib.hid hgg
 have HW5 := Lib.hid hw5
 clear hgg hw5 hb5 q0 q1 q2 q3 q4
 try rw [HGG.out]
 try rw [HW5.out]
 clear HGG HW5
 refine hstart (S := fun u => Bk u w.heap.size [.int .i64 id, .int .i64 st, .slice E1 c.es.length a1, .slice M1 c.x.ms.length b1, .slice D1 c.x.cl.length d1] ∧ Bk u (w.heap.size + 1) [.int .i64 id, .int .i64 st, .slice A2 c.es.length c2, .slice A3 c.x.ms.length c3, .slice A4 c.x.cl.length c4] ∧ Bk u g [.int .i64 s1, .slice A5 hs1.length c5, .string ⟨b1'.toArray⟩]) (by kernel_rfl) (by repeat (first | exact PG.body | refine PG.then_ ?_ | refine PG.inBlock ?_)) ?_ (fun hPF hHeld => ?_)
 ·exact ⟨HP5.out, HQ5.out, HR5.out⟩
 refine htake (i := 0) (v := .agg #[.int .i64 s1, .slice A5 hs1.length c5, .string ⟨b1'.toArray⟩]) rfl (by kernel_rfl) (by kernel_rfl) (by kernel_rfl) hPF (Or.inl ⟨by kernel_rfl, ?_⟩) hHeld ?_
 ·intro u hS; obtain ⟨P, Q, R⟩ := hS; have fR0 := (R 0 _ rfl).1; have fR1 := (R 1 _ rfl).1; have fR2 := (R 2 _ rfl).1; go_simp
 refine htake (i := 1) (v := .int .i64 kind) rfl (by kernel_rfl) (by kernel_rfl) (by kernel_rfl) hPF (Or.inl ⟨by kernel_rfl, ?_⟩) hHeld ?_
 ·intro u hS; obtain ⟨P, Q, R⟩ := hS; go_simp
 refine htake (i := 2) (v := .agg #[.int .i64 id, .int .i64 st, .slice E1 c.es.length a1, .slice M1 c.x.ms.length b1, .slice D1 c.x.cl.length d1]) rfl (by kernel_rfl) (by kernel_rfl) (by kernel_rfl) hPF (Or.inl ⟨by kernel_rfl, ?_⟩) hHeld ?_
 ·intro u hS; obtain ⟨P, Q, R⟩ := hS; have fP0 := (P 0 _ rfl).1; have fP1 := (P 1 _ rfl).1; have fP2 := (P 2 _ rfl).1; have fP3 := (P 3 _ rfl).1; have fP4 := (P 4 _ rfl).1; go_simp
 refine wpAnyH_ready (rs := [3]) (by kernel_rfl) (by simp) ?_
 refine AllReadyH.cons (i := 3) rfl (fun K hK => ?_) AllReadyH.nil
 go_simp
 go_at_call 31
 refine hans.mono ?_
 clear hans
 rintro e w6 ⟨hb, h, rfl, hh⟩
 obtain ⟨A6, c6, rfl⟩ := H.Hdrs.form hh
 have HX6 : Hid (Below w5.heap.size w5 w6) := Lib.hid ((Below.refl w5.heap.size w5).drew.trans hb)
 have HH6 := Lib.hid hh
 have hsm := H.sameA_any ⟨s1, hs1, b1'⟩ ⟨s1, hs1, b1'⟩ (.slice A5 hs1.length c5) (.slice A6 hs1.length c6) w6 (H.Hdrs.below HH5.out HX6.out (Nat.le_refl _)) HH6.out
 rw [same_selfA] at hsm
 unfold RetV H.ansV at hsm
 dsimp only at hsm
 clear hb hh
 refine hK.out _ _ ?_ (fun hHeld => ?_)
 ·exact ⟨HP5.out.below HX6.out (by have := HSW.out; omega), HQ5.out.below HX6.out (by have := HSW.out; omega), HR5.out.below HX6.out HSG.out⟩
 clear hK K
 refine wpAnyH_ready (rs := [4]) (by kernel_rfl) (by simp) ?_
 refine AllReadyH.cons (i := 4) rfl (fun K hK => ?_) AllReadyH.nil
 go_simp
 go_at_call 30
 refine hsm.mono ?_
 clear hsm
 rintro e w7 ⟨rfl, hb⟩
 have HX7 : Hid (Below w5.heap.size w5 w7) := Lib.hid (HX6.out.trans (hb.mono HX6.out.size))
 clear hb
 refine hK.out _ _ ?_ (fun hHeld => ?_)
 ·exact ⟨HP5.out.below HX7.out (by have := HSW.out; omega), HQ5.out.below HX7.out (by have := HSW.out; omega), HR5.out.below HX7.out HSG.out⟩
 clear hK K
 refine htake (i := 5) (v := .bool true) rfl (by kernel_rfl) (by kernel_rfl) (by kernel_rfl) hPF (Or.inl ⟨by kernel_rfl, ?_⟩) hHeld ?_
 ·intro u hS; obtain ⟨P, Q, R⟩ := hS; go_simp
 refine htake (i := 6) (v := .pointer (some ⟨w.heap.size, 1, none⟩)) rfl (by kernel_rfl) (by kernel_rfl) (by kernel_rfl) hPF (Or.inl ⟨by kernel_rfl, ?_⟩) hHeld ?_
 ·intro u hS; obtain ⟨P, Q, R⟩ := hS; go_simp
 refine htake (i := 7) (v := .int .i64 st) rfl (by kernel_rfl) (by kernel_rfl) (by kernel_rfl) hPF (Or.inl ⟨by kernel_rfl, ?_⟩) hHeld ?_
 ·intro u hS; obtain ⟨P, Q, R⟩ := hS; have fP1 := (P 1 _ rfl).1; go_simp
 refine htake (i := 9) (v := .pointer (some ⟨w.heap.size, 1, none⟩)) rfl (by kernel_rfl) (by kernel_rfl) (by kernel_rfl) hPF (Or.inl ⟨by kernel_rfl, ?_⟩) hHeld ?_
 ·intro u hS; obtain ⟨P, Q, R⟩ := hS; go_simp
 refine htake (i := 10) (v := .int .i64 st) rfl (by kernel_rfl) (by kernel_rfl) (by kernel_rfl) hPF (Or.inl ⟨by kernel_rfl, ?_⟩) hHeld ?_
 ·intro u hS; obtain ⟨P, Q, R⟩ := hS; have fP1 := (P 1 _ rfl).1; go_simp
 refine wpAnyH_ready (rs := [8]) (by kernel_rfl) (by simp) ?_
 refine AllReadyH.cons (i := 8) rfl (fun K hK => ?_) AllReadyH.nil
 go_simp
 go_at_call 32
 refine (hrf _).mono ?_
 clear hrf
 rintro e w8 ⟨rfl, hb⟩
 have HX8 : Hid (Below w5.heap.size w5 w8) := Lib.hid (HX7.out.trans (hb.mono HX7.out.size))
 clear hb
 refine hK.out _ _ ?_ (fun hHeld => ?_)
 ·exact ⟨HP5.out.below HX8.out (by have := HSW.out; omega), HQ5.out.below HX8.out (by have := HSW.out; omega), HR5.out.below HX8.out HSG.out⟩
 clear hK K
 refine wpAnyH_ready (rs := [11]) (by kernel_rfl) (by simp) ?_
 refine AllReadyH.cons (i := 11) rfl (fun K hK => ?_) AllReadyH.nil
 go_simp
 go_at_call 33
 refine (hrd _).mono ?_
 clear hrd
 rintro e w9 ⟨rfl, hb⟩
 have HX9 : Hid (Below w5.heap.size w5 w9) := Lib.hid (HX8.out.trans (hb.mono HX8.out.size))
 clear hb
 have hsm := H.sameA_any ⟨s2, [], b2⟩ ⟨s2, [], b2⟩ (.slice none 0 0) (.slice none 0 0) w9 (hdrs_nil _) (hdrs_nil _)
 rw [same_selfA] at hsm
 unfold RetV H.ansV at hsm
 dsimp only at hsm
 refine hK.out _ _ ?_ (fun hHeld => ?_)
 ·exact ⟨HP5.out.below HX9.out (by have := HSW.out; omega), HQ5.out.below HX9.out (by have := HSW.out; omega), HR5.out.below HX9.out HSG.out⟩
 clear hK K
 refine wpAnyH_ready (rs := [12]) (by kernel_rfl) (by simp) ?_
 refine AllReadyH.cons (i := 12) rfl (fun K hK => ?_) AllReadyH.nil
 go_simp
 go_at_call 30
 refine hsm.mono ?_
 clear hsm
 rintro e wa ⟨rfl, hb⟩
 have HXa : Hid (Below w5.heap.size w5 wa) := Lib.hid (HX9.out.trans (hb.mono HX9.out.size))
 clear hb
 refine hK.out _ _ ?_ (fun hHeld => ?_)
 ·exact ⟨HP5.out.below HXa.out (by have := HSW.out; omega), HQ5.out.below HXa.out (by have := HSW.out; omega), HR5.out.below HXa.out HSG.out⟩
 clear hK K
 refine htake (i := 13) (v := .bool true) rfl (by kernel_rfl) (by kernel_rfl) (by kernel_rfl) hPF (Or.inl ⟨by kernel_rfl, ?_⟩) hHeld ?_
 ·intro u hS; obtain ⟨P, Q, R⟩ := hS; go_simp
 refine htake (i := 14) (v := .bool true) rfl (by kernel_rfl) (by kernel_rfl) (by kernel_rfl) hPF (Or.inl ⟨by kernel_rfl, ?_⟩) hHeld ?_
 ·intro u hS; obtain ⟨P, Q, R⟩ := hS; go_simp
 refine htake (i := 15) (v := .pointer (some ⟨w.heap.size + 1, 2, none⟩)) rfl (by kernel_rfl) (by kernel_rfl) (by kernel_rfl) hPF (Or.inl ⟨by kernel_rfl, ?_⟩) hHeld ?_
 ·intro u hS; obtain ⟨P, Q, R⟩ := hS; go_simp
 refine htake (i := 16) (v := .agg #[.slice A2 c.es.length c2, .slice A3 c.x.ms.length c3, .slice A4 c.x.cl.length c4]) rfl (by kernel_rfl) (by kernel_rfl) (by kernel_rfl) hPF (Or.inl ⟨by kernel_rfl, ?_⟩) hHeld ?_
 ·intro u hS; obtain ⟨P, Q, R⟩ := hS; have fQ2 := (Q 2 _ rfl).1; have fQ3 := (Q 3 _ rfl).1; have fQ4 := (Q 4 _ rfl).1; go_simp
 refine htake (i := 17) (v := .pointer (some ⟨w.heap.size, 2, none⟩)) rfl (by kernel_rfl) (by kernel_rfl) (by kernel_rfl) hPF (Or.inl ⟨by kernel_rfl, ?_⟩) hHeld ?_
 ·intro u hS; obtain ⟨P, Q, R⟩ := hS; go_simp
 refine htake (i := 18) (v := .agg #[.slice E1 c.es.length a1, .slice M1 c.x.ms.length b1, .slice D1 c.x.cl.length d1]) rfl (by kernel_rfl) (by kernel_rfl) (by kernel_rfl) hPF (Or.inl ⟨by kernel_rfl, ?_⟩) hHeld ?_
 ·intro u hS; obtain ⟨P, Q, R⟩ := hS; have fP2 := (P 2 _ rfl).1; have fP3 := (P 3 _ rfl).1; have fP4 := (P 4 _ rfl).1; go_simp
 refine wpAnyH_ready (rs := [19]) (by kernel_rfl) (by simp) ?_
 refine AllReadyH.cons (i := 19) rfl (fun K hK => ?_) AllReadyH.nil
 go_simp
 go_at_call 34
 refine (sameK_any c A2 A3 A4 c2 c3 c4 E1 M1 D1 a1 b1 d1 wa (HM1.out.below HXa.out (Nat.le_refl _)) (HM2'.out.below HXa.out (Nat.le_refl _)) (HM3'.out.below HXa.out (Nat.le_refl _)) (HE5.out.below HXa.out (Nat.le_refl _)) (HF5.out.below HXa.out (Nat.le_refl _)) (HD5.out.below HXa.out (Nat.le_refl _))).mono ?_
 rintro e wb ⟨rfl, hb⟩
 have HXb : Hid (Below w5.heap.size w5 wb) := Lib.hid (HXa.out.trans (hb.mono HXa.out.size))
 clear hb
 refine hK.out _ _ ?_ (fun hHeld => ?_)
 ·exact ⟨HP5.out.below HXb.out (by have := HSW.out; omega), HQ5.out.below HXb.out (by have := HSW.out; omega), HR5.out.below HXb.out HSG.out⟩
 clear hK K
 refine htake (i := 20) (v := .bool true) rfl (by kernel_rfl) (by kernel_rfl) (by kernel_rfl) hPF (Or.inl ⟨by kernel_rfl, ?_⟩) hHeld ?_
 ·intro u hS; obtain ⟨P, Q, R⟩ := hS; go_simp
 refine htake (i := 21) (v := .bool true) rfl (by kernel_rfl) (by kernel_rfl) (by kernel_rfl) hPF (Or.inl ⟨by kernel_rfl, ?_⟩) hHeld ?_
 ·intro u hS; obtain ⟨P, Q, R⟩ := hS; go_simp
 refine wpAnyH_ready (rs := [22]) (by kernel_rfl) (by simp) ?_
 refine AllReadyH.cons (i := 22) rfl (fun K hK => ?_) AllReadyH.nil
 go_simp
 go_at_call 13
 refine (HAW.out _ (HG.out.below (HB5.out.trans (HXb.out.mono HB5.out.size)))).mono ?_
 rintro e wc ⟨rfl, hb⟩
 have HXc : Hid (Below w5.heap.size w5 wc) := Lib.hid (HXb.out.trans (hb.mono HXb.out.size))
 clear hb
 refine hK.out _ _ ?_ (fun hHeld => ?_)
 ·exact ⟨HP5.out.below HXc.out (by have := HSW.out; omega), HQ5.out.below HXc.out (by have := HSW.out; omega), HR5.out.below HXc.out HSG.out⟩
 clear hK K
 refine htake (i := 23) (v := .bool true) rfl (by kernel_rfl) (by kernel_rfl) (by kernel_rfl) hPF (Or.inl ⟨by kernel_rfl, ?_⟩) hHeld ?_
 ·intro u hS; obtain ⟨P, Q, R⟩ := hS; go_simp
 refine wpAnyH_ready (rs := [24]) (by kernel_rfl) (by simp) ?_
 refine AllReadyH.cons (i := 24) rfl (fun K hK => ?_) AllReadyH.nil
 go_simp
 refine hK.out _ _ ?_ (fun hHeld => ?_)
 ·exact ⟨HP5.out.below HXc.out (by have := HSW.out; omega), HQ5.out.below HXc.out (by have := HSW.out; omega), HR5.out.below HXc.out HSG.out⟩
 clear hK K
 refine wpAnyH_done (by kernel_rfl) ?_ _
 go_wp2_with fail
 go_ret
 exact ⟨rfl, HB5.out.trans (HXc.out.mono HB5.out.size)⟩
end Go.Proofs.YtpdedfpacklnoaaGreatDoor
namespace Go.Proofs.YtpdedfpacklnoaaGreatDoor
open Go.RowKit Go.BL Go.Ct Go.Sl

theorem makeDC : MakeDC := fun c ev mv cv w he hm hc hcp hsl => makeD_any c.es c.x ev mv cv w he hm hc hcp hsl
theorem plainC8 : PlainC := fun c ev mv cv w he hm hc h0 h1 h2 => plainC_any c ev mv cv w he hm hc h0 h1 h2
end Go.Proofs.YtpdedfpacklnoaaGreatDoor
