/- Contract of front.Answer: answerL; premise: token.Make's contract. -/
import Derived.Test.YtpdedfpacklnoaaGreatDoorTzRdP
import Derived.Test.YtpdedfpacklnoaaGreatDoorTzRdD
import Derived.Test.YtpdedfpacklnoaaGreatDoorTzMR
set_option maxRecDepth 100000
namespace Go.Proofs.YtpdedfpacklnoaaGreatDoor
open Go.RowKit Go.BL Go.Ct Go.Sl

/-- What token.Make answers. -/
def MkA (c : Ct) (w : World) (e : Ending) (w' : World) : Prop := Below w.heap.size w w' ∧ e = .returned (.tuple #[.string ⟨(if canC c = 0 then tokT c else []).toArray⟩, .int .i64 ((canC c : Nat) : Int)])
/-- An answer. -/
def AnsO (a : H.Ans) (w : World) (e : Ending) (w' : World) : Prop := Below w.heap.size w w' ∧ ∃ h, e = .returned (H.ansV a h) ∧ H.Hdrs w' h a.hs
theorem hdrs_nil (w : World) : H.Hdrs w (.slice none 0 0) [] := ⟨by simp, none, 0, rfl, fun h => absurd h (by simp)⟩
theorem hdrs_one {w : World} {g : Nat} {n t : List UInt8} (h : Bk w g [.string ⟨n.toArray⟩, .string ⟨t.toArray⟩]) : H.Hdrs w (.slice (some ⟨g, 0, none⟩) 1 1) [(n, t)] := by
 refine ⟨by simp, some ⟨g, 0, none⟩, 1, rfl, fun _ => ⟨g, 0, rfl, h.lt, fun i hi => ?_⟩⟩
 obtain rfl : i = 0 := by simp at hi; omega
 exact ⟨(h 0 _ rfl).1, (h 1 _ rfl).1⟩
theorem five_at (w : World) (a b c d e : Value) (t : TypeId) (o : Obj) : Bk ((w.alloc (.cells #[a, b, c, d, e] t)).alloc o) w.heap.size [a, b, c, d, e] := (Bk.new w [a, b, c, d, e] t rfl).alloc _ (by simp)
set_option maxHeartbeats 16000000 in
theorem answer_of (kind st id : Int) (c : Ct) (ev mv cv : Value) (w : World) (he : Ents w ev c.es) (hm : Dots w mv c.x.ms) (hc : Dots w cv c.x.cl) (hcp : ∀ A n c, ev = .slice A n c → n ≤ c) (ht : Tab w)
  (hmk : ∀ w1, Below w.heap.size w w1 → Calls Tryz.prog 69 #[.agg #[ev, mv, cv]] w1 (MkA c w1)) :
  Calls Tryz.prog 29 #[.int .i64 kind, .agg #[.int .i64 id, .int .i64 st, ev, mv, cv]] w (AnsO (answerL kind st c) w) := by
 obtain ⟨w0, hw0⟩ : ∃ y, (w.alloc (.cells #[.int .i64 id, .int .i64 st, ev, mv, cv] 64)).alloc (.cells #[.int .i64 0, .slice none 0 0, .string ⟨#[]⟩] 67) = y := ⟨_, rfl⟩
 have HB0 : Hid (Below w.heap.size w w0) := Lib.hid (by rw [← hw0]; exact ((Below.refl _ _).alloc (Nat.le_refl _) _).alloc (by simp) _)
 have HS0 : Hid (w0.heap.size = w.heap.size + 2) := Lib.hid (by rw [← hw0]; simp)
 have HA : Hid (Bk w0 w.heap.size [.int .i64 id, .int .i64 st, ev, mv, cv]) := Lib.hid (by rw [← hw0]; exact five_at w _ _ _ _ _ 64 _)
 have HR : Hid (Bk w0 (w.heap.size + 1) [.int .i64 0, .slice none 0 0, .string ⟨#[]⟩]) := Lib.hid (by rw [← hw0]; exact Bk.new _ _ 67 (by simp))
 have a1 := (HA.out 1 _ rfl).1
 have HE := Lib.hid (he.below HB0.out (Nat.le_refl _))
 have HM := Lib.hid (hm.below HB0.out (Nat.le_refl _))
 have HC := Lib.hid (hc.below HB0.out (Nat.le_refl _))
 have HT := Lib.hid ht
 have HMK := Lib.hid hmk
 have HCP := Lib.hid hcp
 unfold AnsO
 by_cases h0 : st = 200
 case neg =>
  have g0 : (st != 200) = true := bne_iff_ne.2 h0
  have HV : Hid (answerL kind st c = refA st) := Lib.hid (by unfold answerL; rw [if_pos h0])
  have hr := fun w => refuseA_any st w
  unfold RetV refV at hr
  obtain ⟨RS, hRS⟩ : ∃ y, refS st = y := ⟨_, rfl⟩
  obtain ⟨RB, hRB⟩ : ∃ y, H.reasonL (refS st) ++ [10] = y := ⟨_, rfl⟩
  rw [hRS] at hRB
  simp only [hRS, hRB] at hr
  have HVV : Hid (∀ h, H.ansV (answerL kind st c) h = .agg #[.int .i64 RS, h, .string ⟨RB.toArray⟩] ∧ (answerL kind st c).hs = []) := Lib.hid (fun h => by rw [HV.out, ← hRB, ← hRS]; exact ⟨rfl, rfl⟩)
  clear he hm hc hcp ht hmk hRS hRB h0
  go_enter Tryz.func29, Tryz.ntmps29
  go_upto_region 2 with fail
  clear hw0
  go_wp2_with (go_at_call 32; refine (hr _).mono ?_; clear hr; rintro e w2 ⟨rfl, hb⟩; have HB2 := Lib.hid (HB0.out.trans (hb.mono HB0.out.size)); have HR2 := Lib.hid (HR.out.below hb (by have := HS0.out; omega)); obtain ⟨z0, zf0⟩ := HR2.out 0 _ rfl; obtain ⟨z1, zf1⟩ := HR2.out 1 _ rfl; obtain ⟨z2, zf2⟩ := HR2.out 2 _ rfl; obtain ⟨c0, -⟩ := (((HR2.out.set 0 (.int .i64 RS)).set 1 (.slice none 0 0)).set 2 (.string ⟨RB.toArray⟩)) 0 _ rfl; obtain ⟨c1, -⟩ := (((HR2.out.set 0 (.int .i64 RS)).set 1 (.slice none 0 0)).set 2 (.string ⟨RB.toArray⟩)) 1 _ rfl; obtain ⟨c2, -⟩ := (((HR2.out.set 0 (.int .i64 RS)).set 1 (.slice none 0 0)).set 2 (.string ⟨RB.toArray⟩)) 2 _ rfl; clear hb)
  refine bodyPost_ret (v := .agg #[.int .i64 RS, .slice none 0 0, .string ⟨RB.toArray⟩]) (by simp [results, Tryz.results29, go_sem, c0, c1, c2]; try rfl) rfl ?_
  refine ⟨((HB2.out.setCell (p := ⟨w.heap.size + 1, 0, none⟩) (by simp) _).setCell (p := ⟨w.heap.size + 1, 1, none⟩) (by simp) _).setCell (p := ⟨w.heap.size + 1, 2, none⟩) (by simp) _, .slice none 0 0, by rw [(HVV.out _).1], ?_⟩
  rw [(HVV.out (.slice none 0 0)).2]
  exact hdrs_nil _
 subst h0
 obtain ⟨E1, a1', rfl⟩ := he.form
 obtain ⟨M1, b1, rfl⟩ := hm.form
 obtain ⟨D1, d1, rfl⟩ := hc.form
 have a2 := (HA.out 2 _ rfl).1
 have a3 := (HA.out 3 _ rfl).1
 have a4 := (HA.out 4 _ rfl).1
 have hmk0 := hmk w0 HB0.out
 unfold MkA at hmk0
 obtain ⟨X, hX⟩ : ∃ y, canC c = y := ⟨_, rfl⟩
 rw [hX] at hmk0
 have HX := Lib.hid hX
 clear he hm hc hcp ht hmk hX
 by_cases hx0 : X = 0
 case neg =>
  have hne : ((X : Int) != 0) = true := bne_iff_ne.2 (by omega)
  rw [if_neg hx0] at hmk0
  have HV : Hid (answerL kind 200 c = refA 500) := Lib.hid (by unfold answerL; rw [if_neg (by simp), if_pos (by rw [HX.out]; exact hx0)])
  have hr := fun w => refuseA_any 500 w
  unfold RetV refV at hr
  obtain ⟨RS, hRS⟩ : ∃ y, refS 500 = y := ⟨_, rfl⟩
  obtain ⟨RB, hRB⟩ : ∃ y, H.reasonL (refS 500) ++ [10] = y := ⟨_, rfl⟩
  rw [hRS] at hRB
  simp only [hRS, hRB] at hr
  have HVV : Hid (∀ h, H.ansV (answerL kind 200 c) h = .agg #[.int .i64 RS, h, .string ⟨RB.toArray⟩] ∧ (answerL kind 200 c).hs = []) := Lib.hid (fun h => by rw [HV.out, ← hRB, ← hRS]; exact ⟨rfl, rfl⟩)
  clear hRS hRB hx0
  go_enter Tryz.func29, Tryz.ntmps29
  go_upto_region 3 with fail
  clear hw0
  go_wp2_with (first | (go_at_call 69; refine hmk0.mono ?_; clear hmk0; rintro e w1 ⟨hb, rfl⟩; have HB1 := Lib.hid hb; clear hb) | (go_at_call 32; refine (hr _).mono ?_; clear hr; rintro e w2 ⟨rfl, hb⟩; have HBX := Lib.hid (HB1.out.trans (hb.mono HB1.out.size)); have HB2 := Lib.hid (HB0.out.trans (HBX.out.mono HB0.out.size)); have HR2 := Lib.hid (HR.out.below HBX.out (by have := HS0.out; omega)); obtain ⟨z0, zf0⟩ := HR2.out 0 _ rfl; obtain ⟨z1, zf1⟩ := HR2.out 1 _ rfl; obtain ⟨z2, zf2⟩ := HR2.out 2 _ rfl; obtain ⟨c0, -⟩ := (((HR2.out.set 0 (.int .i64 RS)).set 1 (.slice none 0 0)).set 2 (.string ⟨RB.toArray⟩)) 0 _ rfl; obtain ⟨c1, -⟩ := (((HR2.out.set 0 (.int .i64 RS)).set 1 (.slice none 0 0)).set 2 (.string ⟨RB.toArray⟩)) 1 _ rfl; obtain ⟨c2, -⟩ := (((HR2.out.set 0 (.int .i64 RS)).set 1 (.slice none 0 0)).set 2 (.string ⟨RB.toArray⟩)) 2 _ rfl; clear hb))
  refine bodyPost_ret (v := .agg #[.int .i64 RS, .slice none 0 0, .string ⟨RB.toArray⟩]) (by simp [results, Tryz.results29, go_sem, c0, c1, c2]; try rfl) rfl ?_
  refine ⟨((HB2.out.setCell (p := ⟨w.heap.size + 1, 0, none⟩) (by simp) _).setCell (p := ⟨w.heap.size + 1, 1, none⟩) (by simp) _).setCell (p := ⟨w.heap.size + 1, 2, none⟩) (by simp) _, .slice none 0 0, by rw [(HVV.out _).1], ?_⟩
  rw [(HVV.out (.slice none 0 0)).2]
  exact hdrs_nil _
 subst hx0
 rw [if_pos rfl] at hmk0
 obtain ⟨TK, hTK⟩ : ∃ y, tokT c = y := ⟨_, rfl⟩
 rw [hTK] at hmk0
 have HTK := Lib.hid hTK
 clear hTK
 have hcl := can_iff HX.out
 have hx2 := canX_iff.1 hcl.1
 have hl1 : c.es.length ≤ 64 := hcl.2.1
 have hl2 : c.x.ms.length ≤ 64 := hx2.1
 have hl3 : c.x.cl.length ≤ 64 := hx2.2.1
 have HPR : Hid (∀ e ∈ c.es, isPrice e.p = true) := Lib.hid (ents_priceA c.es [] hcl.2.2.1)
 clear hcl hx2
 go_enter Tryz.func29, Tryz.ntmps29
 go_upto_region 3 with fail
 clear hw0
 go_upto_region 6 with (go_at_call 69; refine hmk0.mono ?_; clear hmk0; rintro e w1 ⟨hb, rfl⟩; have HB1 := Lib.hid hb; clear hb)
 obtain ⟨g, hg⟩ : ∃ y, w1.heap.size = y := ⟨_, rfl⟩
 obtain ⟨w3, hw3⟩ : ∃ y, (w1.alloc (.cells #[.string ⟨#[120, 45, 99, 97, 114, 116, 45, 116, 111, 107, 101, 110]⟩, .string ⟨TK.toArray⟩] 45)).alloc (.cells #[.int .i64 200, .slice (some ⟨g, 0, none⟩) 1 1, .string ⟨#[]⟩] 67) = y := ⟨_, rfl⟩
 have hb3 : Below w1.heap.size w1 w3 := by rw [← hw3]; exact ((Below.refl _ _).alloc (Nat.le_refl _) _).alloc (by simp) _
 have HSZ : Hid (w.heap.size + 2 ≤ g) := Lib.hid (by have h1 := HS0.out; have h2 := HB1.out.size; omega)
 have HB3 : Hid (Below w.heap.size w w3) := Lib.hid ((HB0.out.trans (HB1.out.mono HB0.out.size)).trans (hb3.mono (by have := HSZ.out; omega)))
 have HBX : Hid (Below w0.heap.size w0 w3) := Lib.hid (HB1.out.trans (hb3.mono HB1.out.size))
 have HA3 : Hid (Bk w3 w.heap.size _) := Lib.hid (HA.out.below HBX.out (by have := HS0.out; omega))
 have HR3 : Hid (Bk w3 (w.heap.size + 1) _) := Lib.hid (HR.out.below HBX.out (by have := HS0.out; omega))
 have HH3 : Hid (Bk w3 g [.string ⟨tokenH.toArray⟩, .string ⟨TK.toArray⟩]) := Lib.hid (by rw [← hw3]; exact (Bk.new w1 [.string ⟨tokenH.toArray⟩, .string ⟨TK.toArray⟩] 45 hg.symm).alloc _ (by simp; omega))
 have HG3 : Hid (Bk w3 (g + 1) [.int .i64 200, .slice (some ⟨g, 0, none⟩) 1 1, .string ⟨#[]⟩]) := Lib.hid (by rw [← hw3]; exact Bk.new _ [.int .i64 200, .slice (some ⟨g, 0, none⟩) 1 1, .string ⟨#[]⟩] 67 (by simp; omega))
 have HS3 : Hid (g + 2 = w3.heap.size) := Lib.hid (by rw [← hw3]; simp; omega)
 have HW3 := Lib.hid hw3
 have HGG := Lib.hid hg
 clear hw3 hb3 a1 a2 a3 a4 hg
 go_upto_region 7 with fail
 rw [HGG.out]
 rw [HW3.out]
 clear HW3
 have a2 := (HA3.out 2 _ rfl).1
 have a3 := (HA3.out 3 _ rfl).1
 have a4 := (HA3.out 4 _ rfl).1
 have HE3 : Hid (Ents w3 (.slice E1 c.es.length a1') c.es) := Lib.hid (HE.out.below HBX.out (Nat.le_refl _))
 obtain ⟨g0, gf0⟩ := HG3.out 0 _ rfl
 obtain ⟨g1, gf1⟩ := HG3.out 1 _ rfl
 obtain ⟨g2, gf2⟩ := HG3.out 2 _ rfl
 obtain ⟨r0, rf0⟩ := HR3.out 0 _ rfl
 obtain ⟨r1, rf1⟩ := HR3.out 1 _ rfl
 obtain ⟨r2, rf2⟩ := HR3.out 2 _ rfl
 obtain ⟨s0, hs0⟩ : ∃ y, w.heap.size + 1 = y := ⟨_, rfl⟩
 have hgs : g + 1 ≠ s0 := by have := HSZ.out; omega
 have hgs2 : g ≠ s0 := by have := HSZ.out; omega
 rw [hs0] at r0 r1 r2 rf0 rf1 rf2 HR3
 have HS0' := Lib.hid hs0
 by_cases hq : kind = 1 ∧ c.es.length + c.x.ms.length + c.x.cl.length = 0
 ·have HV : Hid (answerL kind 200 c = ⟨404, [(tokenH, TK)], []⟩) := Lib.hid (by unfold answerL; rw [if_neg (by simp), if_neg (by rw [HX.out]; simp), if_pos hq, HTK.out])
  obtain ⟨rfl, hz⟩ := hq
  have e1 : c.es.length = 0 := by omega
  have e2 : c.x.ms.length = 0 := by omega
  have e3 : c.x.cl.length = 0 := by omega
  rw [e1] at a2
  rw [e2] at a3
  rw [e3] at a4
  obtain ⟨wA, hwA⟩ : ∃ y, w3.setCell ⟨g + 1, 0, none⟩ (.int .i64 404) = y := ⟨_, rfl⟩
  have HGA : Hid (Bk wA (g + 1) [.int .i64 404, .slice (some ⟨g, 0, none⟩) 1 1, .string ⟨#[]⟩]) := Lib.hid (by rw [← hwA]; exact HG3.out.set 0 _)
  have HRA : Hid (Bk wA s0 [.int .i64 0, .slice none 0 0, .string ⟨#[]⟩]) := Lib.hid (by rw [← hwA]; exact HR3.out.other (p := ⟨g + 1, 0, none⟩) hgs _)
  have HHA : Hid (Bk wA g [.string ⟨tokenH.toArray⟩, .string ⟨TK.toArray⟩]) := Lib.hid (by rw [← hwA]; exact HH3.out.other (p := ⟨g + 1, 0, none⟩) (by simp) _)
  have HBA : Hid (Below w.heap.size w wA) := Lib.hid (by rw [← hwA]; exact HB3.out.setCell (p := ⟨g + 1, 0, none⟩) (by have := HSZ.out; simp; omega) _)
  have HWA := Lib.hid hwA
  clear HMK e1 e2 e3 hz hwA
  go_upto_region 8 with fail
  go_upto_region 9 with fail
  rw [hs0]
  rw [HWA.out]
  clear g0 gf0 g1 gf1 g2 gf2 r0 rf0 r1 rf1 r2 rf2 a2 a3 a4 HWA hs0
  obtain ⟨g0, gf0⟩ := HGA.out 0 _ rfl
  obtain ⟨g1, gf1⟩ := HGA.out 1 _ rfl
  obtain ⟨g2, gf2⟩ := HGA.out 2 _ rfl
  obtain ⟨r0, rf0⟩ := HRA.out 0 _ rfl
  obtain ⟨r1, rf1⟩ := HRA.out 1 _ rfl
  obtain ⟨r2, rf2⟩ := HRA.out 2 _ rfl
  obtain ⟨c0, -⟩ := (((HRA.out.set 0 (.int .i64 404)).set 1 (.slice (some ⟨g, 0, none⟩) 1 1)).set 2 (.string ⟨#[]⟩)) 0 _ rfl
  obtain ⟨c1, -⟩ := (((HRA.out.set 0 (.int .i64 404)).set 1 (.slice (some ⟨g, 0, none⟩) 1 1)).set 2 (.string ⟨#[]⟩)) 1 _ rfl
  obtain ⟨c2, -⟩ := (((HRA.out.set 0 (.int .i64 404)).set 1 (.slice (some ⟨g, 0, none⟩) 1 1)).set 2 (.string ⟨#[]⟩)) 2 _ rfl
  go_wp2_with fail
  refine bodyPost_ret (v := .agg #[.int .i64 404, .slice (some ⟨g, 0, none⟩) 1 1, .string ⟨#[]⟩]) (by simp [results, Tryz.results29, go_sem, c0, c1, c2]; try rfl) rfl ?_
  have hws : w.heap.size ≤ s0 := by have := HS0'.out; omega
  refine ⟨((HBA.out.setCell (p := ⟨s0, 0, none⟩) hws _).setCell (p := ⟨s0, 1, none⟩) hws _).setCell (p := ⟨s0, 2, none⟩) hws _, .slice (some ⟨g, 0, none⟩) 1 1, by rw [HV.out]; rfl, ?_⟩
  rw [HV.out]
  exact hdrs_one (((HHA.out.other (p := ⟨s0, 0, none⟩) hgs2.symm _).other (p := ⟨s0, 1, none⟩) hgs2.symm _).other (p := ⟨s0, 2, none⟩) hgs2.symm _)
 ·have HV : Hid (answerL kind 200 c = ⟨200, [(tokenH, TK)], linesT (readL c.es)⟩) := Lib.hid (by unfold answerL; rw [if_neg (by simp), if_neg (by rw [HX.out]; simp), if_neg hq, HTK.out])
  have hrd := read_any c.es (.slice E1 c.es.length a1') (.slice M1 c.x.ms.length b1) (.slice D1 c.x.cl.length d1) w3 HE3.out HCP.out HPR.out hl1
  unfold ReaLA at hrd
  have HLB := Lib.hid (answer_body HX.out)
  have HFL := Lib.hid (read_fineLn HX.out)
  obtain ⟨LS, hLS⟩ : ∃ y, readL c.es = y := ⟨_, rfl⟩
  rw [hLS] at hrd HLB HFL HV
  obtain ⟨LT, hLT⟩ : ∃ y, linesT LS = y := ⟨_, rfl⟩
  have hli := fun v w hl ht => lines_any LS v w hl HFL.out (by have := HLB.out; omega) ht
  simp only [hLT] at hli
  rw [hLT] at HV
  clear hLS hLT HMK
  by_cases hk : kind = 1
  ·have hz : ¬ (c.es.length + c.x.ms.length + c.x.cl.length = 0) := fun h => hq ⟨hk, h⟩
   subst hk
   clear hq
   go_upto_region 10 with fail
   clear g0 gf0 g1 gf1 g2 gf2 r0 rf0 r1 rf1 r2 rf2
   go_upto_region 11 with (first | (go_at_call 70; refine hrd.mono ?_; clear hrd; rintro e w4 ⟨hb, v', rfl, hv⟩; have HB4 := Lib.hid hb; have HV4 := Lib.hid hv; clear hb hv) | (go_at_call 23; refine (hli _ _ HV4.out (HT.out.below (HB3.out.trans (HB4.out.mono HB3.out.size)))).mono ?_; clear hli; rintro e w5 ⟨rfl, hb⟩; have HB5 : Hid (Below w3.heap.size w3 w5) := Lib.hid (HB4.out.trans (hb.mono HB4.out.size)); have HG5 := Lib.hid (HG3.out.below HB5.out (by have := HS3.out; omega)); obtain ⟨g2, gf2⟩ := HG5.out 2 _ rfl; clear hb))
   obtain ⟨wA, hwA⟩ : ∃ y, w5.setCell ⟨g + 1, 2, none⟩ (.string ⟨LT.toArray⟩) = y := ⟨_, rfl⟩
   have HGA : Hid (Bk wA (g + 1) [.int .i64 200, .slice (some ⟨g, 0, none⟩) 1 1, .string ⟨LT.toArray⟩]) := Lib.hid (by rw [← hwA]; exact HG5.out.set 2 _)
   have HRA : Hid (Bk wA s0 [.int .i64 0, .slice none 0 0, .string ⟨#[]⟩]) := Lib.hid (by rw [← hwA]; exact (HR3.out.below HB5.out (by have := HS3.out; have := HSZ.out; have := HS0'.out; omega)).other (p := ⟨g + 1, 2, none⟩) hgs _)
   have HHA : Hid (Bk wA g [.string ⟨tokenH.toArray⟩, .string ⟨TK.toArray⟩]) := Lib.hid (by rw [← hwA]; exact (HH3.out.below HB5.out (by have := HS3.out; omega)).other (p := ⟨g + 1, 2, none⟩) (by simp) _)
   have HBA : Hid (Below w.heap.size w wA) := Lib.hid (by rw [← hwA]; exact (HB3.out.trans (HB5.out.mono HB3.out.size)).setCell (p := ⟨g + 1, 2, none⟩) (by have := HSZ.out; simp; omega) _)
   try rw [hs0]
   try rw [hwA]
   clear hwA g2 gf2 a2 a3 a4 hs0
   obtain ⟨g0, gf0⟩ := HGA.out 0 _ rfl
   obtain ⟨g1, gf1⟩ := HGA.out 1 _ rfl
   obtain ⟨g2, gf2⟩ := HGA.out 2 _ rfl
   obtain ⟨r0, rf0⟩ := HRA.out 0 _ rfl
   obtain ⟨r1, rf1⟩ := HRA.out 1 _ rfl
   obtain ⟨r2, rf2⟩ := HRA.out 2 _ rfl
   obtain ⟨c0, -⟩ := (((HRA.out.set 0 (.int .i64 200)).set 1 (.slice (some ⟨g, 0, none⟩) 1 1)).set 2 (.string ⟨LT.toArray⟩)) 0 _ rfl
   obtain ⟨c1, -⟩ := (((HRA.out.set 0 (.int .i64 200)).set 1 (.slice (some ⟨g, 0, none⟩) 1 1)).set 2 (.string ⟨LT.toArray⟩)) 1 _ rfl
   obtain ⟨c2, -⟩ := (((HRA.out.set 0 (.int .i64 200)).set 1 (.slice (some ⟨g, 0, none⟩) 1 1)).set 2 (.string ⟨LT.toArray⟩)) 2 _ rfl
   go_wp2_with fail
   refine bodyPost_ret (v := .agg #[.int .i64 200, .slice (some ⟨g, 0, none⟩) 1 1, .string ⟨LT.toArray⟩]) (by simp [results, Tryz.results29, go_sem, c0, c1, c2]; try rfl) rfl ?_
   have hws : w.heap.size ≤ s0 := by have := HS0'.out; omega
   refine ⟨((HBA.out.setCell (p := ⟨s0, 0, none⟩) hws _).setCell (p := ⟨s0, 1, none⟩) hws _).setCell (p := ⟨s0, 2, none⟩) hws _, .slice (some ⟨g, 0, none⟩) 1 1, by rw [HV.out]; rfl, ?_⟩
   rw [HV.out]
   exact hdrs_one (((HHA.out.other (p := ⟨s0, 0, none⟩) hgs2.symm _).other (p := ⟨s0, 1, none⟩) hgs2.symm _).other (p := ⟨s0, 2, none⟩) hgs2.symm _)
  ·have hk' : (kind == 1) = false := beq_false_of_ne hk
   clear hk hq
   go_upto_region 10 with fail
   clear g0 gf0 g1 gf1 g2 gf2 r0 rf0 r1 rf1 r2 rf2
   go_upto_region 11 with (first | (go_at_call 70; refine hrd.mono ?_; clear hrd; rintro e w4 ⟨hb, v', rfl, hv⟩; have HB4 := Lib.hid hb; have HV4 := Lib.hid hv; clear hb hv) | (go_at_call 23; refine (hli _ _ HV4.out (HT.out.below (HB3.out.trans (HB4.out.mono HB3.out.size)))).mono ?_; clear hli; rintro e w5 ⟨rfl, hb⟩; have HB5 : Hid (Below w3.heap.size w3 w5) := Lib.hid (HB4.out.trans (hb.mono HB4.out.size)); have HG5 := Lib.hid (HG3.out.below HB5.out (by have := HS3.out; omega)); obtain ⟨g2, gf2⟩ := HG5.out 2 _ rfl; clear hb))
   obtain ⟨wA, hwA⟩ : ∃ y, w5.setCell ⟨g + 1, 2, none⟩ (.string ⟨LT.toArray⟩) = y := ⟨_, rfl⟩
   have HGA : Hid (Bk wA (g + 1) [.int .i64 200, .slice (some ⟨g, 0, none⟩) 1 1, .string ⟨LT.toArray⟩]) := Lib.hid (by rw [← hwA]; exact HG5.out.set 2 _)
   have HRA : Hid (Bk wA s0 [.int .i64 0, .slice none 0 0, .string ⟨#[]⟩]) := Lib.hid (by rw [← hwA]; exact (HR3.out.below HB5.out (by have := HS3.out; have := HSZ.out; have := HS0'.out; omega)).other (p := ⟨g + 1, 2, none⟩) hgs _)
   have HHA : Hid (Bk wA g [.string ⟨tokenH.toArray⟩, .string ⟨TK.toArray⟩]) := Lib.hid (by rw [← hwA]; exact (HH3.out.below HB5.out (by have := HS3.out; omega)).other (p := ⟨g + 1, 2, none⟩) (by simp) _)
   have HBA : Hid (Below w.heap.size w wA) := Lib.hid (by rw [← hwA]; exact (HB3.out.trans (HB5.out.mono HB3.out.size)).setCell (p := ⟨g + 1, 2, none⟩) (by have := HSZ.out; simp; omega) _)
   try rw [hs0]
   try rw [hwA]
   clear hwA g2 gf2 a2 a3 a4 hs0
   obtain ⟨g0, gf0⟩ := HGA.out 0 _ rfl
   obtain ⟨g1, gf1⟩ := HGA.out 1 _ rfl
   obtain ⟨g2, gf2⟩ := HGA.out 2 _ rfl
   obtain ⟨r0, rf0⟩ := HRA.out 0 _ rfl
   obtain ⟨r1, rf1⟩ := HRA.out 1 _ rfl
   obtain ⟨r2, rf2⟩ := HRA.out 2 _ rfl
   obtain ⟨c0, -⟩ := (((HRA.out.set 0 (.int .i64 200)).set 1 (.slice (some ⟨g, 0, none⟩) 1 1)).set 2 (.string ⟨LT.toArray⟩)) 0 _ rfl
   obtain ⟨c1, -⟩ := (((HRA.out.set 0 (.int .i64 200)).set 1 (.slice (some ⟨g, 0, none⟩) 1 1)).set 2 (.string ⟨LT.toArray⟩)) 1 _ rfl
   obtain ⟨c2, -⟩ := (((HRA.out.set 0 (.int .i64 200)).set 1 (.slice (some ⟨g, 0, none⟩) 1 1)).set 2 (.string ⟨LT.toArray⟩)) 2 _ rfl
   go_wp2_with fail
   refine bodyPost_ret (v := .agg #[.int .i64 200, .slice (some ⟨g, 0, none⟩) 1 1, .string ⟨LT.toArray⟩]) (by simp [results, Tryz.results29, go_sem, c0, c1, c2]; try rfl) rfl ?_
   have hws : w.heap.size ≤ s0 := by have := HS0'.out; omega
   refine ⟨((HBA.out.setCell (p := ⟨s0, 0, none⟩) hws _).setCell (p := ⟨s0, 1, none⟩) hws _).setCell (p := ⟨s0, 2, none⟩) hws _, .slice (some ⟨g, 0, none⟩) 1 1, by rw [HV.out]; rfl, ?_⟩
   rw [HV.out]
   exact hdrs_one (((HHA.out.other (p := ⟨s0, 0, none⟩) hgs2.symm _).other (p := ⟨s0, 1, none⟩) hgs2.symm _).other (p := ⟨s0, 2, none⟩) hgs2.symm _)
end Go.Proofs.YtpdedfpacklnoaaGreatDoor
