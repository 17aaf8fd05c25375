/- Law 9: FrontToken; premises: the contracts of token.Make, front.Route, trolleyplain.Cart. The contracts that law 9 wants. -/
import Derived.Test.YtpdedfpacklnoaaGreatDoorTkAnA
import Derived.Test.YtpdedfpacklnoaaGreatDoorTkRdP
import Derived.Test.YtpdedfpacklnoaaGreatDoorTkSam
import Derived.Test.YtpdedfpacklnoaaGreatDoorTkEnB
import Derived.Test.YtpdedfpacklnoaaGreatDoorTkEnD
import Derived.Test.YtpdedfpacklnoaaGreatDoorTkRouA
set_option maxRecDepth 100000
namespace Go.Proofs.YtpdedfpacklnoaaGreatDoor
open Go.RowKit Go.BL Go.Ct Go.Sl

def MakeC : Prop := ∀ (c : Ct) (ev mv cv : Value) (w : World), Ents w ev c.es → Dots w mv c.x.ms → Dots w cv c.x.cl → (∀ A n c, ev = .slice A n c → n ≤ c) → (∀ e ∈ c.es, e.it.length ≤ 1073741824 ∧ e.p < 18446744073709551616) → Calls Tryz.prog 69 #[.agg #[ev, mv, cv]] w (MkA c w)
def RouteC : Prop := ∀ (q : Rq) (h : Value) (id : Int) (w : World), H.Hdrs w h q.hs → Small q → Gnd w → Calls Tryz.prog 11 #[rqV q h, .int .i64 id] w (RteR (routeL q.m q.p (H.findL q.hs tokenH) q.b id) w)
def PlainR (c : Ct) (w : World) (e : Ending) (w' : World) : Prop := ∃ ev m k, e = .returned (.agg #[ev, m, k]) ∧ OwnS 92 6 entC w' w.heap.size ev c.es ∧ OwnS 150 3 dotC w' w.heap.size m c.x.ms ∧ OwnS 90 3 dotC w' w.heap.size k c.x.cl ∧ Below w.heap.size w w'
def PlainC : Prop := ∀ (c : Ct) (ev mv cv : Value) (w : World), Ents w ev c.es → Dots w mv c.x.ms → Dots w cv c.x.cl → c.es.length ≤ 1000000 → c.x.ms.length ≤ 1000000 → c.x.cl.length ≤ 1000000 → Calls Tryz.prog 28 #[.agg #[ev, mv, cv]] w (PlainR c w)
def cartsT : List UInt8 := [47, 99, 97, 114, 116, 47]
theorem refS_500 : refS 500 = 500 := by decide
theorem answer_kinds (kind : Int) (c : Ct) : ∃ (st : Int) (hs : List H.Hdr) (b : List UInt8), answerL kind 200 c = ⟨st, hs, b⟩ ∧ ((st = 500 ∧ hs = []) ∨ (st = 404 ∧ hs = [(tokenH, tokT c)]) ∨ (st = 200 ∧ hs = [(tokenH, tokT c)] ∧ canC c = 0)) := by
 unfold answerL
 rw [if_neg (by simp)]
 by_cases h : canC c ≠ 0
 ·rw [if_pos h]; exact ⟨_, _, _, rfl, .inl ⟨refS_500, rfl⟩⟩
 ·rw [if_neg h]
  split
  ·exact ⟨_, _, _, rfl, .inr (.inl ⟨rfl, rfl⟩)⟩
  ·exact ⟨_, _, _, rfl, .inr (.inr ⟨rfl, rfl, Decidable.not_not.1 h⟩)⟩
theorem hdr_slice (g : Nat) (w : World) : (Instr.slice 22 (.slice (some ⟨g, 0, none⟩) 2 2) none (some (.int .i64 1)) none).run Tryz.prog w = .ok (.slice (some ⟨g, 0, none⟩) 1 2) w := by
 simp only [Instr.slice, Sem.run_bind, run_underlying Tryz.underlying22, Result.andThen, Instr.sliceBounds, Sem.run_pure]
 rw [show (Value.int .i64 1) = .int .i64 ((1 : Nat) : Int) from rfl, run_sliceBound _ _ _ _ _ (by omega) (by omega)]
 simp only [Tryz.sizeOf45, Int.toNat_natCast]
 simp [add_none]
theorem hdrs_two {w : World} {g : Nat} {a b : H.Hdr} (h : Bk w g [.string ⟨a.1.toArray⟩, .string ⟨a.2.toArray⟩, .string ⟨b.1.toArray⟩, .string ⟨b.2.toArray⟩]) : H.Hdrs w (.slice (some ⟨g, 0, none⟩) 2 2) [a, b] := by
 refine ⟨by simp, some ⟨g, 0, none⟩, 2, rfl, fun _ => ⟨g, 0, rfl, h.lt, fun i hi => ?_⟩⟩
 have hi : i < 2 := hi
 rcases (by omega : i = 0 ∨ i = 1) with rfl | rfl
 ·exact ⟨(h 0 _ rfl).1, (h 1 _ rfl).1⟩
 ·exact ⟨(h 2 _ rfl).1, (h 3 _ rfl).1⟩
theorem hdrs_fst {w : World} {g : Nat} {a b : H.Hdr} (h : Bk w g [.string ⟨a.1.toArray⟩, .string ⟨a.2.toArray⟩, .string ⟨b.1.toArray⟩, .string ⟨b.2.toArray⟩]) : H.Hdrs w (.slice (some ⟨g, 0, none⟩) 1 2) [a] := by
 refine ⟨by simp, some ⟨g, 0, none⟩, 2, rfl, fun _ => ⟨g, 0, rfl, h.lt, fun i hi => ?_⟩⟩
 obtain rfl : i = 0 := by simp at hi; omega
 exact ⟨(h 0 _ rfl).1, (h 1 _ rfl).1⟩
theorem find_one (t : List UInt8) : H.findL [(tokenH, t)] tokenH = some t := by
 have h2 : H.hit tokenH (tokenH, t) = true := by show (H.smallL tokenH == H.smallL tokenH) = true; decide
 unfold H.findL
 simp [h2]
set_option maxHeartbeats 16000000 in
theorem token_law (hmk : MakeC) (hrt : RouteC) (hpl : PlainC) (haw : AwkC) (kind : Int) (c : Ct) (ev mv cv : Value) (path : List UInt8) (w : World) (he : Ents w ev c.es) (hm : Dots w mv c.x.ms) (hc : Dots w cv c.x.cl)
  (hok : ∀ y ∈ c.es, y.it.length ≤ 1048576 ∧ y.p < 18446744073709551616) (hl : c.es.length ≤ 1000000 ∧ c.x.ms.length ≤ 1000000 ∧ c.x.cl.length ≤ 1000000) (hp : path.length + 6 ≤ 1048576) (hg : Gnd w) :
  Calls Tryz.prog 9 #[.int .i64 kind, .agg #[ev, mv, cv], .string ⟨path.toArray⟩] w (RetV (.bool true) w) := by
 obtain ⟨E1, a1, rfl⟩ := he.form
 obtain ⟨M1, b1, rfl⟩ := hm.form
 obtain ⟨D1, d1, rfl⟩ := hc.form
 obtain ⟨w0, hw0⟩ : ∃ w0, w.alloc (.cells #[.slice E1 c.es.length a1, .slice M1 c.x.ms.length b1, .slice D1 c.x.cl.length d1] 32) = w0 := ⟨_, rfl⟩
 have HB0 : Hid (Below w.heap.size w w0) := Lib.hid (by rw [← hw0]; exact (Below.refl _ _).alloc (Nat.le_refl _) _)
 have HS0 : Hid (w.heap.size < w0.heap.size) := Lib.hid (by rw [← hw0]; simp)
 have HBa : Hid (Bk w0 w.heap.size [.slice E1 c.es.length a1, .slice M1 c.x.ms.length b1, .slice D1 c.x.cl.length d1]) := Lib.hid (by rw [← hw0]; exact Bk.new w _ 32 rfl)
 have HE := Lib.hid (he.below HB0.out (Nat.le_refl _))
 have HM := Lib.hid (hm.below HB0.out (Nat.le_refl _))
 have HC := Lib.hid (hc.below HB0.out (Nat.le_refl _))
 have HG := Lib.hid hg
 have HOK := Lib.hid hok
 have HLN := Lib.hid hl
 have HPA := Lib.hid hp
 have HMK := Lib.hid hmk
 have HRT := Lib.hid hrt
 have HAW := Lib.hid (fun w => awake_any haw w)
 have hpl0 := hpl c _ _ _ w0 HE.out HM.out HC.out hl.1 hl.2.1 hl.2.2
 unfold PlainR at hpl0
 obtain ⟨st, hs, bd, hans, hkd⟩ := answer_kinds kind c
 have HAN := Lib.hid hans
 have HKD := Lib.hid hkd
 have han : ∀ (e1 m1 k1 : Value) (w1 : World), OwnS 92 6 entC w1 w0.heap.size e1 c.es → OwnS 150 3 dotC w1 w0.heap.size m1 c.x.ms → OwnS 90 3 dotC w1 w0.heap.size k1 c.x.cl → Below w0.heap.size w0 w1 →
   Calls Tryz.prog 29 #[.int .i64 kind, .agg #[.int .i64 0, .int .i64 200, e1, m1, k1]] w1 (AnsO ⟨st, hs, bd⟩ w1) := fun e1 m1 k1 w1 h1 h2 h3 hb => by
  have x1 := h1.sl entC_len (by have := HLN.out.1; omega)
  have x2 := h2.sl dotC_len (by have := HLN.out.2.1; omega)
  have x3 := h3.sl dotC_len (by have := HLN.out.2.2; omega)
  have h := answer_of kind 200 0 c e1 m1 k1 w1 x1 x2 x3 (own_cap h1) (HG.out.below (HB0.out.trans (hb.mono HB0.out.size))).tab
   (fun w2 hb2 => HMK.out c e1 m1 k1 w2 (x1.below hb2 (Nat.le_refl _)) (x2.below hb2 (Nat.le_refl _)) (x3.below hb2 (Nat.le_refl _)) (own_cap h1) (fun e he => ⟨by have := (HOK.out e he).1; omega, (HOK.out e he).2⟩))
  rw [HAN.out] at h
  exact h
 unfold AnsO H.ansV at han
 have HANS := Lib.hid han
 clear hmk hrt haw hpl he hm hc hok hl hp hg hans hkd han
 obtain ⟨q0, -⟩ := HBa.out 0 _ rfl
 obtain ⟨q1, -⟩ := HBa.out 1 _ rfl
 obtain ⟨q2, -⟩ := HBa.out 2 _ rfl
 go_enter Tryz.func9, Tryz.ntmps9
 go_upto_region 1 with fail
 clear hw0
 go_upto_region 2 with (first | (go_at_call 28; refine hpl0.mono ?_; clear hpl0; rintro e w1 ⟨e1, m1, k1, rfl, ho1, ho2, ho3, hb⟩; obtain ⟨A2, c2, rfl⟩ := ho1.form; obtain ⟨A3, c3, rfl⟩ := ho2.form; obtain ⟨A4, c4, rfl⟩ := ho3.form; have HO1 := Lib.hid ho1; have HO2 := Lib.hid ho2; have HO3 := Lib.hid ho3; have HB1 := Lib.hid hb; clear ho1 ho2 ho3 hb) | (go_at_call 29; refine (HANS.out _ _ _ _ HO1.out HO2.out HO3.out HB1.out).mono ?_; rintro e w2 ⟨hb, h, rfl, hh⟩; obtain ⟨A5, c5, rfl⟩ := H.Hdrs.form hh; have HH2 := Lib.hid hh; have HB2 := Lib.hid hb; clear hb hh))
 obtain ⟨g, hg⟩ : ∃ y, w2.heap.size = y := ⟨_, rfl⟩
 obtain ⟨w3, hw3⟩ : ∃ y, w2.alloc (.cells #[.int .i64 st, .slice A5 hs.length c5, .string ⟨bd.toArray⟩] 67) = y := ⟨_, rfl⟩
 have hb3 : Below w2.heap.size w2 w3 := by rw [← hw3]; exact (Below.refl _ _).alloc (Nat.le_refl _) _
 have HBX : Hid (Below w0.heap.size w0 w3) := Lib.hid ((HB1.out.trans (HB2.out.mono HB1.out.size)).trans (hb3.mono (Nat.le_trans HB1.out.size HB2.out.size)))
 have HB3 : Hid (Below w.heap.size w w3) := Lib.hid (HB0.out.trans (HBX.out.mono HB0.out.size))
 have HG3 : Hid (Bk w3 g [.int .i64 st, .slice A5 hs.length c5, .string ⟨bd.toArray⟩]) := Lib.hid (by rw [← hw3]; exact Bk.new w2 _ 67 hg.symm)
 have HH3 : Hid (H.Hdrs w3 (.slice A5 hs.length c5) hs) := Lib.hid (H.Hdrs.below HH2.out hb3 (Nat.le_refl _))
 have HS3 : Hid (g < w3.heap.size) := Lib.hid (by rw [← hw3, ← hg]; simp)
 have HA3 : Hid (Bk w3 w.heap.size _) := Lib.hid (HBa.out.below HBX.out HS0.out)
 have HW3 := Lib.hid hw3
 have HGG := Lib.hid hg
 clear hw3 hb3 hg q0 q1 q2 HANS HH2
 try rw [HGG.out]
 try rw [HW3.out]
 clear HGG HW3
 obtain ⟨g0, -⟩ := HG3.out 0 _ rfl
 obtain ⟨g1, -⟩ := HG3.out 1 _ rfl
 have hfd := H.findR_any hs tokenH (.slice A5 hs.length c5) w3 HH3.out (by decide) (by
  rcases HKD.out with ⟨_, rfl⟩ | ⟨_, rfl⟩ | ⟨_, rfl, _⟩
  ·intro h hh; cases hh
  ·intro h hh; rw [List.mem_singleton.1 hh]; show 12 ≤ 140737488355328; omega
  ·intro h hh; rw [List.mem_singleton.1 hh]; show 12 ≤ 140737488355328; omega)
 unfold RetV H.findV at hfd
 have HFS : Hid (hs = [(tokenH, tokT c)] → H.findL hs tokenH = some (tokT c)) := Lib.hid (fun e => by rw [e]; exact find_one _)
 have HFN : Hid (hs = [] → H.findL hs tokenH = none) := Lib.hid (fun e => by rw [e]; rfl)
 rcases HKD.out with ⟨rfl, hsv⟩ | ⟨rfl, hsv⟩ | ⟨rfl, hsv, hcan⟩
 ·rw [HFN.out hsv] at hfd
  dsimp only [Option.getD, Option.isSome] at hfd
  clear hsv
  go_wp2_with (first | (go_at_call 16; refine hfd.mono ?_; clear hfd; rintro e w4 ⟨rfl, hb⟩; have HB4 := Lib.hid (HB3.out.trans (hb.mono HB3.out.size)); have y0 := old_cell hb HS3.out g0; clear hb g0 g1) | (go_at_call 13; refine (HAW.out _ (HG.out.below HB4.out)).mono ?_; rintro e w5 ⟨rfl, hb⟩; have HB5 := Lib.hid (HB4.out.trans (hb.mono HB4.out.size)); clear hb))
  go_ret
  exact ⟨rfl, HB5.out⟩
 ·rw [HFS.out hsv] at hfd
  dsimp only [Option.getD, Option.isSome] at hfd
  clear hsv
  go_wp2_with (first | (go_at_call 16; refine hfd.mono ?_; clear hfd; rintro e w4 ⟨rfl, hb⟩; have HB4 := Lib.hid (HB3.out.trans (hb.mono HB3.out.size)); have y0 := old_cell hb HS3.out g0; clear hb g0 g1) | (go_at_call 13; refine (HAW.out _ (HG.out.below HB4.out)).mono ?_; rintro e w5 ⟨rfl, hb⟩; have HB5 := Lib.hid (HB4.out.trans (hb.mono HB4.out.size)); clear hb))
  go_ret
  exact ⟨rfl, HB5.out⟩
 ·rw [HFS.out hsv] at hfd
  dsimp only [Option.getD, Option.isSome] at hfd
  have HTR := Lib.hid (tok_read hcan (fun e he => (HOK.out e he).2))
  have HTL := Lib.hid (tok_len hcan (fun e he => (HOK.out e he).2))
  obtain ⟨TK, hTK⟩ : ∃ y, tokT c = y := ⟨_, rfl⟩
  rw [hTK] at hfd HTR HTL
  obtain ⟨P, hP⟩ : ∃ y, cartsT ++ path = y := ⟨_, rfl⟩
  have hcat := cat_run cartsT path P hP (by have := HPA.out; simp [cartsT]; omega)
  unfold cartsT at hcat
  have HPL : Hid (P.length ≤ 1048576) := Lib.hid (by rw [← hP]; have := HPA.out; simp [cartsT]; omega)
  clear hsv hTK hP
  go_upto_region 3 with (go_at_call 16; refine hfd.mono ?_; clear hfd; rintro e w4 ⟨rfl, hb⟩; have HB4 := Lib.hid (HB3.out.trans (hb.mono HB3.out.size)); have y0 := old_cell hb HS3.out g0; have HA4 := Lib.hid (HA3.out.below hb (by have := HS3.out; have := HBX.out.size; have := HS0.out; omega)); have HB34 := Lib.hid hb; have HS4 : Hid (w.heap.size < w4.heap.size) := Lib.hid (by have := hb.size; have := HBX.out.size; have := HS0.out; omega); clear hb g0 g1)
  go_upto_region 5 with fail
  clear y0
  obtain ⟨gh, hgh⟩ : ∃ y, w4.heap.size = y := ⟨_, rfl⟩
  obtain ⟨w5, hw5⟩ : ∃ y, w4.alloc (.cells #[.string ⟨#[104, 111, 115, 116]⟩, .string ⟨#[97]⟩, .string ⟨#[120, 45, 99, 97, 114, 116, 45, 116, 111, 107, 101, 110]⟩, .string ⟨TK.toArray⟩] 45) = y := ⟨_, rfl⟩
  obtain ⟨w6, hw6⟩ : ∃ y, w5.alloc (.cells #[.string ⟨#[71, 69, 84]⟩, .string ⟨P.toArray⟩, .slice (some ⟨gh, 0, none⟩) 2 2, .string ⟨#[]⟩] 24) = y := ⟨_, rfl⟩
  have hb6 : Below w4.heap.size w4 w6 := by rw [← hw6, ← hw5]; exact ((Below.refl _ _).alloc (Nat.le_refl _) _).alloc (by simp) _
  have HB6 : Hid (Below w.heap.size w w6) := Lib.hid (HB4.out.trans (hb6.mono HB4.out.size))
  have HZ4 : Hid (Below w3.heap.size w3 w6) := Lib.hid (HB34.out.trans (hb6.mono HB34.out.size))
  have HA6 : Hid (Bk w6 w.heap.size _) := Lib.hid (HA4.out.below hb6 HS4.out)
  have HD6 : Hid (Bk w6 gh [.string ⟨hostH.1.toArray⟩, .string ⟨hostH.2.toArray⟩, .string ⟨tokenH.toArray⟩, .string ⟨TK.toArray⟩]) := Lib.hid (by rw [← hw6, ← hw5]; exact (Bk.new w4 [.string ⟨hostH.1.toArray⟩, .string ⟨hostH.2.toArray⟩, .string ⟨tokenH.toArray⟩, .string ⟨TK.toArray⟩] 45 hgh.symm).alloc _ (by simp; omega))
  have HQ6 : Hid (Bk w6 (gh + 1) [.string ⟨#[71, 69, 84]⟩, .string ⟨P.toArray⟩, .slice (some ⟨gh, 0, none⟩) 2 2, .string ⟨#[]⟩]) := Lib.hid (by rw [← hw6]; exact Bk.new w5 _ 24 (by rw [← hw5]; simp; omega))
  have HS6 : Hid (gh + 2 = w6.heap.size) := Lib.hid (by rw [← hw6, ← hw5]; simp; omega)
  have HSG : Hid (w.heap.size < gh) := Lib.hid (by rw [← hgh]; exact HS4.out)
  have HW6 := Lib.hid hw6
  have HW5 := Lib.hid hw5
  have HGH := Lib.hid hgh
  clear hw6 hw5 hb6 hgh
  go_upto_region 6 with fail
  try rw [HGH.out]
  rw [HW5.out]
  rw [HW6.out]
  clear HW6 HW5 HGH
  obtain ⟨x0, -⟩ := HQ6.out 0 _ rfl
  obtain ⟨x1, -⟩ := HQ6.out 1 _ rfl
  obtain ⟨x2, -⟩ := HQ6.out 2 _ rfl
  obtain ⟨x3, -⟩ := HQ6.out 3 _ rfl
  have hr := HRT.out ⟨getT, P, [hostH, (tokenH, TK)], []⟩ (.slice (some ⟨gh, 0, none⟩) 2 2) 1 w6 (hdrs_two HD6.out) ⟨HPL.out, by simp, by
   intro x hx
   simp only [List.mem_cons, List.not_mem_nil, or_false] at hx
   rcases hx with rfl | rfl
   ·exact ⟨by decide, by decide⟩
   ·exact ⟨by show 12 ≤ 1048576; omega, by have := HTL.out; show TK.length ≤ 1048576; omega⟩⟩ (HG.out.below HB6.out)
  have hr2 := fun (w8 : World) (hd : Bk w8 gh [.string ⟨hostH.1.toArray⟩, .string ⟨hostH.2.toArray⟩, .string ⟨tokenH.toArray⟩, .string ⟨TK.toArray⟩]) (hb : Below w.heap.size w w8) => HRT.out ⟨getT, P, [hostH], []⟩ (.slice (some ⟨gh, 0, none⟩) 1 2) 1 w8 (hdrs_fst (b := (tokenH, TK)) hd) ⟨HPL.out, by simp, by
   intro x hx
   rw [List.mem_singleton.1 hx]
   exact ⟨by decide, by decide⟩⟩ (HG.out.below hb)
  dsimp only at hr hr2
  rw [find_tok] at hr
  simp only [find_host] at hr2
  have hsm := route_same (m := getT) (path := P) (body := []) (id := 1) HTR.out
  obtain ⟨X, hX⟩ : ∃ y, routeL getT P (some TK) [] 1 = y := ⟨_, rfl⟩
  rw [hX] at hr hsm
  have HSM := Lib.hid hsm
  unfold rqV RteR at hr hr2
  have HR2 := Lib.hid hr2
  have HX := Lib.hid hX
  clear hsm hr2 hX
  go_wp2_with fail
  go_at_call 11
  refine hr.mono ?_
  clear hr x0 x1 x2 x3
  rintro e w7 ⟨hb, ⟨a, v, rfl, rfl, hA⟩ | ⟨k, rfl, rfl⟩⟩
  ·obtain ⟨e7, m7, k7, rfl, he7, hm7, hc7⟩ := hA
   have hseen := HSM.out.2 a rfl
   rw [hseen] at he7 hm7 hc7
   obtain ⟨A7, n7, rfl⟩ := he7.form
   obtain ⟨B7, o7, rfl⟩ := hm7.form
   obtain ⟨C7, r7, rfl⟩ := hc7.form
   obtain ⟨ga, hga⟩ : ∃ y, w7.heap.size = y := ⟨_, rfl⟩
   obtain ⟨w8, hw8⟩ : ∃ y, w7.alloc (.cells #[.int .i64 a.id, .int .i64 (a.kind : Int), .string ⟨a.key.toArray⟩, .string ⟨a.item.toArray⟩, .int .i64 (a.qty : Int), .int .u64 (a.price : Int), .slice A7 c.es.length n7, .slice B7 c.x.ms.length o7, .slice C7 c.x.cl.length r7] 34) = y := ⟨_, rfl⟩
   have hb8 : Below w7.heap.size w7 w8 := by rw [← hw8]; exact (Below.refl _ _).alloc (Nat.le_refl _) _
   have HBY : Hid (Below w6.heap.size w6 w8) := Lib.hid (hb.trans (hb8.mono hb.size))
   have HB8 : Hid (Below w.heap.size w w8) := Lib.hid (HB6.out.trans (HBY.out.mono HB6.out.size))
   have HA8 : Hid (Bk w8 w.heap.size _) := Lib.hid (HA6.out.below HBY.out (by have := HS6.out; have := HSG.out; omega))
   have HK8 : Hid (Bk w8 ga [.int .i64 a.id, .int .i64 (a.kind : Int), .string ⟨a.key.toArray⟩, .string ⟨a.item.toArray⟩, .int .i64 (a.qty : Int), .int .u64 (a.price : Int), .slice A7 c.es.length n7, .slice B7 c.x.ms.length o7, .slice C7 c.x.cl.length r7]) := Lib.hid (by rw [← hw8]; exact Bk.new w7 _ 34 hga.symm)
   have hsk := sameK_any c A7 B7 C7 n7 o7 r7 E1 M1 D1 a1 b1 d1 w8 ((he7.below hb8 (Nat.le_refl _)).sl entC_len (by have := HLN.out.1; omega)) ((hm7.below hb8 (Nat.le_refl _)).sl dotC_len (by have := HLN.out.2.1; omega)) ((hc7.below hb8 (Nat.le_refl _)).sl dotC_len (by have := HLN.out.2.2; omega))
    (HE.out.below (HBX.out.trans ((HZ4.out.trans (HBY.out.mono (HZ4.out.size))).mono HBX.out.size)) (Nat.le_refl _)) (HM.out.below (HBX.out.trans ((HZ4.out.trans (HBY.out.mono (HZ4.out.size))).mono HBX.out.size)) (Nat.le_refl _)) (HC.out.below (HBX.out.trans ((HZ4.out.trans (HBY.out.mono (HZ4.out.size))).mono HBX.out.size)) (Nat.le_refl _))
   clear he7 hm7 hc7 hb hb8 hseen
   have HGA := Lib.hid hga
   have HW8 := Lib.hid hw8
   clear hga hw8
   go_upto_region 7 with fail
   try rw [HGA.out]
   try rw [HW8.out]
   clear HGA HW8
   obtain ⟨k6, -⟩ := HK8.out 6 _ rfl
   obtain ⟨k7, -⟩ := HK8.out 7 _ rfl
   obtain ⟨k8, -⟩ := HK8.out 8 _ rfl
   obtain ⟨z0, -⟩ := HA8.out 0 _ rfl
   obtain ⟨z1, -⟩ := HA8.out 1 _ rfl
   obtain ⟨z2, -⟩ := HA8.out 2 _ rfl
   go_wp2_with (first | (go_at_call 34; refine hsk.mono ?_; clear hsk; rintro e w9 ⟨rfl, hb⟩; have HB9 := Lib.hid (HB8.out.trans (hb.mono HB8.out.size)); clear hb) | (go_at_call 13; refine (HAW.out _ (HG.out.below HB9.out)).mono ?_; rintro e w10 ⟨rfl, hb⟩; have HB10 := Lib.hid (HB9.out.trans (hb.mono HB9.out.size)); clear hb))
   go_ret
   exact ⟨rfl, HB10.out⟩
  ·have herr := route_err HX.out
   have HNO := Lib.hid (HSM.out.1 k rfl)
   have hne : ((k : Int) != 0) = true := bne_iff_ne.2 (by omega)
   obtain ⟨w8, hw8⟩ : ∃ y, w7.alloc (.cells #[.int .i64 0, .int .i64 0, .string ⟨#[]⟩, .string ⟨#[]⟩, .int .i64 0, .int .u64 0, .slice none 0 0, .slice none 0 0, .slice none 0 0] 34) = y := ⟨_, rfl⟩
   have hb8 : Below w7.heap.size w7 w8 := by rw [← hw8]; exact (Below.refl _ _).alloc (Nat.le_refl _) _
   have HBY : Hid (Below w6.heap.size w6 w8) := Lib.hid (hb.trans (hb8.mono hb.size))
   have HB8 : Hid (Below w.heap.size w w8) := Lib.hid (HB6.out.trans (HBY.out.mono HB6.out.size))
   have HQ8 : Hid (Bk w8 (gh + 1) [.string ⟨#[71, 69, 84]⟩, .string ⟨P.toArray⟩, .slice (some ⟨gh, 0, none⟩) 2 2, .string ⟨#[]⟩]) := Lib.hid (HQ6.out.below HBY.out (by have := HS6.out; omega))
   have HD8 : Hid (Bk w8 gh _) := Lib.hid (HD6.out.below HBY.out (by have := HS6.out; omega))
   have HW8 := Lib.hid hw8
   clear hb hb8 herr hw8
   go_upto_region 7 with fail
   try rw [HW8.out]
   clear HW8
   obtain ⟨x2, f2⟩ := HQ8.out 2 _ rfl
   have hsl := hdr_slice gh
   obtain ⟨w9, hw9⟩ : ∃ y, w8.setCell ⟨gh + 1, 2, none⟩ (.slice (some ⟨gh, 0, none⟩) 1 2) = y := ⟨_, rfl⟩
   have HQ9 : Hid (Bk w9 (gh + 1) [.string ⟨#[71, 69, 84]⟩, .string ⟨P.toArray⟩, .slice (some ⟨gh, 0, none⟩) 1 2, .string ⟨#[]⟩]) := Lib.hid (by rw [← hw9]; exact HQ8.out.set 2 _)
   have HD9 : Hid (Bk w9 gh [.string ⟨hostH.1.toArray⟩, .string ⟨hostH.2.toArray⟩, .string ⟨tokenH.toArray⟩, .string ⟨TK.toArray⟩]) := Lib.hid (by rw [← hw9]; exact HD8.out.other (p := ⟨gh + 1, 2, none⟩) (by simp) _)
   have HB9 : Hid (Below w.heap.size w w9) := Lib.hid (by rw [← hw9]; exact HB8.out.setCell (p := ⟨gh + 1, 2, none⟩) (by have := HSG.out; show w.heap.size ≤ gh + 1; omega) _)
   have HW9 := Lib.hid hw9
   have hr9 := HR2.out w9 HD9.out HB9.out
   clear hw9
   go_upto_region 9 with fail
   try rw [HW9.out]
   clear HW9 x2 f2
   obtain ⟨x0, -⟩ := HQ9.out 0 _ rfl
   obtain ⟨x1, -⟩ := HQ9.out 1 _ rfl
   obtain ⟨x2, -⟩ := HQ9.out 2 _ rfl
   obtain ⟨x3, -⟩ := HQ9.out 3 _ rfl
   go_wp2_with fail
   go_at_call 11
   refine hr9.mono ?_
   clear hr9 x0 x1 x2 x3
   rintro e w10 ⟨hb, ⟨a, v, hX2, rfl, hA⟩ | ⟨k2, hX2, rfl⟩⟩
   ·have := HNO.out.symm.trans hX2
    cases this
   ·have hk2 : k2 = k := by have h := HNO.out.symm.trans hX2; injection h with h; exact h.symm
    subst hk2
    have HB10 := Lib.hid (HB9.out.trans (hb.mono HB9.out.size))
    clear hb hX2
    go_upto_region 10 with fail
    have HB11 := Lib.hid (HB10.out.alloc HB10.out.size (.cells #[.int .i64 0, .int .i64 0, .string ⟨#[]⟩, .string ⟨#[]⟩, .int .i64 0, .int .u64 0, .slice none 0 0, .slice none 0 0, .slice none 0 0] 34))
    go_wp2_with (go_at_call 13; refine (HAW.out _ (HG.out.below HB11.out)).mono ?_; rintro e w12 ⟨rfl, hb⟩; have HB12 := Lib.hid (HB11.out.trans (hb.mono HB11.out.size)); clear hb)
    go_ret
    exact ⟨rfl, HB12.out⟩
end Go.Proofs.YtpdedfpacklnoaaGreatDoor
namespace Go.Proofs.YtpdedfpacklnoaaGreatDoor
open Go.RowKit Go.BL Go.Ct Go.Sl

theorem makeC : MakeC := fun c ev mv cv w he hm hc hcp hsl => make_any c.es c.x ev mv cv w he hm hc hcp hsl
theorem routeC : RouteC := fun q h id w hd hz hg => RouteB q h id w hd hz hg
theorem plainC : PlainC := fun c ev mv cv w he hm hc h0 h1 h2 => plainC_any c ev mv cv w he hm hc h0 h1 h2
end Go.Proofs.YtpdedfpacklnoaaGreatDoor
