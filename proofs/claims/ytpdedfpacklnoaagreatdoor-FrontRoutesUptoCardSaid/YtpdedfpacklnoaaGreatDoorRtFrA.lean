/- Law 5: FrontRoutes. -/
import Derived.Test.YtpdedfpacklnoaaGreatDoorRtRkG
import Derived.Test.YtpdedfpacklnoaaGreatDoorRtFeA
import Derived.Test.YtpdedfpacklnoaaGreatDoorRtMh2
set_option maxRecDepth 100000
namespace Go.Proofs.YtpdedfpacklnoaaGreatDoor
open Go.RowKit Go.BL Go.Ct Go.Sl

theorem own_formB {w : World} {B : Nat} {v : Value} {hs : List H.Hdr} (h : H.OwnH w B v hs) : ∃ A n c, v = .slice A n c := by
 obtain ⟨A, c, e⟩ := h.form
 exact ⟨A, _, c, e⟩
theorem own_hdrsB {w : World} {B : Nat} {v : Value} {hs : List H.Hdr} (h : H.OwnH w B v hs) (hm : hs.length ≤ 4611686018427387903) : H.Hdrs w v hs := by
 rcases h.2 with ⟨rfl, h0⟩ | ⟨g, cap, cur, rfl, hg, hh, hn, _⟩
 ·rw [List.eq_nil_of_length_eq_zero h0]
  exact ⟨by decide, none, 0, rfl, fun hn => absurd hn (by decide)⟩
 ·refine ⟨hm, _, cap, rfl, fun _ => ⟨g, 0, rfl, ?_, fun i hi => ?_⟩⟩
  ·rcases Nat.lt_or_ge g w.heap.size with h' | h'
   ·exact h'
   ·rw [Array.getElem?_eq_none h'] at hh; cases hh
  ·have hc := World.ownsRow.cells h (g := g) rfl
   have ha := H.hv_at hs i hi
   have h1 := hc _ _ ha.1
   have h2 := hc _ _ ha.2
   rw [add_none] at h1 h2
   exact ⟨h1, by rw [Nat.add_assoc]; exact h2⟩
set_option maxHeartbeats 4000000 in
theorem sameRq_any (q : Rq) (A D : Option Addr) (n c m d : Nat) (w : World) (hv : H.Hdrs w (.slice A n c) q.hs) (hu : H.Hdrs w (.slice D m d) q.hs) : Calls Tryz.prog 19 #[rqV q (.slice A n c), rqV q (.slice D m d)] w (RetV (.bool true) w) := by
 unfold rqV
 have hh := fun w (h1 : H.Hdrs w (.slice A n c) q.hs) (h2 : H.Hdrs w (.slice D m d) q.hs) => H.sameH_any q.hs q.hs _ _ w h1 h2
 simp only [decide_true] at hh
 have HV := Lib.hid hv
 have HU := Lib.hid hu
 clear hv hu
 go_enter Tryz.func19, Tryz.ntmps19
 go_wp2_with (go_at_call 52; refine (hh _ ((HV.out.alloc _).alloc _) ((HU.out.alloc _).alloc _)).mono ?_; rintro e w3 ⟨rfl, hb⟩; have HB := Lib.hid hb; clear hb)
 go_ret
 exact ⟨rfl, (((Below.refl _ _).alloc (Nat.le_refl _) _).alloc (by simp) _).trans (HB.out.mono (by simp; omega))⟩
set_option maxHeartbeats 16000000 in
theorem routes_law (q : Rq) (h : Value) (id : Int) (w : World) (hd : H.Hdrs w h q.hs) (hz : Small q) (hn : q.hs.length ≤ 1048576) (hg : Gnd w) : Calls Tryz.prog 5 #[rqV q h, .int .i64 id] w (RetV (.bool true) w) := by
 obtain ⟨A, ac, rfl⟩ : ∃ A c, h = .slice A q.hs.length c := by obtain ⟨_, A, c, e, _⟩ := hd; exact ⟨A, c, e⟩
 obtain ⟨w0, hw0⟩ : ∃ w0, w.alloc (.cells #[.string ⟨q.m.toArray⟩, .string ⟨q.p.toArray⟩, .slice A q.hs.length ac, .string ⟨q.b.toArray⟩] 24) = w0 := ⟨_, rfl⟩
 have HB0 : Hid (Below w.heap.size w w0) := Lib.hid (by rw [← hw0]; exact (Below.refl _ _).alloc (Nat.le_refl _) _)
 have HBa : Hid (Bk w0 w.heap.size [.string ⟨q.m.toArray⟩, .string ⟨q.p.toArray⟩, .slice A q.hs.length ac, .string ⟨q.b.toArray⟩]) := Lib.hid (by rw [← hw0]; exact Bk.new w _ 24 rfl)
 have HL0 : Hid (w.heap.size < w0.heap.size) := Lib.hid (by rw [← hw0]; simp)
 have HD := Lib.hid (H.Hdrs.below hd HB0.out (Nat.le_refl _))
 have HG := Lib.hid (hg.below HB0.out)
 have HZ := Lib.hid hz
 have HLQ := Lib.hid hn
 clear hd hz hg hn
 unfold rqV
 go_enter Tryz.func5, Tryz.ntmps5
 go_upto_region 1 with fail
 clear hw0
 have x0 := (HBa.out 0 _ rfl).1
 have x1 := (HBa.out 1 _ rfl).1
 have x2 := (HBa.out 2 _ rfl).1
 have x3 := (HBa.out 3 _ rfl).1
 obtain ⟨w1, hw1⟩ : ∃ y, w0.alloc (.cells #[.string ⟨q.m.toArray⟩, .string ⟨q.p.toArray⟩, .slice A q.hs.length ac, .string ⟨q.b.toArray⟩] 24) = y := ⟨_, rfl⟩
 have HW1 : Hid (Below w0.heap.size w0 w1) := Lib.hid (by rw [← hw1]; exact (Below.refl _ _).alloc (Nat.le_refl _) _)
 have HX1 : Hid (Bk w1 w0.heap.size [.string ⟨q.m.toArray⟩, .string ⟨q.p.toArray⟩, .slice A q.hs.length ac, .string ⟨q.b.toArray⟩]) := Lib.hid (by rw [← hw1]; exact Bk.new w0 _ 24 rfl)
 have HS1 : Hid (w0.heap.size < w1.heap.size) := Lib.hid (by rw [← hw1]; simp)
 have HA1 := Lib.hid (HBa.out.below HW1.out HL0.out)
 go_upto_region 2 with fail
 clear hw1 x0 x1 x2 x3
 have x2 := (HA1.out 2 _ rfl).1
 have hcl := H.cloneH_any q.hs (.slice A q.hs.length ac) w1 (H.Hdrs.below HD.out HW1.out (Nat.le_refl _)) (Nat.le_trans HLQ.out (by decide))
 go_wp2_with fail
 go_at_call 17
 refine hcl.mono ?_
 clear hcl x2
 rintro e w2 ⟨v', rfl, ho, hb⟩
 obtain ⟨A9, n9, c9, h9⟩ := own_formB ho
 subst h9
 have HX2 := Lib.hid (HX1.out.below hb HS1.out)
 have HA2 := Lib.hid (HA1.out.below hb (Nat.lt_trans HL0.out HS1.out))
 have HW2 := Lib.hid (HW1.out.trans (hb.mono HW1.out.size))
 have HO2 := Lib.hid ho
 have HS2 : Hid (w0.heap.size < w2.heap.size) := Lib.hid (Nat.lt_of_lt_of_le HS1.out hb.size)
 have HNA : Hid (w0.heap.size ≠ w.heap.size) := Lib.hid (by have := HL0.out; omega)
 clear ho hb
 obtain ⟨y2, yf2⟩ := HX2.out 2 _ rfl
 obtain ⟨wr, hwr⟩ : ∃ y, w2.setCell ⟨w0.heap.size, 2, none⟩ (.slice A9 n9 c9) = y := ⟨_, rfl⟩
 have HWr : Hid (Below w0.heap.size w0 wr) := Lib.hid (by rw [← hwr]; exact HW2.out.setCell (p := ⟨w0.heap.size, 2, none⟩) (Nat.le_refl _) _)
 have HXr : Hid (Bk wr w0.heap.size [.string ⟨q.m.toArray⟩, .string ⟨q.p.toArray⟩, .slice A9 n9 c9, .string ⟨q.b.toArray⟩]) := Lib.hid (by rw [← hwr]; exact HX2.out.set 2 _)
 have HAr : Hid (Bk wr w.heap.size [.string ⟨q.m.toArray⟩, .string ⟨q.p.toArray⟩, .slice A q.hs.length ac, .string ⟨q.b.toArray⟩]) := Lib.hid (by rw [← hwr]; exact HA2.out.other (p := ⟨w0.heap.size, 2, none⟩) HNA.out _)
 have HOr : Hid (H.OwnH wr w1.heap.size (.slice A9 n9 c9) q.hs) := Lib.hid (by rw [← hwr]; exact HO2.out.setCell (p := ⟨w0.heap.size, 2, none⟩) HS1.out _)
 have HSr : Hid (w0.heap.size < wr.heap.size) := Lib.hid (by rw [← hwr]; simpa using HS2.out)
 have HH9 := Lib.hid (own_hdrsB HOr.out (Nat.le_trans HLQ.out (by decide)))
 go_upto_region 3 with fail
 clear hwr y2 yf2
 have HDr := Lib.hid (H.Hdrs.below HD.out HWr.out (Nat.le_refl _))
 have HGr := Lib.hid (HG.out.below HWr.out)
 have HB0r := Lib.hid (HB0.out.trans (HWr.out.mono HB0.out.size))
 obtain ⟨X, hX⟩ : ∃ y, routeL q.m q.p (H.findL q.hs tokenH) q.b id = y := ⟨_, rfl⟩
 have HXX := Lib.hid hX
 have hr := RouteA q (.slice A9 n9 c9) id wr HH9.out HZ.out HGr.out
 unfold rqV at hr
 rw [hX] at hr
 clear hX
 have x0 := (HXr.out 0 _ rfl).1
 have x1 := (HXr.out 1 _ rfl).1
 have x2 := (HXr.out 2 _ rfl).1
 have x3 := (HXr.out 3 _ rfl).1
 go_wp2_with fail
 go_at_call 11
 refine hr.mono ?_
 clear hr x0 x1 x2 x3
 rintro e w1' ⟨hb, ⟨a, v, rfl, rfl, hA⟩ | ⟨c, rfl, rfl⟩⟩
 ·obtain ⟨e1, m1, c1, rfl, he, hm, hc⟩ := hA
  obtain ⟨E1, a1, rfl⟩ := he.form
  obtain ⟨M1, b1, rfl⟩ := hm.form
  obtain ⟨D1, d1, rfl⟩ := hc.form
  have hok := route_ok HXX.out
  have hcan := can_iff hok.2.2.2
  have hl1 : a.seen.es.length ≤ 4611686018427387903 := by have := hcan.2.1; omega
  have hl2 : a.seen.x.ms.length ≤ 4611686018427387903 := by have := (canX_iff.1 hcan.1).1; omega
  have hl3 : a.seen.x.cl.length ≤ 4611686018427387903 := by have := (canX_iff.1 hcan.1).2.1; omega
  have HE1 := Lib.hid (he.sl entC_len hl1)
  have HM1 := Lib.hid (hm.sl dotC_len hl2)
  have HC1 := Lib.hid (hc.sl dotC_len hl3)
  have HL1 := Lib.hid hl1
  have HL2 := Lib.hid hl2
  have HL3 := Lib.hid hl3
  have HB1 := Lib.hid hb
  clear he hm hc hok hcan hl1 hl2 hl3 hb
  obtain ⟨w2q, hw2⟩ : ∃ y, w1'.alloc (.cells #[.int .i64 a.id, .int .i64 (a.kind : Int), .string ⟨a.key.toArray⟩, .string ⟨a.item.toArray⟩, .int .i64 (a.qty : Int), .int .u64 (a.price : Int), .slice E1 a.seen.es.length a1, .slice M1 a.seen.x.ms.length b1, .slice D1 a.seen.x.cl.length d1] 34) = y := ⟨_, rfl⟩
  have HLw2 : Hid (Below w1'.heap.size w1' w2q) := Lib.hid (by rw [← hw2]; exact (Below.refl _ _).alloc (Nat.le_refl _) _)
  have HK1 : Hid (Bk w2q w1'.heap.size [.int .i64 a.id, .int .i64 (a.kind : Int), .string ⟨a.key.toArray⟩, .string ⟨a.item.toArray⟩, .int .i64 (a.qty : Int), .int .u64 (a.price : Int), .slice E1 a.seen.es.length a1, .slice M1 a.seen.x.ms.length b1, .slice D1 a.seen.x.cl.length d1]) := Lib.hid (by rw [← hw2]; exact Bk.new w1' _ 34 rfl)
  have HSw2 : Hid (w1'.heap.size < w2q.heap.size) := Lib.hid (by rw [← hw2]; simp)
  have HR2 := Lib.hid (HB1.out.trans (HLw2.out.mono HB1.out.size))
  have HX4 := Lib.hid (HXr.out.below HR2.out HSr.out)
  have HSa : Hid (w.heap.size < wr.heap.size) := Lib.hid (Nat.lt_trans HL0.out HSr.out)
  have HA4 := Lib.hid (HAr.out.below HR2.out HSa.out)
  have hr2 := RouteD_any q (.slice A q.hs.length ac) id w2q (H.Hdrs.below HDr.out HR2.out (Nat.le_refl _)) HZ.out
  unfold rqV at hr2
  rw [HXX.out] at hr2
  go_upto_region 4 with fail
  clear hw2
  have x0 := (HA4.out 0 _ rfl).1
  have x1 := (HA4.out 1 _ rfl).1
  have x2 := (HA4.out 2 _ rfl).1
  have x3 := (HA4.out 3 _ rfl).1
  go_wp2_with fail
  go_at_call 18
  refine hr2.mono ?_
  clear hr2 x0 x1 x2 x3
  rintro e w3 ⟨hb, ⟨a', v, hx, rfl, hA⟩ | ⟨c', hx, rfl⟩⟩
  case inr => cases hx
  cases hx
  obtain ⟨e1, m1, c1, rfl, he, hm, hc⟩ := hA
  obtain ⟨E2, a2, rfl⟩ := he.form
  obtain ⟨M2, b2, rfl⟩ := hm.form
  obtain ⟨D2, d2, rfl⟩ := hc.form
  have HE2 := Lib.hid (he.sl entC_len HL1.out)
  have HM2 := Lib.hid (hm.sl dotC_len HL2.out)
  have HC2 := Lib.hid (hc.sl dotC_len HL3.out)
  have HB2 := Lib.hid hb
  clear he hm hc hb
  obtain ⟨w4, hw4⟩ : ∃ y, w3.alloc (.cells #[.int .i64 a.id, .int .i64 (a.kind : Int), .string ⟨a.key.toArray⟩, .string ⟨a.item.toArray⟩, .int .i64 (a.qty : Int), .int .u64 (a.price : Int), .slice E2 a.seen.es.length a2, .slice M2 a.seen.x.ms.length b2, .slice D2 a.seen.x.cl.length d2] 34) = y := ⟨_, rfl⟩
  have HLw4 : Hid (Below w3.heap.size w3 w4) := Lib.hid (by rw [← hw4]; exact (Below.refl _ _).alloc (Nat.le_refl _) _)
  have HK2 : Hid (Bk w4 w3.heap.size [.int .i64 a.id, .int .i64 (a.kind : Int), .string ⟨a.key.toArray⟩, .string ⟨a.item.toArray⟩, .int .i64 (a.qty : Int), .int .u64 (a.price : Int), .slice E2 a.seen.es.length a2, .slice M2 a.seen.x.ms.length b2, .slice D2 a.seen.x.cl.length d2]) := Lib.hid (by rw [← hw4]; exact Bk.new w3 _ 34 rfl)
  have HSw4 : Hid (w3.heap.size < w4.heap.size) := Lib.hid (by rw [← hw4]; simp)
  have HR3 := Lib.hid (HB2.out.trans (HLw4.out.mono HB2.out.size))
  have HK1' := Lib.hid (HK1.out.below HR3.out HSw2.out)
  have HBW := Lib.hid (HB0r.out.trans ((HR2.out.trans (HR3.out.mono HR2.out.size)).mono HB0r.out.size))
  have HG4 := Lib.hid (HGr.out.below (HR2.out.trans (HR3.out.mono HR2.out.size)))
  have HS4 : Hid (w0.heap.size < w2q.heap.size) := Lib.hid (Nat.lt_of_lt_of_le HSr.out HR2.out.size)
  have HS4b : Hid (w0.heap.size < w4.heap.size) := Lib.hid (Nat.lt_of_lt_of_le HS4.out HR3.out.size)
  have HR1 := Lib.hid (HLw2.out.trans (HR3.out.mono HLw2.out.size))
  have hsa := sameAsk_any a.id (a.kind : Int) (a.qty : Int) a.key a.item a.price a.seen E1 M1 D1 a1 b1 d1 E2 M2 D2 a2 b2 d2 w4 (HE1.out.below HR1.out (Nat.le_refl _)) (HM1.out.below HR1.out (Nat.le_refl _)) (HC1.out.below HR1.out (Nat.le_refl _)) (HE2.out.below HLw4.out (Nat.le_refl _)) (HM2.out.below HLw4.out (Nat.le_refl _)) (HC2.out.below HLw4.out (Nat.le_refl _))
  have haw := awake_any awkC
  go_upto_region 5 with fail
  clear hw4
  have x0 := (HK1'.out 0 _ rfl).1
  have x1 := (HK1'.out 1 _ rfl).1
  have x2 := (HK1'.out 2 _ rfl).1
  have x3 := (HK1'.out 3 _ rfl).1
  have x4 := (HK1'.out 4 _ rfl).1
  have x5 := (HK1'.out 5 _ rfl).1
  have x6 := (HK1'.out 6 _ rfl).1
  have x7 := (HK1'.out 7 _ rfl).1
  have x8 := (HK1'.out 8 _ rfl).1
  have y0 := (HK2.out 0 _ rfl).1
  have y1 := (HK2.out 1 _ rfl).1
  have y2 := (HK2.out 2 _ rfl).1
  have y3 := (HK2.out 3 _ rfl).1
  have y4 := (HK2.out 4 _ rfl).1
  have y5 := (HK2.out 5 _ rfl).1
  have y6 := (HK2.out 6 _ rfl).1
  have y7 := (HK2.out 7 _ rfl).1
  have y8 := (HK2.out 8 _ rfl).1
  go_wp2_with fail
  go_at_call 15
  refine hsa.mono ?_
  clear hsa
  rintro e w5 ⟨rfl, hb⟩
  have HB5 := Lib.hid (HBW.out.trans (hb.mono HBW.out.size))
  have HX5 := Lib.hid ((HX4.out.below HR3.out HS4.out).below hb HS4b.out)
  have HA5 := Lib.hid ((HA4.out.below HR3.out (Nat.lt_trans HL0.out HS4.out)).below hb (Nat.lt_trans HL0.out HS4b.out))
  have HG5 := Lib.hid (HG4.out.below hb)
  have HP5 := Lib.hid ((HR2.out.trans (HR3.out.mono HR2.out.size)).trans (hb.mono (Nat.le_trans HR2.out.size HR3.out.size)))
  have hsr := sameRq_any q A9 A n9 c9 q.hs.length ac w5 (H.Hdrs.below HH9.out HP5.out (Nat.le_refl _)) (H.Hdrs.below HDr.out HP5.out (Nat.le_refl _))
  unfold rqV at hsr
  clear hb x0 y0 x1 y1 x2 y2 x3 y3 x4 y4 x5 y5 x6 y6 x7 y7 x8 y8
  have x0 := (HX5.out 0 _ rfl).1
  have x1 := (HX5.out 1 _ rfl).1
  have x2 := (HX5.out 2 _ rfl).1
  have x3 := (HX5.out 3 _ rfl).1
  have y0 := (HA5.out 0 _ rfl).1
  have y1 := (HA5.out 1 _ rfl).1
  have y2 := (HA5.out 2 _ rfl).1
  have y3 := (HA5.out 3 _ rfl).1
  go_wp2_with fail
  go_at_call 19
  refine hsr.mono ?_
  clear hsr x0 x1 x2 x3 y0 y1 y2 y3
  rintro e w6 ⟨rfl, hb⟩
  have HB6 := Lib.hid (HB5.out.trans (hb.mono HB5.out.size))
  have haw3 := haw w6 (HG5.out.below hb)
  clear hb haw
  go_wp2_with (go_at_call 13; refine haw3.mono ?_; clear haw3; rintro e w7 ⟨rfl, hb⟩; have HB7 := Lib.hid (HB6.out.trans (hb.mono HB6.out.size)); clear hb)
  go_ret
  exact ⟨rfl, HB7.out⟩
 ·have HB1 := Lib.hid hb
  clear hb
  obtain ⟨w2q, hw2⟩ : ∃ y, w1'.alloc (.cells #[.int .i64 0, .int .i64 0, .string ⟨#[]⟩, .string ⟨#[]⟩, .int .i64 0, .int .u64 0, .slice none 0 0, .slice none 0 0, .slice none 0 0] 34) = y := ⟨_, rfl⟩
  have HLw2 : Hid (Below w1'.heap.size w1' w2q) := Lib.hid (by rw [← hw2]; exact (Below.refl _ _).alloc (Nat.le_refl _) _)
  have HK1 : Hid (Bk w2q w1'.heap.size [.int .i64 0, .int .i64 0, .string ⟨#[]⟩, .string ⟨#[]⟩, .int .i64 0, .int .u64 0, .slice none 0 0, .slice none 0 0, .slice none 0 0]) := Lib.hid (by rw [← hw2]; exact Bk.new w1' _ 34 rfl)
  have HSw2 : Hid (w1'.heap.size < w2q.heap.size) := Lib.hid (by rw [← hw2]; simp)
  have HEw2 := Lib.hid hw2
  clear hw2
  have HR2 := Lib.hid (HB1.out.trans (HLw2.out.mono HB1.out.size))
  have HX4 := Lib.hid (HXr.out.below HR2.out HSr.out)
  have HSa : Hid (w.heap.size < wr.heap.size) := Lib.hid (Nat.lt_trans HL0.out HSr.out)
  have HA4 := Lib.hid (HAr.out.below HR2.out HSa.out)
  have hr2 := RouteD_any q (.slice A q.hs.length ac) id w2q (H.Hdrs.below HDr.out HR2.out (Nat.le_refl _)) HZ.out
  unfold rqV at hr2
  rw [HXX.out] at hr2
  go_upto_region 4 with fail
  rw [HEw2.out]
  clear HEw2
  have x0 := (HA4.out 0 _ rfl).1
  have x1 := (HA4.out 1 _ rfl).1
  have x2 := (HA4.out 2 _ rfl).1
  have x3 := (HA4.out 3 _ rfl).1
  go_wp2_with fail
  go_at_call 18
  refine hr2.mono ?_
  clear hr2 x0 x1 x2 x3
  rintro e w3 ⟨hb, ⟨a', v, hx, rfl, hA⟩ | ⟨c', hx, rfl⟩⟩
  case inl => cases hx
  cases hx
  have HB2 := Lib.hid hb
  clear hb
  obtain ⟨w4, hw4⟩ : ∃ y, w3.alloc (.cells #[.int .i64 0, .int .i64 0, .string ⟨#[]⟩, .string ⟨#[]⟩, .int .i64 0, .int .u64 0, .slice none 0 0, .slice none 0 0, .slice none 0 0] 34) = y := ⟨_, rfl⟩
  have HLw4 : Hid (Below w3.heap.size w3 w4) := Lib.hid (by rw [← hw4]; exact (Below.refl _ _).alloc (Nat.le_refl _) _)
  have HK2 : Hid (Bk w4 w3.heap.size [.int .i64 0, .int .i64 0, .string ⟨#[]⟩, .string ⟨#[]⟩, .int .i64 0, .int .u64 0, .slice none 0 0, .slice none 0 0, .slice none 0 0]) := Lib.hid (by rw [← hw4]; exact Bk.new w3 _ 34 rfl)
  have HSw4 : Hid (w3.heap.size < w4.heap.size) := Lib.hid (by rw [← hw4]; simp)
  have HEw4 := Lib.hid hw4
  clear hw4
  have HR3 := Lib.hid (HB2.out.trans (HLw4.out.mono HB2.out.size))
  have HK1' := Lib.hid (HK1.out.below HR3.out HSw2.out)
  have HBW := Lib.hid (HB0r.out.trans ((HR2.out.trans (HR3.out.mono HR2.out.size)).mono HB0r.out.size))
  have HG4 := Lib.hid (HGr.out.below (HR2.out.trans (HR3.out.mono HR2.out.size)))
  have HS4 : Hid (w0.heap.size < w2q.heap.size) := Lib.hid (Nat.lt_of_lt_of_le HSr.out HR2.out.size)
  have HS4b : Hid (w0.heap.size < w4.heap.size) := Lib.hid (Nat.lt_of_lt_of_le HS4.out HR3.out.size)
  have hsa := sameAsk_any 0 0 0 [] [] 0 noC none none none 0 0 0 none none none 0 0 0 w4 (Sl.nil _) (Sl.nil _) (Sl.nil _) (Sl.nil _) (Sl.nil _) (Sl.nil _)
  dsimp only [noC, List.length_nil] at hsa
  have haw := awake_any awkC
  go_upto_region 5 with fail
  rw [HEw4.out]
  clear HEw4
  have x0 := (HK1'.out 0 _ rfl).1
  have x1 := (HK1'.out 1 _ rfl).1
  have x2 := (HK1'.out 2 _ rfl).1
  have x3 := (HK1'.out 3 _ rfl).1
  have x4 := (HK1'.out 4 _ rfl).1
  have x5 := (HK1'.out 5 _ rfl).1
  have x6 := (HK1'.out 6 _ rfl).1
  have x7 := (HK1'.out 7 _ rfl).1
  have x8 := (HK1'.out 8 _ rfl).1
  have y0 := (HK2.out 0 _ rfl).1
  have y1 := (HK2.out 1 _ rfl).1
  have y2 := (HK2.out 2 _ rfl).1
  have y3 := (HK2.out 3 _ rfl).1
  have y4 := (HK2.out 4 _ rfl).1
  have y5 := (HK2.out 5 _ rfl).1
  have y6 := (HK2.out 6 _ rfl).1
  have y7 := (HK2.out 7 _ rfl).1
  have y8 := (HK2.out 8 _ rfl).1
  go_wp2_with fail
  go_at_call 15
  refine hsa.mono ?_
  clear hsa
  rintro e w5 ⟨rfl, hb⟩
  have HB5 := Lib.hid (HBW.out.trans (hb.mono HBW.out.size))
  have HX5 := Lib.hid ((HX4.out.below HR3.out HS4.out).below hb HS4b.out)
  have HA5 := Lib.hid ((HA4.out.below HR3.out (Nat.lt_trans HL0.out HS4.out)).below hb (Nat.lt_trans HL0.out HS4b.out))
  have HG5 := Lib.hid (HG4.out.below hb)
  have HP5 := Lib.hid ((HR2.out.trans (HR3.out.mono HR2.out.size)).trans (hb.mono (Nat.le_trans HR2.out.size HR3.out.size)))
  have hsr := sameRq_any q A9 A n9 c9 q.hs.length ac w5 (H.Hdrs.below HH9.out HP5.out (Nat.le_refl _)) (H.Hdrs.below HDr.out HP5.out (Nat.le_refl _))
  unfold rqV at hsr
  clear hb x0 y0 x1 y1 x2 y2 x3 y3 x4 y4 x5 y5 x6 y6 x7 y7 x8 y8
  have x0 := (HX5.out 0 _ rfl).1
  have x1 := (HX5.out 1 _ rfl).1
  have x2 := (HX5.out 2 _ rfl).1
  have x3 := (HX5.out 3 _ rfl).1
  have y0 := (HA5.out 0 _ rfl).1
  have y1 := (HA5.out 1 _ rfl).1
  have y2 := (HA5.out 2 _ rfl).1
  have y3 := (HA5.out 3 _ rfl).1
  go_wp2_with fail
  go_at_call 19
  refine hsr.mono ?_
  clear hsr x0 x1 x2 x3 y0 y1 y2 y3
  rintro e w6 ⟨rfl, hb⟩
  have HB6 := Lib.hid (HB5.out.trans (hb.mono HB5.out.size))
  have haw3 := haw w6 (HG5.out.below hb)
  clear hb haw
  go_wp2_with (go_at_call 13; refine haw3.mono ?_; clear haw3; rintro e w7 ⟨rfl, hb⟩; have HB7 := Lib.hid (HB6.out.trans (hb.mono HB6.out.size)); clear hb)
  go_ret
  exact ⟨rfl, HB7.out⟩
end Go.Proofs.YtpdedfpacklnoaaGreatDoor
