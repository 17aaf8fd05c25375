/- Law 3: FrontEither. -/
import Derived.Test.YtpdedfpacklnoaaGreatDoorRouA
import Derived.Test.YtpdedfpacklnoaaGreatDoorRfI
import Derived.Test.YtpdedfpacklnoaaGreatDoorFbP
import Derived.Test.YtpdedfpacklnoaaGreatDoorSam
import Derived.Test.YtpdedfpacklnoaaGreatDoorTkT
import Derived.Test.YtpdedfpacklnoaaGreatDoorTkI
import Derived.Test.YtpdedfpacklnoaaGreatDoorTkJ
set_option maxRecDepth 100000
namespace Go.Proofs.YtpdedfpacklnoaaGreatDoor
open Go.RowKit Go.BL Go.Ct Go.Sl

/-- token.Read. -/
theorem token_any (s : List UInt8) (hl : s.length ≤ 1048576) (w : World) : Calls Tryz.prog 84 #[.string ⟨s.toArray⟩] w (TokR (tokenR s) w) := read_token item_any many_any s hl w
theorem routeA (q : Rq) (h : Value) (id : Int) (w : World) (hd : H.Hdrs w h q.hs) (hz : Small q) (hg : Gnd w) : Calls Tryz.prog 37 #[rqV q h, .int .i64 id] w (RouR (routeL q.m q.p (H.findL q.hs tokenH) q.b id) w) :=
  route_any q h id w hd ⟨hz.1, hz.2.1, fun x hx => (hz.2.2 x hx).1⟩ hg.env hg.errs hg.tab (fun s hs w => by
    obtain ⟨x, hx, e⟩ := find_mem hs
    exact token_any s (by rw [← e]; exact (hz.2.2 x hx).2) w)
/-- Route, of any request. -/
theorem RouteA (q : Rq) (h : Value) (id : Int) (w : World) (hd : H.Hdrs w h q.hs) (hz : Small q) (hg : Gnd w) : Calls Tryz.prog 11 #[rqV q h, .int .i64 id] w (RteR (routeL q.m q.p (H.findL q.hs tokenH) q.b id) w) :=
  Route_any q h id _ w (by obtain ⟨_, A, c, e, _⟩ := hd; exact ⟨A, _, c, e⟩) hg.ety (fun w1 hb => routeA q h id w1 (H.Hdrs.below hd hb (Nat.le_refl _)) hz (hg.below hb))
set_option maxHeartbeats 16000000 in
theorem either_law (q : Rq) (h : Value) (id : Int) (w : World) (hd : H.Hdrs w h q.hs) (hz : Small q) (hg : Gnd w) : Calls Tryz.prog 3 #[rqV q h, .int .i64 id] w (RetV (.bool true) w) := by
  obtain ⟨A, ac, rfl⟩ : ∃ A c, h = .slice A q.hs.length c := by obtain ⟨_, A, c, e, _⟩ := hd; exact ⟨A, c, e⟩
  obtain ⟨w0, hw0⟩ : ∃ w0, w.alloc (.cells #[.string ⟨q.m.toArray⟩, .string ⟨q.p.toArray⟩, .slice A q.hs.length ac, .string ⟨q.b.toArray⟩] 24) = w0 := ⟨_, rfl⟩
  have HB0 : Hid (Below w.heap.size w w0) := Lib.hid (by rw [← hw0]; exact (Below.refl _ _).alloc (Nat.le_refl _) _)
  have HBa : Hid (Bk w0 w.heap.size [.string ⟨q.m.toArray⟩, .string ⟨q.p.toArray⟩, .slice A q.hs.length ac, .string ⟨q.b.toArray⟩]) := Lib.hid (by rw [← hw0]; exact Bk.new w _ 24 rfl)
  have hr := RouteA q _ id w0 (H.Hdrs.below hd HB0.out (Nat.le_refl _)) hz (hg.below HB0.out)
  have haw := awake_any awkC
  have HG := Lib.hid hg
  unfold rqV at hr ⊢
  clear hd hz hg
  obtain ⟨X, hX⟩ : ∃ y, routeL q.m q.p (H.findL q.hs tokenH) q.b id = y := ⟨_, rfl⟩
  rw [hX] at hr
  have HX := Lib.hid hX
  clear hX
  go_enter Tryz.func3, Tryz.ntmps3
  go_upto_region 1 with fail
  clear hw0
  have x0 := (HBa.out 0 _ rfl).1
  have x1 := (HBa.out 1 _ rfl).1
  have x2 := (HBa.out 2 _ rfl).1
  have x3 := (HBa.out 3 _ rfl).1
  go_wp2_with fail
  go_at_call 11
  refine hr.mono ?_
  clear hr x0 x1 x2 x3
  rintro e w1 ⟨hb, ⟨a, v, rfl, rfl, hA⟩ | ⟨c, rfl, rfl⟩⟩
  · obtain ⟨e1, m1, c1, rfl, he, hm, hc⟩ := hA
    obtain ⟨E1, a1, rfl⟩ := he.form
    obtain ⟨M1, b1, rfl⟩ := hm.form
    obtain ⟨D1, d1, rfl⟩ := hc.form
    have hok := route_ok HX.out
    have HB1 := Lib.hid (HB0.out.trans (hb.mono HB0.out.size))
    obtain ⟨w2, hw2⟩ : ∃ y, w1.alloc (.cells #[.int .i64 a.id, .int .i64 (a.kind : Int), .string ⟨a.key.toArray⟩, .string ⟨a.item.toArray⟩, .int .i64 (a.qty : Int), .int .u64 (a.price : Int), .slice E1 a.seen.es.length a1, .slice M1 a.seen.x.ms.length b1, .slice D1 a.seen.x.cl.length d1] 34) = y := ⟨_, rfl⟩
    have HL2 : Hid (Below w1.heap.size w1 w2) := Lib.hid (by rw [← hw2]; exact (Below.refl _ _).alloc (Nat.le_refl _) _)
    have HB2 := Lib.hid (HB1.out.trans (HL2.out.mono HB1.out.size))
    have HBk : Hid (Bk w2 w1.heap.size [.int .i64 a.id, .int .i64 (a.kind : Int), .string ⟨a.key.toArray⟩, .string ⟨a.item.toArray⟩, .int .i64 (a.qty : Int), .int .u64 (a.price : Int), .slice E1 a.seen.es.length a1, .slice M1 a.seen.x.ms.length b1, .slice D1 a.seen.x.cl.length d1]) := Lib.hid (by rw [← hw2]; exact Bk.new w1 _ 34 rfl)
    have hn := cart_names hok.2.2.2
    have hcan := canR_any a.seen.es a.seen.x _ _ _ w2 ((he.below HL2.out (Nat.le_refl _)).sl entC_len (by have := (can_iff hok.2.2.2).2.1; omega)) ((hm.below HL2.out (Nat.le_refl _)).sl dotC_len (by have := canX_iff.1 (can_iff hok.2.2.2).1; have := this.1; omega)) ((hc.below HL2.out (Nat.le_refl _)).sl dotC_len (by have := canX_iff.1 (can_iff hok.2.2.2).1; have := this.2.1; omega)) (own_cap he) (fun e he => by have := name_len (hn e he).1; omega)
    rw [show canC ⟨a.seen.es, a.seen.x⟩ = 0 from hok.2.2.2] at hcan
    obtain ⟨h1, h2, h3, h4⟩ := hok
    have g1 : decide ((1 : Int) ≤ (a.kind : Int)) = true := decide_eq_true (by omega)
    have g2 : decide ((a.kind : Int) ≤ 3) = true := decide_eq_true (by omega)
    have g3 : (a.id == id) = true := beq_iff_eq.2 h1
    clear he hm hc hb hn h2 h3 h4 h1
    go_upto_region 3 with fail
    clear hw2
    have x0 := (HBk.out 0 _ rfl).1
    have x1 := (HBk.out 1 _ rfl).1
    have x2 := (HBk.out 2 _ rfl).1
    have x3 := (HBk.out 3 _ rfl).1
    have x4 := (HBk.out 4 _ rfl).1
    have x5 := (HBk.out 5 _ rfl).1
    have x6 := (HBk.out 6 _ rfl).1
    have x7 := (HBk.out 7 _ rfl).1
    have x8 := (HBk.out 8 _ rfl).1
    go_wp2_with fail
    go_at_call 12
    refine hcan.mono ?_
    clear hcan
    rintro e w3 ⟨rfl, hb⟩
    have HB3 := Lib.hid (HB2.out.trans (hb.mono HB2.out.size))
    have haw3 := haw w3 (HG.out.below HB3.out)
    clear hb haw
    go_wp2_with (go_at_call 13; refine haw3.mono ?_; clear haw3; rintro e w4 ⟨rfl, hb⟩; have HB4 := Lib.hid (HB3.out.trans (hb.mono HB3.out.size)); clear hb)
    go_ret
    exact ⟨rfl, HB4.out⟩
  · have herr := route_err HX.out
    have HB1 := Lib.hid (HB0.out.trans (hb.mono HB0.out.size))
    have HB2 := Lib.hid (HB1.out.alloc HB1.out.size (.cells #[.int .i64 0, .int .i64 0, .string ⟨#[]⟩, .string ⟨#[]⟩, .int .i64 0, .int .u64 0, .slice none 0 0, .slice none 0 0, .slice none 0 0] 34))
    obtain ⟨w2, hw2⟩ : ∃ y, w1.alloc (.cells #[.int .i64 0, .int .i64 0, .string ⟨#[]⟩, .string ⟨#[]⟩, .int .i64 0, .int .u64 0, .slice none 0 0, .slice none 0 0, .slice none 0 0] 34) = y := ⟨_, rfl⟩
    rw [hw2] at HB2
    have hz2 : w2.heap.size = w1.heap.size + 1 := by rw [← hw2]; simp
    obtain ⟨w3, hw3⟩ : ∃ y, w2.alloc (.cells #[.int .i64 400, .int .i64 404, .int .i64 405] 3) = y := ⟨_, rfl⟩
    have HB3 : Hid (Below w.heap.size w w3) := Lib.hid (by rw [← hw3]; exact HB2.out.alloc HB2.out.size _)
    have HBk : Hid (Bk w3 w1.heap.size [.int .i64 0, .int .i64 0, .string ⟨#[]⟩, .string ⟨#[]⟩, .int .i64 0, .int .u64 0, .slice none 0 0, .slice none 0 0, .slice none 0 0]) := Lib.hid (by rw [← hw3, ← hw2]; exact (Bk.new w1 [.int .i64 0, .int .i64 0, .string ⟨#[]⟩, .string ⟨#[]⟩, .int .i64 0, .int .u64 0, .slice none 0 0, .slice none 0 0, .slice none 0 0] 34 rfl).alloc _ (by simp))
    have HBc : Hid (Bk w3 w2.heap.size [.int .i64 400, .int .i64 404, .int .i64 405]) := Lib.hid (by rw [← hw3]; exact Bk.new w2 _ 3 rfl)
    have hne : ((c : Int) == 0) = false := beq_false_of_ne (by omega)
    have hcc : ([400, 404, 405] : List Int).contains (c : Int) = true := by rcases herr with rfl | rfl | rfl <;> decide
    have HW2 := Lib.hid hw2
    have HW3 := Lib.hid hw3
    clear hb herr hw2 hw3
    have hct := Tryz.slices_Contains_int w2.heap.size 0 3 3 [400, 404, 405] (c : Int) w3 (by decide) (by decide) (fun j hj => by
      have hj' : j < 3 := hj
      rcases (by omega : j = 0 ∨ j = 1 ∨ j = 2) with rfl | rfl | rfl
      · exact (HBc.out 0 _ rfl).1
      · exact (HBc.out 1 _ rfl).1
      · exact (HBc.out 2 _ rfl).1)
    rw [show ([400, 404, 405] : List Int).take 3 = [400, 404, 405] from rfl, hcc, hz2] at hct
    have hsa := sameAsk_any 0 0 0 [] [] 0 noC none none none 0 0 0 none none none 0 0 0 w3 (Sl.nil _) (Sl.nil _) (Sl.nil _) (Sl.nil _) (Sl.nil _) (Sl.nil _)
    dsimp only [noC, List.length_nil] at hsa
    have x0 := (HBk.out 0 _ rfl).1
    have x1 := (HBk.out 1 _ rfl).1
    have x2 := (HBk.out 2 _ rfl).1
    have x3 := (HBk.out 3 _ rfl).1
    have x4 := (HBk.out 4 _ rfl).1
    have x5 := (HBk.out 5 _ rfl).1
    have x6 := (HBk.out 6 _ rfl).1
    have x7 := (HBk.out 7 _ rfl).1
    have x8 := (HBk.out 8 _ rfl).1
    go_upto_region 4 with fail
    go_wp2_with fail
    rw [HW2.out, HW3.out]
    go_at_call 14
    refine hct.mono ?_
    clear hct HW2 HW3
    rintro e w4 ⟨rfl, rfl⟩
    go_wp2_with fail
    go_at_call 15
    refine hsa.mono ?_
    clear hsa
    rintro e w5 ⟨rfl, hb⟩
    have HB5 := Lib.hid (HB3.out.trans (hb.mono HB3.out.size))
    have haw3 := haw w5 (HG.out.below HB5.out)
    clear hb haw
    go_wp2_with (go_at_call 13; refine haw3.mono ?_; clear haw3; rintro e w4 ⟨rfl, hb⟩; have HB4 := Lib.hid (HB5.out.trans (hb.mono HB5.out.size)); clear hb)
    go_ret
    exact ⟨rfl, HB4.out⟩
end Go.Proofs.YtpdedfpacklnoaaGreatDoor
