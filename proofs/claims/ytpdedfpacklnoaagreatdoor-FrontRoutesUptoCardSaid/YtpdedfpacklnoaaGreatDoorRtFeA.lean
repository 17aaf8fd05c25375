/- Law 3: FrontEither. -/
import Derived.Test.YtpdedfpacklnoaaGreatDoorRtRouA
import Derived.Test.YtpdedfpacklnoaaGreatDoorRtRfI
import Derived.Test.YtpdedfpacklnoaaGreatDoorRtFbP
import Derived.Test.YtpdedfpacklnoaaGreatDoorRtSam
import Derived.Test.YtpdedfpacklnoaaGreatDoorRtTkV
import Derived.Test.YtpdedfpacklnoaaGreatDoorRtTkI
set_option maxRecDepth 100000
namespace Go.Proofs.YtpdedfpacklnoaaGreatDoor
open Go.RowKit Go.BL Go.Ct Go.Sl

/-- token.Read. -/
theorem token_any (s : List UInt8) (hl : s.length ≤ 1048576) (w : World) : Calls Tryz.prog 84 #[.string ⟨s.toArray⟩] w (TokR (tokenR s) w) := read_token item_any many_any s hl w
theorem routeA (q : Rq) (h : Value) (id : Int) (w : World) (hd : H.Hdrs w h q.hs) (hz : Small q) (hg : Gnd w) : Calls Tryz.prog 37 #[rqV q h, .int .i64 id] w (RouR (routeL q.m q.p (H.findL q.hs tokenH) q.b id) w) :=
 route_any q h id w hd ⟨hz.1, hz.2.1, fun x hx => (hz.2.2 x hx).1⟩ hg.env hg.errs hg.tab (fun s hs w => by
  obtain ⟨x, hx, e⟩ := find_mem hs
  exact token_any s (by rw [← e]; exact (hz.2.2 x hx).2) w)
/-- Route, of any request. -/
theorem RouteA (q : Rq) (h : Value) (id : Int) (w : World) (hd : H.Hdrs w h q.hs) (hz : Small q) (hg : Gnd w) : Calls Tryz.prog 11 #[rqV q h, .int .i64 id] w (RteR (routeL q.m q.p (H.findL q.hs tokenH) q.b id) w) :=
 Route_any q h id _ w (by obtain ⟨_, A, c, e, _⟩ := hd; exact ⟨A, _, c, e⟩) hg.ety (fun w1 hb => routeA q h id w1 (H.Hdrs.below hd hb (Nat.le_refl _)) hz (hg.below hb))
end Go.Proofs.YtpdedfpacklnoaaGreatDoor
