/- route at the request of awake. Route, of any request (token.Read's contract put in). -/
import Derived.Test.YtpdedfpacklnoaaGreatDoorTkRou
import Derived.Test.YtpdedfpacklnoaaGreatDoorTkMR
import Derived.Test.YtpdedfpacklnoaaGreatDoorTkSam
import Derived.Test.YtpdedfpacklnoaaGreatDoorTkTkV
import Derived.Test.YtpdedfpacklnoaaGreatDoorTkTkI
namespace Go.Proofs.YtpdedfpacklnoaaGreatDoor
theorem awkC : AwkC := fun w h => route_any awkQ (.slice none 0 0) 7 w ⟨by decide, none, 0, rfl, fun h => absurd h (by decide)⟩ ⟨by decide, by decide, fun x hx => by cases hx⟩ h.env h.errs h.tab (fun s hs => by cases hs)
end Go.Proofs.YtpdedfpacklnoaaGreatDoor
set_option maxRecDepth 100000
namespace Go.Proofs.YtpdedfpacklnoaaGreatDoor
open Go.RowKit Go.BL Go.Ct Go.Sl

/-- token.Read. -/
theorem tokenB (s : List UInt8) (hl : s.length ≤ 1048576) (w : World) : Calls Tryz.prog 84 #[.string ⟨s.toArray⟩] w (TokR (tokenR s) w) := read_token item_any many_any s hl w
theorem routeB (q : Rq) (h : Value) (id : Int) (w : World) (hd : H.Hdrs w h q.hs) (hz : Small q) (hg : Gnd w) : Calls Tryz.prog 37 #[rqV q h, .int .i64 id] w (RouR (routeL q.m q.p (H.findL q.hs tokenH) q.b id) w) :=
 route_any q h id w hd ⟨hz.1, hz.2.1, fun x hx => (hz.2.2 x hx).1⟩ hg.env hg.errs hg.tab (fun s hs w => by
  obtain ⟨x, hx, e⟩ := find_mem hs
  exact tokenB s (by rw [← e]; exact (hz.2.2 x hx).2) w)
theorem RouteB (q : Rq) (h : Value) (id : Int) (w : World) (hd : H.Hdrs w h q.hs) (hz : Small q) (hg : Gnd w) : Calls Tryz.prog 11 #[rqV q h, .int .i64 id] w (RteR (routeL q.m q.p (H.findL q.hs tokenH) q.b id) w) :=
 Route_any q h id _ w (by obtain ⟨_, A, c, e, _⟩ := hd; exact ⟨A, _, c, e⟩) hg.ety (fun w1 hb => routeB q h id w1 (H.Hdrs.below hd hb (Nat.le_refl _)) hz (hg.below hb))
end Go.Proofs.YtpdedfpacklnoaaGreatDoor
