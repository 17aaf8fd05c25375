/- route at the request of awake. -/
import Derived.Test.YtpdedfpacklnoaaGreatDoorTzRou
import Derived.Test.YtpdedfpacklnoaaGreatDoorTzMR
namespace Go.Proofs.YtpdedfpacklnoaaGreatDoor
theorem awkC : AwkC := fun w h => route_any awkQ (.slice none 0 0) 7 w ⟨by decide, none, 0, rfl, fun h => absurd h (by decide)⟩ ⟨by decide, by decide, fun x hx => by cases hx⟩ h.env h.errs h.tab (fun s hs => by cases hs)
end Go.Proofs.YtpdedfpacklnoaaGreatDoor
