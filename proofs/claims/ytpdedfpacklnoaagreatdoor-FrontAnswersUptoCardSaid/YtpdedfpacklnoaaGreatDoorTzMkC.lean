/- The contract of token.Make, as the laws want it. -/
import Derived.Test.YtpdedfpacklnoaaGreatDoorTzEnB
import Derived.Test.YtpdedfpacklnoaaGreatDoorTzToA
namespace Go.Proofs.YtpdedfpacklnoaaGreatDoor
open Go.RowKit Go.BL Go.Ct Go.Sl

theorem makeC : MakeC := fun c ev mv cv w he hm hc hcp hsl => make_any c.es c.x ev mv cv w he hm hc hcp hsl
end Go.Proofs.YtpdedfpacklnoaaGreatDoor
