/- Contract of the document's line. -/
import Derived.Test.YtpdedfpacklnoaaGreatDoorRtML
namespace Go.Proofs.YtpdedfpacklnoaaGreatDoor
open Go.RowKit Go.BL Go.Ct Go.Sl Go.Fl

theorem key_any (A : List UInt8) (hA : A.length ≤ 9223372036854775807) (w : World) : Calls Tryz.prog 60 #[.string ⟨A.toArray⟩] w (RetV (.bool (keyL A)) w) := I.key_any ⟨A.toArray⟩ w hA
end Go.Proofs.YtpdedfpacklnoaaGreatDoor
