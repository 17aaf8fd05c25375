/- Contracts of slices.Equal, SameContext, SameCart, sameAsk at one and the same: they say yes. -/
import Derived.Test.YtpdedfpacklnoaaGreatDoorTqMR
import Derived.Test.YtpdedfpacklnoaaGreatDoorTqMB
import Derived.Test.YtpdedfpacklnoaaGreatDoorTqFbP
set_option maxRecDepth 100000
namespace Go.Proofs.YtpdedfpacklnoaaGreatDoor
open Go.RowKit Go.BL Go.Ct Go.Sl

theorem name_len {s : List UInt8} (h : isName s = true) : s.length ≤ 32 := by
 simp only [isName, Bool.and_eq_true, decide_eq_true_eq] at h
 exact h.1.2
end Go.Proofs.YtpdedfpacklnoaaGreatDoor
