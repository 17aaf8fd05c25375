/- Contracts of the document's above: aboveE; of items: itemsF. -/
import Derived.Test.YtpdedfpacklnoaaGreatDoorTqRfA
import Derived.BigQuiet
set_option maxRecDepth 100000
namespace Go.Proofs.YtpdedfpacklnoaaGreatDoor
open Go.RowKit Go.BL Go.Ct Go.Sl

theorem itemsF_le : ∀ (l : List En) (p : Option (List UInt8)), itemsF p l ≤ l.length
 | [], p => by cases p <;> exact Nat.le_refl 0
 | e :: r, none => by show 1 + itemsF (some e.it) r ≤ r.length + 1; have := itemsF_le r (some e.it); omega
 | e :: r, some s => by show (if s = e.it then 0 else 1) + itemsF (some e.it) r ≤ r.length + 1; have := itemsF_le r (some e.it); split <;> omega
end Go.Proofs.YtpdedfpacklnoaaGreatDoor
