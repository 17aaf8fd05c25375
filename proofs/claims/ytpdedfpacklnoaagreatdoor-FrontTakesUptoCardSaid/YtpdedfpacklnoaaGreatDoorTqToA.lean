/- Law 9: FrontToken; premises: the contracts of token.Make, front.Route, trolleyplain.Cart. -/
import Derived.Test.YtpdedfpacklnoaaGreatDoorTqAnA
import Derived.Test.YtpdedfpacklnoaaGreatDoorTqRdP
import Derived.Test.YtpdedfpacklnoaaGreatDoorTqSam
set_option maxRecDepth 100000
namespace Go.Proofs.YtpdedfpacklnoaaGreatDoor
open Go.RowKit Go.BL Go.Ct Go.Sl

def MakeC : Prop := ∀ (c : Ct) (ev mv cv : Value) (w : World), Ents w ev c.es → Dots w mv c.x.ms → Dots w cv c.x.cl → (∀ A n c, ev = .slice A n c → n ≤ c) → (∀ e ∈ c.es, e.it.length ≤ 1073741824 ∧ e.p < 18446744073709551616) → Calls Tryz.prog 69 #[.agg #[ev, mv, cv]] w (MkA c w)
end Go.Proofs.YtpdedfpacklnoaaGreatDoor
