/- Law 9: FrontToken; premises: the contracts of token.Make, front.Route, trolleyplain.Cart. -/
import Derived.Test.YtpdedfpacklnoaaGreatDoorTzAnA
import Derived.Test.YtpdedfpacklnoaaGreatDoorTzRdP
import Derived.Test.YtpdedfpacklnoaaGreatDoorTzSam
set_option maxRecDepth 100000
namespace Go.Proofs.YtpdedfpacklnoaaGreatDoor
open Go.RowKit Go.BL Go.Ct Go.Sl

def MakeC : Prop := ∀ (c : Ct) (ev mv cv : Value) (w : World), Ents w ev c.es → Dots w mv c.x.ms → Dots w cv c.x.cl → (∀ A n c, ev = .slice A n c → n ≤ c) → (∀ e ∈ c.es, e.it.length ≤ 1073741824 ∧ e.p < 18446744073709551616) → Calls Tryz.prog 69 #[.agg #[ev, mv, cv]] w (MkA c w)
def PlainR (c : Ct) (w : World) (e : Ending) (w' : World) : Prop := ∃ ev m k, e = .returned (.agg #[ev, m, k]) ∧ OwnS 92 6 entC w' w.heap.size ev c.es ∧ OwnS 150 3 dotC w' w.heap.size m c.x.ms ∧ OwnS 90 3 dotC w' w.heap.size k c.x.cl ∧ Below w.heap.size w w'
def PlainC : Prop := ∀ (c : Ct) (ev mv cv : Value) (w : World), Ents w ev c.es → Dots w mv c.x.ms → Dots w cv c.x.cl → c.es.length ≤ 1000000 → c.x.ms.length ≤ 1000000 → c.x.cl.length ≤ 1000000 → Calls Tryz.prog 28 #[.agg #[ev, mv, cv]] w (PlainR c w)
end Go.Proofs.YtpdedfpacklnoaaGreatDoor
