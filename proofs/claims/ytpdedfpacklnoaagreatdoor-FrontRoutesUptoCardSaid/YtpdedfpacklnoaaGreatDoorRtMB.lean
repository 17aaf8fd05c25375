/- Contract of the document's Parse. DERIVED: THE SHELF's CONTRACTS AT THIS DUMP, IN PLAIN WORDS (tools/lay-plain.mjs out of 'TryzShelf.lean', which tools/lay-shelf.mjs wrote): THE SAME DECLARATION Contr -/
import Derived.Test.YtpdedfpacklnoaaGreatDoorRtLnL
import Derived.Shelf.Strings.Builder1
import Derived.Test.YtpdedfpacklnoaaGreatDoorProg
import Derived.Test.YtpdedfpacklnoaaGreatDoorRtML
import Derived.Test.YtpdedfpacklnoaaGreatDoorRtMP
namespace Go.Proofs.YtpdedfpacklnoaaGreatDoor
open Go.RowKit Go.BL Go.Ct Go.Sl Go.Shelf

/-- Whatever is no row of bytes, and not this block, lies as it lay. -/
def Oth (b : Nat) (w w' : World) : Prop := ∀ (g : Nat) (o : Obj), w.heap[g]? = some o → g ≠ b → (∀ cur fz, o ≠ .cells cur 5 fz) → w'.heap[g]? = some o
theorem Oth.trans {b : Nat} {w w1 w2 : World} (h : Oth b w w1) (k : Oth b w1 w2) : Oth b w w2 := fun g o hg hn ho => k g o (h g o hg hn ho) hn ho
end Go.Proofs.YtpdedfpacklnoaaGreatDoor
