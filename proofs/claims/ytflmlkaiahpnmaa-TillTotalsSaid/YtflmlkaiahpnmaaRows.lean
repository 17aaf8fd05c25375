/-
  No cell of these rows narrows 'for every input' (looked for: loops, veiled, ifaces, maps, wideKeys, modest, calm, conditions, laid).
  DERIVED. THE GIVEN ROWS OF THIS SEAT. 6 by the template 'for every input the law returns true; each argument reads behind the call as it read before'; 0 by the template 'total and deterministic' (their statements: YtflmlkaiahpnmaaTotals.lean).
  GIVEN WITH THE SEED: the statements are not yours to turn. If you find one false, say at which input.
  Laid BY PROGRAM, IN A SANDBOX (cutbox-rows.mjs): the forced cells as the released guide's own fill.sh prints them over the translation 4b47de101e776901… (all of the seat's roots in one cut). By AI agents, Wed Nov 11 2026. No macro, syntax, notation, axiom, sorry.
-/
import Derived.Test.YtflmlkaiahpnmaaChecked
import GoSem.Claim
import GoSem.ClaimJoined
import GoSem.ClaimMapViews
import Derived.JoinedTies
import Derived.KernelRfl
namespace Go.Proofs.Ytflmlkaiahpnmaa
/- THE CELL 'sum', in the pinned program and in every row, IS THE sha256 OF THE DUMP (.gsa) THAT YtflmlkaiahpnmaaProg.lean LOADS. Nothing in Lean hashes anything: it is a label: what it is worth is what the hold of that sum in a sandbox is worth. -/
noncomputable def Try.pinned : Pinned := { name := "ytflmlkaiahpnmaa", sum := "4b47de101e776901e98e1b7522f90e1e0bb220668779c59d20be12e8150605fa", checked := Try.checked }
namespace Rows
def none {H : Type} : Left H := { results := [], args := [] }

/-- 'trolleylaw11.TillOff': WHATEVER THE INPUT: true; the input reads as it did. -/
def tillOffSpec : ChangeSpec := { name := "tillOff", fn := fun _ => fun
  | [d] => { results := [.lit (.bool true)], args := [d] }
  | _ => none }
def tillOffRow : OpenClaim := { program := "ytflmlkaiahpnmaa", sum := "4b47de101e776901e98e1b7522f90e1e0bb220668779c59d20be12e8150605fa", func := "trolley/trolleylaw11.TillOff", spec := "tillOff", inPlace := ["math.Float64frombits", "math.Float64bits"], apart := false }
def TillOffSaid : Prop := tillOffRow.holds Try.pinned (OpenSpec.ofChange tillOffSpec)

/-- ITS FALSE NEIGHBOUR: 'it returns false'. Refute it at one input. -/
def tillOffWrong : ChangeSpec := { name := "tillOff", fn := fun _ => fun
  | [d] => { results := [.lit (.bool false)], args := [d] }
  | _ => none }
def TillOffWrongFalsely : Prop := tillOffRow.holds Try.pinned (OpenSpec.ofChange tillOffWrong)

/-- 'trolleylaw11.TillNever': WHATEVER THE INPUT: true; the input reads as it did. -/
def tillNeverSpec : ChangeSpec := { name := "tillNever", fn := fun _ => fun
  | [d] => { results := [.lit (.bool true)], args := [d] }
  | _ => none }
def tillNeverRow : OpenClaim := { program := "ytflmlkaiahpnmaa", sum := "4b47de101e776901e98e1b7522f90e1e0bb220668779c59d20be12e8150605fa", func := "trolley/trolleylaw11.TillNever", spec := "tillNever", inPlace := ["math.Float64frombits", "math.Float64bits"], apart := false }
def TillNeverSaid : Prop := tillNeverRow.holds Try.pinned (OpenSpec.ofChange tillNeverSpec)

/-- ITS FALSE NEIGHBOUR: 'it returns false'. Refute it at one input. -/
def tillNeverWrong : ChangeSpec := { name := "tillNever", fn := fun _ => fun
  | [d] => { results := [.lit (.bool false)], args := [d] }
  | _ => none }
def TillNeverWrongFalsely : Prop := tillNeverRow.holds Try.pinned (OpenSpec.ofChange tillNeverWrong)

/-- 'trolleylaw11.TillOrders': WHATEVER THE INPUT: true; the input reads as it did. -/
def tillOrdersSpec : ChangeSpec := { name := "tillOrders", fn := fun _ => fun
  | [d1, d2] => { results := [.lit (.bool true)], args := [d1, d2] }
  | _ => none }
def tillOrdersRow : OpenClaim := { program := "ytflmlkaiahpnmaa", sum := "4b47de101e776901e98e1b7522f90e1e0bb220668779c59d20be12e8150605fa", func := "trolley/trolleylaw11.TillOrders", spec := "tillOrders", inPlace := ["math.Float64frombits"], apart := false }
def TillOrdersSaid : Prop := tillOrdersRow.holds Try.pinned (OpenSpec.ofChange tillOrdersSpec)

/-- ITS FALSE NEIGHBOUR: 'it returns false'. Refute it at one input. -/
def tillOrdersWrong : ChangeSpec := { name := "tillOrders", fn := fun _ => fun
  | [d1, d2] => { results := [.lit (.bool false)], args := [d1, d2] }
  | _ => none }
def TillOrdersWrongFalsely : Prop := tillOrdersRow.holds Try.pinned (OpenSpec.ofChange tillOrdersWrong)

/-- 'trolleylaw11.TillOrder': WHATEVER THE INPUT: true; the input reads as it did. -/
def tillOrderSpec : ChangeSpec := { name := "tillOrder", fn := fun _ => fun
  | [d1, d2, d3] => { results := [.lit (.bool true)], args := [d1, d2, d3] }
  | _ => none }
def tillOrderRow : OpenClaim := { program := "ytflmlkaiahpnmaa", sum := "4b47de101e776901e98e1b7522f90e1e0bb220668779c59d20be12e8150605fa", func := "trolley/trolleylaw11.TillOrder", spec := "tillOrder", inPlace := ["math.Float64frombits"], apart := false }
def TillOrderSaid : Prop := tillOrderRow.holds Try.pinned (OpenSpec.ofChange tillOrderSpec)

/-- ITS FALSE NEIGHBOUR: 'it returns false'. Refute it at one input. -/
def tillOrderWrong : ChangeSpec := { name := "tillOrder", fn := fun _ => fun
  | [d1, d2, d3] => { results := [.lit (.bool false)], args := [d1, d2, d3] }
  | _ => none }
def TillOrderWrongFalsely : Prop := tillOrderRow.holds Try.pinned (OpenSpec.ofChange tillOrderWrong)

/-- 'trolleylaw11.TillMeans': WHATEVER THE INPUT: true; the input reads as it did. -/
def tillMeansSpec : ChangeSpec := { name := "tillMeans", fn := fun _ => fun
  | [d] => { results := [.lit (.bool true)], args := [d] }
  | _ => none }
def tillMeansRow : OpenClaim := { program := "ytflmlkaiahpnmaa", sum := "4b47de101e776901e98e1b7522f90e1e0bb220668779c59d20be12e8150605fa", func := "trolley/trolleylaw11.TillMeans", spec := "tillMeans", inPlace := ["math.Float64frombits", "math.Float64bits"], apart := false }
def TillMeansSaid : Prop := tillMeansRow.holds Try.pinned (OpenSpec.ofChange tillMeansSpec)

/-- ITS FALSE NEIGHBOUR: 'it returns false'. Refute it at one input. -/
def tillMeansWrong : ChangeSpec := { name := "tillMeans", fn := fun _ => fun
  | [d] => { results := [.lit (.bool false)], args := [d] }
  | _ => none }
def TillMeansWrongFalsely : Prop := tillMeansRow.holds Try.pinned (OpenSpec.ofChange tillMeansWrong)

/-- 'trolleylaw11.TillTotals': WHATEVER THE INPUT: true; the input reads as it did. -/
def tillTotalsSpec : ChangeSpec := { name := "tillTotals", fn := fun _ => fun
  | [d1, d2, d3] => { results := [.lit (.bool true)], args := [d1, d2, d3] }
  | _ => none }
def tillTotalsRow : OpenClaim := { program := "ytflmlkaiahpnmaa", sum := "4b47de101e776901e98e1b7522f90e1e0bb220668779c59d20be12e8150605fa", func := "trolley/trolleylaw11.TillTotals", spec := "tillTotals", inPlace := ["math.Float64frombits", "math.Float64bits"], apart := false }
def TillTotalsSaid : Prop := tillTotalsRow.holds Try.pinned (OpenSpec.ofChange tillTotalsSpec)

/-- ITS FALSE NEIGHBOUR: 'it returns false'. Refute it at one input. -/
def tillTotalsWrong : ChangeSpec := { name := "tillTotals", fn := fun _ => fun
  | [d1, d2, d3] => { results := [.lit (.bool false)], args := [d1, d2, d3] }
  | _ => none }
def TillTotalsWrongFalsely : Prop := tillTotalsRow.holds Try.pinned (OpenSpec.ofChange tillTotalsWrong)

/- THE SECOND FORM. 'bulk': how many values and letters a reading holds, each counted each time it is reached (what is shared counts as often as it is met; a slice's spare places count too). A statement '..UptoSaid' is the law's where the arguments, and the package variables that the reading takes, are together of bulk at most 1048576: NARROWER than '..Said'. Prove '..Said' where nothing that the law and all that it calls make is longer than what came in: it says more and counts as full. Else prove '..UptoSaid'. A law counts once. -/
mutual
def uptoBulk {H : Type} : DataW H → Nat
  | .lit (.string bytes) => bytes.length + 1
  | .lit _ => 1
  | .nil => 1
  | .ptr d => uptoBulk d + 1
  | .slice elems spare => uptoBulkAll elems + uptoBulkAll spare + 1
  | .agg parts => uptoBulkAll parts + 1
  | .iface _ d => uptoBulk d + 1
  | .map entries => uptoBulkEntries entries + 1
  | .held _ => 1
def uptoBulkAll {H : Type} : List (DataW H) → Nat
  | [] => 0
  | d :: r => uptoBulk d + uptoBulkAll r
def uptoBulkEntries {H : Type} : List (Lit × DataW H) → Nat
  | [] => 0
  | x :: r => uptoBulkEntry x + uptoBulkEntries r
def uptoBulkEntry {H : Type} : Lit × DataW H → Nat
  | (.string bytes, d) => bytes.length + uptoBulk d + 1
  | (_, d) => uptoBulk d + 1
 end
def uptoSmall : (H : Type) → List (DataW H) → Bool := fun _ ds => decide (uptoBulkAll ds ≤ 1048576)
def OpenSpec.upto (s : _root_.Go.ChangeSpec) : _root_.Go.OpenSpec := { _root_.Go.OpenSpec.ofChange s with cond := some uptoSmall }

/-- 'trolleylaw11.TillOff', WHERE WHAT IT READS IS OF BULK AT MOST 1048576: true; the input reads as it did. -/
def tillOffUptoRow : OpenClaim := { program := "ytflmlkaiahpnmaa", sum := "4b47de101e776901e98e1b7522f90e1e0bb220668779c59d20be12e8150605fa", func := "trolley/trolleylaw11.TillOff", spec := "tillOff", inPlace := ["math.Float64frombits", "math.Float64bits"], apart := false, narrowed := true }
def TillOffUptoSaid : Prop := tillOffUptoRow.holds Try.pinned (OpenSpec.upto tillOffSpec)

/-- 'trolleylaw11.TillNever', WHERE WHAT IT READS IS OF BULK AT MOST 1048576: true; the input reads as it did. -/
def tillNeverUptoRow : OpenClaim := { program := "ytflmlkaiahpnmaa", sum := "4b47de101e776901e98e1b7522f90e1e0bb220668779c59d20be12e8150605fa", func := "trolley/trolleylaw11.TillNever", spec := "tillNever", inPlace := ["math.Float64frombits", "math.Float64bits"], apart := false, narrowed := true }
def TillNeverUptoSaid : Prop := tillNeverUptoRow.holds Try.pinned (OpenSpec.upto tillNeverSpec)

/-- 'trolleylaw11.TillOrders', WHERE WHAT IT READS IS OF BULK AT MOST 1048576: true; the input reads as it did. -/
def tillOrdersUptoRow : OpenClaim := { program := "ytflmlkaiahpnmaa", sum := "4b47de101e776901e98e1b7522f90e1e0bb220668779c59d20be12e8150605fa", func := "trolley/trolleylaw11.TillOrders", spec := "tillOrders", inPlace := ["math.Float64frombits"], apart := false, narrowed := true }
def TillOrdersUptoSaid : Prop := tillOrdersUptoRow.holds Try.pinned (OpenSpec.upto tillOrdersSpec)

/-- 'trolleylaw11.TillOrder', WHERE WHAT IT READS IS OF BULK AT MOST 1048576: true; the input reads as it did. -/
def tillOrderUptoRow : OpenClaim := { program := "ytflmlkaiahpnmaa", sum := "4b47de101e776901e98e1b7522f90e1e0bb220668779c59d20be12e8150605fa", func := "trolley/trolleylaw11.TillOrder", spec := "tillOrder", inPlace := ["math.Float64frombits"], apart := false, narrowed := true }
def TillOrderUptoSaid : Prop := tillOrderUptoRow.holds Try.pinned (OpenSpec.upto tillOrderSpec)

/-- 'trolleylaw11.TillMeans', WHERE WHAT IT READS IS OF BULK AT MOST 1048576: true; the input reads as it did. -/
def tillMeansUptoRow : OpenClaim := { program := "ytflmlkaiahpnmaa", sum := "4b47de101e776901e98e1b7522f90e1e0bb220668779c59d20be12e8150605fa", func := "trolley/trolleylaw11.TillMeans", spec := "tillMeans", inPlace := ["math.Float64frombits", "math.Float64bits"], apart := false, narrowed := true }
def TillMeansUptoSaid : Prop := tillMeansUptoRow.holds Try.pinned (OpenSpec.upto tillMeansSpec)

/-- 'trolleylaw11.TillTotals', WHERE WHAT IT READS IS OF BULK AT MOST 1048576: true; the input reads as it did. -/
def tillTotalsUptoRow : OpenClaim := { program := "ytflmlkaiahpnmaa", sum := "4b47de101e776901e98e1b7522f90e1e0bb220668779c59d20be12e8150605fa", func := "trolley/trolleylaw11.TillTotals", spec := "tillTotals", inPlace := ["math.Float64frombits", "math.Float64bits"], apart := false, narrowed := true }
def TillTotalsUptoSaid : Prop := tillTotalsUptoRow.holds Try.pinned (OpenSpec.upto tillTotalsSpec)

end Rows
end Go.Proofs.Ytflmlkaiahpnmaa
