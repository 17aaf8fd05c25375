/-
  NARROWER THAN 'FOR EVERY INPUT', by the rows' own cells (each row's printed sentence says how): IdentBytes: laid · IdentNames: laid · IdentHalves: laid · IdentHashes: laid · IdentParts: laid · IdentBeside: laid · IdentBack: laid.
  DERIVED. THE GIVEN ROWS OF THIS SEAT. 7 by the template 'for every input the law returns true; each argument reads behind the call as it read before'; 0 by the template 'total and deterministic' (their statements: YtikaikleibfkeaaDoorTotals.lean).
  GIVEN WITH THE SEED: the statements are not yours to turn. If you find one false, say at which input.
  Laid BY PROGRAM, IN A SANDBOX (cutbox-rows.mjs): the forced cells as the released guide's own fill.sh prints them over the translation 3ba60a0abbc18f41… (all of the seat's roots in one cut). By AI agents, Wed Nov 11 2026. No macro, syntax, notation, axiom, sorry.
-/
import Derived.Test.YtikaikleibfkeaaDoorChecked
import GoSem.Claim
import GoSem.ClaimJoined
import GoSem.ClaimMapViews
import Derived.JoinedTies
import Derived.KernelRfl
namespace Go.Proofs.YtikaikleibfkeaaDoor
/- THE CELL 'sum', in the pinned program and in every row, IS THE sha256 OF THE DUMP (.gsa) THAT YtikaikleibfkeaaDoorProg.lean LOADS. Nothing in Lean hashes anything: it is a label: what it is worth is what the hold of that sum in a sandbox is worth. -/
noncomputable def Tryd.pinned : Pinned := { name := "ytikaikleibfkeaadoor", sum := "3ba60a0abbc18f41c7557630a1c517b9609fb5eb8c2e6037d4d6bef77d32c337", checked := Tryd.checked }
namespace Rows
def none {H : Type} : Left H := { results := [], args := [] }

/- WHAT THE LISTED PACKAGE-LEVEL VARIABLES READ AS WHEN THE CALL BEGINS. Each datum BY PROGRAM (the guide's laid-datum.mjs) off the statement by which the dump's own 'gosem.cut.vars' lays the variable. In a bare row this is a premise. The card (YtikaikleibfkeaaDoorCards.lean) ties it to the program's text. -/
def laid_trolley_ident_names {H : Type} : DataW H := .agg [.lit (.string [110, 48]), .lit (.string [110, 49]), .lit (.string [110, 50]), .lit (.string [110, 51]), .lit (.string [110, 52]), .lit (.string [110, 53]), .lit (.string [110, 54]), .lit (.string [110, 55])]

/-- 'trolleylaw04.IdentBytes': WHATEVER THE INPUT: true; the input reads as it did. -/
def identBytesSpec : ChangeSpec := { name := "identBytes", fn := fun _ => fun
  | [d1, d2] => { results := [.lit (.bool true)], args := [d1, d2] }
  | _ => none }
def identBytesRow : OpenClaim := { program := "ytikaikleibfkeaadoor", sum := "3ba60a0abbc18f41c7557630a1c517b9609fb5eb8c2e6037d4d6bef77d32c337", func := "trolley/trolleylaw04.IdentBytes", spec := "identBytes", named := ["trolley/ident.names"], apart := false, laid := [("trolley/ident.names", laid_trolley_ident_names)] }
def IdentBytesSaid : Prop := identBytesRow.holds Tryd.pinned (OpenSpec.ofChange identBytesSpec)

/-- ITS FALSE NEIGHBOUR: 'it returns false'. Refute it at one input. -/
def identBytesWrong : ChangeSpec := { name := "identBytes", fn := fun _ => fun
  | [d1, d2] => { results := [.lit (.bool false)], args := [d1, d2] }
  | _ => none }
def IdentBytesWrongFalsely : Prop := identBytesRow.holds Tryd.pinned (OpenSpec.ofChange identBytesWrong)

/-- 'trolleylaw04.IdentNames': WHATEVER THE INPUT: true; the input reads as it did. -/
def identNamesSpec : ChangeSpec := { name := "identNames", fn := fun _ => fun
  | [d1, d2] => { results := [.lit (.bool true)], args := [d1, d2] }
  | _ => none }
def identNamesRow : OpenClaim := { program := "ytikaikleibfkeaadoor", sum := "3ba60a0abbc18f41c7557630a1c517b9609fb5eb8c2e6037d4d6bef77d32c337", func := "trolley/trolleylaw04.IdentNames", spec := "identNames", named := ["trolley/ident.names"], apart := false, laid := [("trolley/ident.names", laid_trolley_ident_names)] }
def IdentNamesSaid : Prop := identNamesRow.holds Tryd.pinned (OpenSpec.ofChange identNamesSpec)

/-- ITS FALSE NEIGHBOUR: 'it returns false'. Refute it at one input. -/
def identNamesWrong : ChangeSpec := { name := "identNames", fn := fun _ => fun
  | [d1, d2] => { results := [.lit (.bool false)], args := [d1, d2] }
  | _ => none }
def IdentNamesWrongFalsely : Prop := identNamesRow.holds Tryd.pinned (OpenSpec.ofChange identNamesWrong)

/-- 'trolleylaw04.IdentHalves': WHATEVER THE INPUT: true; the input reads as it did. -/
def identHalvesSpec : ChangeSpec := { name := "identHalves", fn := fun _ => fun
  | [d1, d2] => { results := [.lit (.bool true)], args := [d1, d2] }
  | _ => none }
def identHalvesRow : OpenClaim := { program := "ytikaikleibfkeaadoor", sum := "3ba60a0abbc18f41c7557630a1c517b9609fb5eb8c2e6037d4d6bef77d32c337", func := "trolley/trolleylaw04.IdentHalves", spec := "identHalves", named := ["trolley/ident.names"], apart := false, laid := [("trolley/ident.names", laid_trolley_ident_names)] }
def IdentHalvesSaid : Prop := identHalvesRow.holds Tryd.pinned (OpenSpec.ofChange identHalvesSpec)

/-- ITS FALSE NEIGHBOUR: 'it returns false'. Refute it at one input. -/
def identHalvesWrong : ChangeSpec := { name := "identHalves", fn := fun _ => fun
  | [d1, d2] => { results := [.lit (.bool false)], args := [d1, d2] }
  | _ => none }
def IdentHalvesWrongFalsely : Prop := identHalvesRow.holds Tryd.pinned (OpenSpec.ofChange identHalvesWrong)

/-- 'trolleylaw04.IdentHashes': WHATEVER THE INPUT: true; the input reads as it did. -/
def identHashesSpec : ChangeSpec := { name := "identHashes", fn := fun _ => fun
  | [d1, d2, d3, d4, d5, d6] => { results := [.lit (.bool true)], args := [d1, d2, d3, d4, d5, d6] }
  | _ => none }
def identHashesRow : OpenClaim := { program := "ytikaikleibfkeaadoor", sum := "3ba60a0abbc18f41c7557630a1c517b9609fb5eb8c2e6037d4d6bef77d32c337", func := "trolley/trolleylaw04.IdentHashes", spec := "identHashes", named := ["trolley/ident.names"], apart := false, laid := [("trolley/ident.names", laid_trolley_ident_names)] }
def IdentHashesSaid : Prop := identHashesRow.holds Tryd.pinned (OpenSpec.ofChange identHashesSpec)

/-- ITS FALSE NEIGHBOUR: 'it returns false'. Refute it at one input. -/
def identHashesWrong : ChangeSpec := { name := "identHashes", fn := fun _ => fun
  | [d1, d2, d3, d4, d5, d6] => { results := [.lit (.bool false)], args := [d1, d2, d3, d4, d5, d6] }
  | _ => none }
def IdentHashesWrongFalsely : Prop := identHashesRow.holds Tryd.pinned (OpenSpec.ofChange identHashesWrong)

/-- 'trolleylaw04.IdentParts': WHATEVER THE INPUT: true; the input reads as it did. -/
def identPartsSpec : ChangeSpec := { name := "identParts", fn := fun _ => fun
  | [d1, d2, d3] => { results := [.lit (.bool true)], args := [d1, d2, d3] }
  | _ => none }
def identPartsRow : OpenClaim := { program := "ytikaikleibfkeaadoor", sum := "3ba60a0abbc18f41c7557630a1c517b9609fb5eb8c2e6037d4d6bef77d32c337", func := "trolley/trolleylaw04.IdentParts", spec := "identParts", named := ["trolley/ident.names"], apart := false, laid := [("trolley/ident.names", laid_trolley_ident_names)] }
def IdentPartsSaid : Prop := identPartsRow.holds Tryd.pinned (OpenSpec.ofChange identPartsSpec)

/-- ITS FALSE NEIGHBOUR: 'it returns false'. Refute it at one input. -/
def identPartsWrong : ChangeSpec := { name := "identParts", fn := fun _ => fun
  | [d1, d2, d3] => { results := [.lit (.bool false)], args := [d1, d2, d3] }
  | _ => none }
def IdentPartsWrongFalsely : Prop := identPartsRow.holds Tryd.pinned (OpenSpec.ofChange identPartsWrong)

/-- 'trolleylaw04.IdentBeside': WHATEVER THE INPUT: true; the input reads as it did. -/
def identBesideSpec : ChangeSpec := { name := "identBeside", fn := fun _ => fun
  | [d1, d2] => { results := [.lit (.bool true)], args := [d1, d2] }
  | _ => none }
def identBesideRow : OpenClaim := { program := "ytikaikleibfkeaadoor", sum := "3ba60a0abbc18f41c7557630a1c517b9609fb5eb8c2e6037d4d6bef77d32c337", func := "trolley/trolleylaw04.IdentBeside", spec := "identBeside", named := ["trolley/ident.names"], apart := false, laid := [("trolley/ident.names", laid_trolley_ident_names)] }
def IdentBesideSaid : Prop := identBesideRow.holds Tryd.pinned (OpenSpec.ofChange identBesideSpec)

/-- ITS FALSE NEIGHBOUR: 'it returns false'. Refute it at one input. -/
def identBesideWrong : ChangeSpec := { name := "identBeside", fn := fun _ => fun
  | [d1, d2] => { results := [.lit (.bool false)], args := [d1, d2] }
  | _ => none }
def IdentBesideWrongFalsely : Prop := identBesideRow.holds Tryd.pinned (OpenSpec.ofChange identBesideWrong)

/-- 'trolleylaw04.IdentBack': WHATEVER THE INPUT: true; the input reads as it did. -/
def identBackSpec : ChangeSpec := { name := "identBack", fn := fun _ => fun
  | [d1, d2, d3] => { results := [.lit (.bool true)], args := [d1, d2, d3] }
  | _ => none }
def identBackRow : OpenClaim := { program := "ytikaikleibfkeaadoor", sum := "3ba60a0abbc18f41c7557630a1c517b9609fb5eb8c2e6037d4d6bef77d32c337", func := "trolley/trolleylaw04.IdentBack", spec := "identBack", named := ["trolley/ident.names"], apart := false, laid := [("trolley/ident.names", laid_trolley_ident_names)] }
def IdentBackSaid : Prop := identBackRow.holds Tryd.pinned (OpenSpec.ofChange identBackSpec)

/-- ITS FALSE NEIGHBOUR: 'it returns false'. Refute it at one input. -/
def identBackWrong : ChangeSpec := { name := "identBack", fn := fun _ => fun
  | [d1, d2, d3] => { results := [.lit (.bool false)], args := [d1, d2, d3] }
  | _ => none }
def IdentBackWrongFalsely : Prop := identBackRow.holds Tryd.pinned (OpenSpec.ofChange identBackWrong)

/- THE SECOND FORM. 'bulk': how many values and letters a reading holds, each counted each time it is reached (what is shared counts as often as it is met; a slice's spare places count too). A statement '..UptoSaid' is the law's where the arguments, and the package variables that the reading takes, are together of bulk at most 1048576: NARROWER than '..Said'. Prove '..Said' where nothing that the law and all that it calls make is longer than what came in: it says more and counts as full. Else prove '..UptoSaid'. A law counts once. -/
mutual
def uptoBulk {H : Type} : DataW H → Nat
  | .lit (.string bytes) => bytes.length + 1
  | .lit _ => 1
  | .nil => 1
  | .ptr d => uptoBulk d + 1
  | .slice elems spare => uptoBulkAll elems + uptoBulkAll spare + 1
  | .agg parts => uptoBulkAll parts + 1
  | .iface _ d => uptoBulk d + 1
  | .map entries => uptoBulkEntries entries + 1
  | .held _ => 1
def uptoBulkAll {H : Type} : List (DataW H) → Nat
  | [] => 0
  | d :: r => uptoBulk d + uptoBulkAll r
def uptoBulkEntries {H : Type} : List (Lit × DataW H) → Nat
  | [] => 0
  | x :: r => uptoBulkEntry x + uptoBulkEntries r
def uptoBulkEntry {H : Type} : Lit × DataW H → Nat
  | (.string bytes, d) => bytes.length + uptoBulk d + 1
  | (_, d) => uptoBulk d + 1
 end
def uptoSmall : (H : Type) → List (DataW H) → Bool := fun _ ds => decide (uptoBulkAll ds ≤ 1048576)
def OpenSpec.upto (s : _root_.Go.ChangeSpec) : _root_.Go.OpenSpec := { _root_.Go.OpenSpec.ofChange s with cond := some uptoSmall }

/-- 'trolleylaw04.IdentBytes', WHERE WHAT IT READS IS OF BULK AT MOST 1048576: true; the input reads as it did. -/
def identBytesUptoRow : OpenClaim := { program := "ytikaikleibfkeaadoor", sum := "3ba60a0abbc18f41c7557630a1c517b9609fb5eb8c2e6037d4d6bef77d32c337", func := "trolley/trolleylaw04.IdentBytes", spec := "identBytes", named := ["trolley/ident.names"], apart := false, laid := [("trolley/ident.names", laid_trolley_ident_names)], narrowed := true }
def IdentBytesUptoSaid : Prop := identBytesUptoRow.holds Tryd.pinned (OpenSpec.upto identBytesSpec)

/-- 'trolleylaw04.IdentNames', WHERE WHAT IT READS IS OF BULK AT MOST 1048576: true; the input reads as it did. -/
def identNamesUptoRow : OpenClaim := { program := "ytikaikleibfkeaadoor", sum := "3ba60a0abbc18f41c7557630a1c517b9609fb5eb8c2e6037d4d6bef77d32c337", func := "trolley/trolleylaw04.IdentNames", spec := "identNames", named := ["trolley/ident.names"], apart := false, laid := [("trolley/ident.names", laid_trolley_ident_names)], narrowed := true }
def IdentNamesUptoSaid : Prop := identNamesUptoRow.holds Tryd.pinned (OpenSpec.upto identNamesSpec)

/-- 'trolleylaw04.IdentHalves', WHERE WHAT IT READS IS OF BULK AT MOST 1048576: true; the input reads as it did. -/
def identHalvesUptoRow : OpenClaim := { program := "ytikaikleibfkeaadoor", sum := "3ba60a0abbc18f41c7557630a1c517b9609fb5eb8c2e6037d4d6bef77d32c337", func := "trolley/trolleylaw04.IdentHalves", spec := "identHalves", named := ["trolley/ident.names"], apart := false, laid := [("trolley/ident.names", laid_trolley_ident_names)], narrowed := true }
def IdentHalvesUptoSaid : Prop := identHalvesUptoRow.holds Tryd.pinned (OpenSpec.upto identHalvesSpec)

/-- 'trolleylaw04.IdentHashes', WHERE WHAT IT READS IS OF BULK AT MOST 1048576: true; the input reads as it did. -/
def identHashesUptoRow : OpenClaim := { program := "ytikaikleibfkeaadoor", sum := "3ba60a0abbc18f41c7557630a1c517b9609fb5eb8c2e6037d4d6bef77d32c337", func := "trolley/trolleylaw04.IdentHashes", spec := "identHashes", named := ["trolley/ident.names"], apart := false, laid := [("trolley/ident.names", laid_trolley_ident_names)], narrowed := true }
def IdentHashesUptoSaid : Prop := identHashesUptoRow.holds Tryd.pinned (OpenSpec.upto identHashesSpec)

/-- 'trolleylaw04.IdentParts', WHERE WHAT IT READS IS OF BULK AT MOST 1048576: true; the input reads as it did. -/
def identPartsUptoRow : OpenClaim := { program := "ytikaikleibfkeaadoor", sum := "3ba60a0abbc18f41c7557630a1c517b9609fb5eb8c2e6037d4d6bef77d32c337", func := "trolley/trolleylaw04.IdentParts", spec := "identParts", named := ["trolley/ident.names"], apart := false, laid := [("trolley/ident.names", laid_trolley_ident_names)], narrowed := true }
def IdentPartsUptoSaid : Prop := identPartsUptoRow.holds Tryd.pinned (OpenSpec.upto identPartsSpec)

/-- 'trolleylaw04.IdentBeside', WHERE WHAT IT READS IS OF BULK AT MOST 1048576: true; the input reads as it did. -/
def identBesideUptoRow : OpenClaim := { program := "ytikaikleibfkeaadoor", sum := "3ba60a0abbc18f41c7557630a1c517b9609fb5eb8c2e6037d4d6bef77d32c337", func := "trolley/trolleylaw04.IdentBeside", spec := "identBeside", named := ["trolley/ident.names"], apart := false, laid := [("trolley/ident.names", laid_trolley_ident_names)], narrowed := true }
def IdentBesideUptoSaid : Prop := identBesideUptoRow.holds Tryd.pinned (OpenSpec.upto identBesideSpec)

/-- 'trolleylaw04.IdentBack', WHERE WHAT IT READS IS OF BULK AT MOST 1048576: true; the input reads as it did. -/
def identBackUptoRow : OpenClaim := { program := "ytikaikleibfkeaadoor", sum := "3ba60a0abbc18f41c7557630a1c517b9609fb5eb8c2e6037d4d6bef77d32c337", func := "trolley/trolleylaw04.IdentBack", spec := "identBack", named := ["trolley/ident.names"], apart := false, laid := [("trolley/ident.names", laid_trolley_ident_names)], narrowed := true }
def IdentBackUptoSaid : Prop := identBackUptoRow.holds Tryd.pinned (OpenSpec.upto identBackSpec)

end Rows
end Go.Proofs.YtikaikleibfkeaaDoor
