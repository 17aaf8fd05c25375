/-
  DERIVED. GIVEN WITH THE SEED: THE CARDS: each row of YtpdedfpacklnoaaGreatDoorRows.lean that lists a variable, with what it lists TIED to the program's text (the seventh form; the later family's looks); each row that meets fmt, with fmt's text TOLD by the authors' own Lean function (tested against real Go, not proved from fmt's source: count such statements apart). THE CARD IS WHAT COUNTS. Prove the row's statement (the work); the ties are given (YtpdedfpacklnoaaGreatDoorTie.lean); close each card by the builder's one call (the guide's Derived/Test/ToyasCard.lean, 'card_holds'). Laid BY PROGRAM, IN A SANDBOX (cutbox-door.mjs). By AI agents, Wed Nov 11 2026. No macro, syntax, notation, axiom, sorry.
-/
import Derived.Test.YtpdedfpacklnoaaGreatDoorRows
import GoSem.ClaimSeven
namespace Go.Proofs.YtpdedfpacklnoaaGreatDoor
namespace Rows

/-- THE TIED CARD OF 'trolleylaw24.FrontEither'. -/
def frontEitherCard : Claim7 := { stood := { row := frontEitherRow, standIns := [], harness := (true, "50ecca6cf3d6ffae6216708a374f9ca3c45cbf65c017e5b3b5d56f1a3cb6458c"), looks := true }, kinds := [], alts := [], laidByText := true, laidKinds := [.data, .data, .data, .data, .handle, .sentinel, .sentinel, .pinned], laidTests := true, laidLooks := .later }
def FrontEitherCardSaid : Prop := Claim7.holds Tryz.pinned (.plain (OpenSpec.ofChange frontEitherSpec)) frontEitherCard

/-- THE TIED CARD OF 'trolleylaw24.FrontOther'. -/
def frontOtherCard : Claim7 := { stood := { row := frontOtherRow, standIns := [], harness := (true, "50ecca6cf3d6ffae6216708a374f9ca3c45cbf65c017e5b3b5d56f1a3cb6458c"), looks := true }, kinds := [], alts := [], laidByText := true, laidKinds := [.data, .data, .data, .data, .handle, .sentinel, .sentinel, .pinned], laidTests := true, laidLooks := .later }
def FrontOtherCardSaid : Prop := Claim7.holds Tryz.pinned (.plain (OpenSpec.ofChange frontOtherSpec)) frontOtherCard

/-- THE TIED CARD OF 'trolleylaw24.FrontRoutes'. -/
def frontRoutesCard : Claim7 := { stood := { row := frontRoutesRow, standIns := [], harness := (true, "50ecca6cf3d6ffae6216708a374f9ca3c45cbf65c017e5b3b5d56f1a3cb6458c"), looks := true }, kinds := [], alts := [], laidByText := true, laidKinds := [.data, .data, .data, .data, .handle, .sentinel, .sentinel, .pinned], laidTests := true, laidLooks := .later }
def FrontRoutesCardSaid : Prop := Claim7.holds Tryz.pinned (.plain (OpenSpec.ofChange frontRoutesSpec)) frontRoutesCard

/-- THE TIED CARD OF 'trolleylaw24.FrontBack'. -/
def frontBackCard : Claim7 := { stood := { row := frontBackRow, standIns := [], harness := (true, "50ecca6cf3d6ffae6216708a374f9ca3c45cbf65c017e5b3b5d56f1a3cb6458c"), looks := true }, kinds := [], alts := [], laidByText := true, laidKinds := [.data, .data, .data, .data, .handle, .sentinel, .sentinel, .pinned], laidTests := true, laidLooks := .later }
def FrontBackCardSaid : Prop := Claim7.holds Tryz.pinned (.plain (OpenSpec.ofChange frontBackSpec)) frontBackCard

/-- THE TIED CARD OF 'trolleylaw24.FrontLines'. -/
def frontLinesCard : Claim7 := { stood := { row := frontLinesRow, standIns := [], harness := (true, "50ecca6cf3d6ffae6216708a374f9ca3c45cbf65c017e5b3b5d56f1a3cb6458c"), looks := true }, kinds := [], alts := [], laidByText := true, laidKinds := [.data, .data, .data, .data, .handle, .sentinel, .sentinel, .pinned], laidTests := true, laidLooks := .later }
def FrontLinesCardSaid : Prop := Claim7.holds Tryz.pinned (.plain (OpenSpec.ofChange frontLinesSpec)) frontLinesCard

/-- THE TIED CARD OF 'trolleylaw24.FrontAnswers'. -/
def frontAnswersCard : Claim7 := { stood := { row := frontAnswersRow, standIns := [], harness := (true, "50ecca6cf3d6ffae6216708a374f9ca3c45cbf65c017e5b3b5d56f1a3cb6458c"), looks := true }, kinds := [], alts := [], laidByText := true, laidKinds := [.data, .data, .data, .data, .handle, .sentinel, .sentinel, .pinned], laidTests := true, laidLooks := .later }
def FrontAnswersCardSaid : Prop := Claim7.holds Tryz.pinned (.plain (OpenSpec.ofChange frontAnswersSpec)) frontAnswersCard

/-- THE TIED CARD OF 'trolleylaw24.FrontToken'. -/
def frontTokenCard : Claim7 := { stood := { row := frontTokenRow, standIns := [], harness := (true, "50ecca6cf3d6ffae6216708a374f9ca3c45cbf65c017e5b3b5d56f1a3cb6458c"), looks := true }, kinds := [], alts := [], laidByText := true, laidKinds := [.data, .data, .data, .data, .handle, .sentinel, .sentinel, .pinned], laidTests := true, laidLooks := .later }
def FrontTokenCardSaid : Prop := Claim7.holds Tryz.pinned (.plain (OpenSpec.ofChange frontTokenSpec)) frontTokenCard

/-- THE TIED CARD OF 'trolleylaw24.FrontTakes'. -/
def frontTakesCard : Claim7 := { stood := { row := frontTakesRow, standIns := [], harness := (true, "50ecca6cf3d6ffae6216708a374f9ca3c45cbf65c017e5b3b5d56f1a3cb6458c"), looks := true }, kinds := [], alts := [], laidByText := true, laidKinds := [.data, .data, .data, .data, .handle, .sentinel, .sentinel, .pinned], laidTests := true, laidLooks := .later }
def FrontTakesCardSaid : Prop := Claim7.holds Tryz.pinned (.plain (OpenSpec.ofChange frontTakesSpec)) frontTakesCard

/-- THE SECOND FORM's CARD OF 'trolleylaw24.FrontEither'. -/
def frontEitherUptoCard : Claim7 := { stood := { row := frontEitherUptoRow, standIns := [], harness := (true, "50ecca6cf3d6ffae6216708a374f9ca3c45cbf65c017e5b3b5d56f1a3cb6458c"), looks := true }, kinds := [], alts := [], laidByText := true, laidKinds := [.data, .data, .data, .data, .handle, .sentinel, .sentinel, .pinned], laidTests := true, laidLooks := .later }
def FrontEitherUptoCardSaid : Prop := Claim7.holds Tryz.pinned (.plain (OpenSpec.upto frontEitherSpec)) frontEitherUptoCard

/-- THE SECOND FORM's CARD OF 'trolleylaw24.FrontOther'. -/
def frontOtherUptoCard : Claim7 := { stood := { row := frontOtherUptoRow, standIns := [], harness := (true, "50ecca6cf3d6ffae6216708a374f9ca3c45cbf65c017e5b3b5d56f1a3cb6458c"), looks := true }, kinds := [], alts := [], laidByText := true, laidKinds := [.data, .data, .data, .data, .handle, .sentinel, .sentinel, .pinned], laidTests := true, laidLooks := .later }
def FrontOtherUptoCardSaid : Prop := Claim7.holds Tryz.pinned (.plain (OpenSpec.upto frontOtherSpec)) frontOtherUptoCard

/-- THE SECOND FORM's CARD OF 'trolleylaw24.FrontRoutes'. -/
def frontRoutesUptoCard : Claim7 := { stood := { row := frontRoutesUptoRow, standIns := [], harness := (true, "50ecca6cf3d6ffae6216708a374f9ca3c45cbf65c017e5b3b5d56f1a3cb6458c"), looks := true }, kinds := [], alts := [], laidByText := true, laidKinds := [.data, .data, .data, .data, .handle, .sentinel, .sentinel, .pinned], laidTests := true, laidLooks := .later }
def FrontRoutesUptoCardSaid : Prop := Claim7.holds Tryz.pinned (.plain (OpenSpec.upto frontRoutesSpec)) frontRoutesUptoCard

/-- THE SECOND FORM's CARD OF 'trolleylaw24.FrontBack'. -/
def frontBackUptoCard : Claim7 := { stood := { row := frontBackUptoRow, standIns := [], harness := (true, "50ecca6cf3d6ffae6216708a374f9ca3c45cbf65c017e5b3b5d56f1a3cb6458c"), looks := true }, kinds := [], alts := [], laidByText := true, laidKinds := [.data, .data, .data, .data, .handle, .sentinel, .sentinel, .pinned], laidTests := true, laidLooks := .later }
def FrontBackUptoCardSaid : Prop := Claim7.holds Tryz.pinned (.plain (OpenSpec.upto frontBackSpec)) frontBackUptoCard

/-- THE SECOND FORM's CARD OF 'trolleylaw24.FrontLines'. -/
def frontLinesUptoCard : Claim7 := { stood := { row := frontLinesUptoRow, standIns := [], harness := (true, "50ecca6cf3d6ffae6216708a374f9ca3c45cbf65c017e5b3b5d56f1a3cb6458c"), looks := true }, kinds := [], alts := [], laidByText := true, laidKinds := [.data, .data, .data, .data, .handle, .sentinel, .sentinel, .pinned], laidTests := true, laidLooks := .later }
def FrontLinesUptoCardSaid : Prop := Claim7.holds Tryz.pinned (.plain (OpenSpec.upto frontLinesSpec)) frontLinesUptoCard

/-- THE SECOND FORM's CARD OF 'trolleylaw24.FrontAnswers'. -/
def frontAnswersUptoCard : Claim7 := { stood := { row := frontAnswersUptoRow, standIns := [], harness := (true, "50ecca6cf3d6ffae6216708a374f9ca3c45cbf65c017e5b3b5d56f1a3cb6458c"), looks := true }, kinds := [], alts := [], laidByText := true, laidKinds := [.data, .data, .data, .data, .handle, .sentinel, .sentinel, .pinned], laidTests := true, laidLooks := .later }
def FrontAnswersUptoCardSaid : Prop := Claim7.holds Tryz.pinned (.plain (OpenSpec.upto frontAnswersSpec)) frontAnswersUptoCard

/-- THE SECOND FORM's CARD OF 'trolleylaw24.FrontToken'. -/
def frontTokenUptoCard : Claim7 := { stood := { row := frontTokenUptoRow, standIns := [], harness := (true, "50ecca6cf3d6ffae6216708a374f9ca3c45cbf65c017e5b3b5d56f1a3cb6458c"), looks := true }, kinds := [], alts := [], laidByText := true, laidKinds := [.data, .data, .data, .data, .handle, .sentinel, .sentinel, .pinned], laidTests := true, laidLooks := .later }
def FrontTokenUptoCardSaid : Prop := Claim7.holds Tryz.pinned (.plain (OpenSpec.upto frontTokenSpec)) frontTokenUptoCard

/-- THE SECOND FORM's CARD OF 'trolleylaw24.FrontTakes'. -/
def frontTakesUptoCard : Claim7 := { stood := { row := frontTakesUptoRow, standIns := [], harness := (true, "50ecca6cf3d6ffae6216708a374f9ca3c45cbf65c017e5b3b5d56f1a3cb6458c"), looks := true }, kinds := [], alts := [], laidByText := true, laidKinds := [.data, .data, .data, .data, .handle, .sentinel, .sentinel, .pinned], laidTests := true, laidLooks := .later }
def FrontTakesUptoCardSaid : Prop := Claim7.holds Tryz.pinned (.plain (OpenSpec.upto frontTakesSpec)) frontTakesUptoCard
end Rows
end Go.Proofs.YtpdedfpacklnoaaGreatDoor
