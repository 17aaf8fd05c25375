/-
  DERIVED. GIVEN WITH THE SEED: THE CARDS: each row of YtidhemjnchonaaaGreatDoorRows.lean that lists a variable, with what it lists TIED to the program's text (the seventh form; the later family's looks); each row that meets fmt, with fmt's text TOLD by the authors' own Lean function (tested against real Go, not proved from fmt's source: count such statements apart). THE CARD IS WHAT COUNTS. Prove the row's statement (the work); the ties are given (YtidhemjnchonaaaGreatDoorTie.lean); close each card by the builder's one call (the guide's Derived/Test/ToyasCard.lean, 'card_holds'). Laid BY PROGRAM, IN A SANDBOX (cutbox-door.mjs). By AI agents, Wed Nov 11 2026. No macro, syntax, notation, axiom, sorry.
-/
import Derived.Test.YtidhemjnchonaaaGreatDoorRows
import GoSem.ClaimSeven
namespace Go.Proofs.YtidhemjnchonaaaGreatDoor
namespace Rows

/-- THE TIED CARD OF 'trolleylaw14.HttpTells'. -/
def httpTellsCard : Claim7 := { stood := { row := httpTellsRow, standIns := [], harness := (true, "1769f93c71e52107cf40eb366e5a8b84f9ed8e51ed2c3d11d8a037a83a436199"), looks := true }, kinds := [], alts := [], laidByText := true, laidKinds := [.data, .data, .data, .data, .sentinel, .sentinel, .pinned], laidTests := true, laidLooks := .later }
def HttpTellsCardSaid : Prop := Claim7.holds Tryz.pinned (.plain (OpenSpec.ofChange httpTellsSpec)) httpTellsCard

/-- THE TIED CARD OF 'trolleylaw14.HttpCase'. -/
def httpCaseCard : Claim7 := { stood := { row := httpCaseRow, standIns := [], harness := (true, "1769f93c71e52107cf40eb366e5a8b84f9ed8e51ed2c3d11d8a037a83a436199"), looks := true }, kinds := [], alts := [], laidByText := true, laidKinds := [.data, .data, .data, .data, .sentinel, .sentinel, .pinned], laidTests := true, laidLooks := .later }
def HttpCaseCardSaid : Prop := Claim7.holds Tryz.pinned (.plain (OpenSpec.ofChange httpCaseSpec)) httpCaseCard

/-- THE TIED CARD OF 'trolleylaw14.HttpParses'. -/
def httpParsesCard : Claim7 := { stood := { row := httpParsesRow, standIns := [], harness := (true, "1769f93c71e52107cf40eb366e5a8b84f9ed8e51ed2c3d11d8a037a83a436199"), looks := true }, kinds := [], alts := [], laidByText := true, laidKinds := [.data, .data, .data, .data, .sentinel, .sentinel, .pinned], laidTests := true, laidLooks := .later }
def HttpParsesCardSaid : Prop := Claim7.holds Tryz.pinned (.plain (OpenSpec.ofChange httpParsesSpec)) httpParsesCard

/-- THE TIED CARD OF 'trolleylaw14.HttpEither'. -/
def httpEitherCard : Claim7 := { stood := { row := httpEitherRow, standIns := [], harness := (true, "1769f93c71e52107cf40eb366e5a8b84f9ed8e51ed2c3d11d8a037a83a436199"), looks := true }, kinds := [], alts := [], laidByText := true, laidKinds := [.data, .data, .data, .data, .sentinel, .sentinel, .pinned], laidTests := true, laidLooks := .later }
def HttpEitherCardSaid : Prop := Claim7.holds Tryz.pinned (.plain (OpenSpec.ofChange httpEitherSpec)) httpEitherCard

/-- THE TIED CARD OF 'trolleylaw14.HttpPrints'. -/
def httpPrintsCard : Claim7 := { stood := { row := httpPrintsRow, standIns := [], harness := (true, "1769f93c71e52107cf40eb366e5a8b84f9ed8e51ed2c3d11d8a037a83a436199"), looks := true }, kinds := [], alts := [], laidByText := true, laidKinds := [.data, .data, .data, .data, .sentinel, .sentinel, .pinned], laidTests := true, laidLooks := .later }
def HttpPrintsCardSaid : Prop := Claim7.holds Tryz.pinned (.plain (OpenSpec.ofChange httpPrintsSpec)) httpPrintsCard

/-- THE TIED CARD OF 'trolleylaw14.HttpAgain'. -/
def httpAgainCard : Claim7 := { stood := { row := httpAgainRow, standIns := [], harness := (true, "1769f93c71e52107cf40eb366e5a8b84f9ed8e51ed2c3d11d8a037a83a436199"), looks := true }, kinds := [], alts := [], laidByText := true, laidKinds := [.data, .data, .data, .data, .sentinel, .sentinel, .pinned], laidTests := true, laidLooks := .later }
def HttpAgainCardSaid : Prop := Claim7.holds Tryz.pinned (.plain (OpenSpec.ofChange httpAgainSpec)) httpAgainCard

/-- THE TIED CARD OF 'trolleylaw14.HttpCut'. -/
def httpCutCard : Claim7 := { stood := { row := httpCutRow, standIns := [], harness := (true, "1769f93c71e52107cf40eb366e5a8b84f9ed8e51ed2c3d11d8a037a83a436199"), looks := true }, kinds := [], alts := [], laidByText := true, laidKinds := [.data, .data, .data, .data, .sentinel, .sentinel, .pinned], laidTests := true, laidLooks := .later }
def HttpCutCardSaid : Prop := Claim7.holds Tryz.pinned (.plain (OpenSpec.ofChange httpCutSpec)) httpCutCard

/-- THE TIED CARD OF 'trolleylaw14.HttpBack'. -/
def httpBackCard : Claim7 := { stood := { row := httpBackRow, standIns := [], harness := (true, "1769f93c71e52107cf40eb366e5a8b84f9ed8e51ed2c3d11d8a037a83a436199"), looks := true }, kinds := [], alts := [], laidByText := true, laidKinds := [.data, .data, .data, .data, .sentinel, .sentinel, .pinned], laidTests := true, laidLooks := .later }
def HttpBackCardSaid : Prop := Claim7.holds Tryz.pinned (.plain (OpenSpec.ofChange httpBackSpec)) httpBackCard

/-- THE TIED CARD OF 'trolleylaw14.HttpForm'. -/
def httpFormCard : Claim7 := { stood := { row := httpFormRow, standIns := [], harness := (true, "1769f93c71e52107cf40eb366e5a8b84f9ed8e51ed2c3d11d8a037a83a436199"), looks := true }, kinds := [], alts := [], laidByText := true, laidKinds := [.data, .data, .data, .data, .sentinel, .sentinel, .pinned], laidTests := true, laidLooks := .later }
def HttpFormCardSaid : Prop := Claim7.holds Tryz.pinned (.plain (OpenSpec.ofChange httpFormSpec)) httpFormCard

/-- THE SECOND FORM's CARD OF 'trolleylaw14.HttpTells'. -/
def httpTellsUptoCard : Claim7 := { stood := { row := httpTellsUptoRow, standIns := [], harness := (true, "1769f93c71e52107cf40eb366e5a8b84f9ed8e51ed2c3d11d8a037a83a436199"), looks := true }, kinds := [], alts := [], laidByText := true, laidKinds := [.data, .data, .data, .data, .sentinel, .sentinel, .pinned], laidTests := true, laidLooks := .later }
def HttpTellsUptoCardSaid : Prop := Claim7.holds Tryz.pinned (.plain (OpenSpec.upto httpTellsSpec)) httpTellsUptoCard

/-- THE SECOND FORM's CARD OF 'trolleylaw14.HttpCase'. -/
def httpCaseUptoCard : Claim7 := { stood := { row := httpCaseUptoRow, standIns := [], harness := (true, "1769f93c71e52107cf40eb366e5a8b84f9ed8e51ed2c3d11d8a037a83a436199"), looks := true }, kinds := [], alts := [], laidByText := true, laidKinds := [.data, .data, .data, .data, .sentinel, .sentinel, .pinned], laidTests := true, laidLooks := .later }
def HttpCaseUptoCardSaid : Prop := Claim7.holds Tryz.pinned (.plain (OpenSpec.upto httpCaseSpec)) httpCaseUptoCard

/-- THE SECOND FORM's CARD OF 'trolleylaw14.HttpParses'. -/
def httpParsesUptoCard : Claim7 := { stood := { row := httpParsesUptoRow, standIns := [], harness := (true, "1769f93c71e52107cf40eb366e5a8b84f9ed8e51ed2c3d11d8a037a83a436199"), looks := true }, kinds := [], alts := [], laidByText := true, laidKinds := [.data, .data, .data, .data, .sentinel, .sentinel, .pinned], laidTests := true, laidLooks := .later }
def HttpParsesUptoCardSaid : Prop := Claim7.holds Tryz.pinned (.plain (OpenSpec.upto httpParsesSpec)) httpParsesUptoCard

/-- THE SECOND FORM's CARD OF 'trolleylaw14.HttpEither'. -/
def httpEitherUptoCard : Claim7 := { stood := { row := httpEitherUptoRow, standIns := [], harness := (true, "1769f93c71e52107cf40eb366e5a8b84f9ed8e51ed2c3d11d8a037a83a436199"), looks := true }, kinds := [], alts := [], laidByText := true, laidKinds := [.data, .data, .data, .data, .sentinel, .sentinel, .pinned], laidTests := true, laidLooks := .later }
def HttpEitherUptoCardSaid : Prop := Claim7.holds Tryz.pinned (.plain (OpenSpec.upto httpEitherSpec)) httpEitherUptoCard

/-- THE SECOND FORM's CARD OF 'trolleylaw14.HttpPrints'. -/
def httpPrintsUptoCard : Claim7 := { stood := { row := httpPrintsUptoRow, standIns := [], harness := (true, "1769f93c71e52107cf40eb366e5a8b84f9ed8e51ed2c3d11d8a037a83a436199"), looks := true }, kinds := [], alts := [], laidByText := true, laidKinds := [.data, .data, .data, .data, .sentinel, .sentinel, .pinned], laidTests := true, laidLooks := .later }
def HttpPrintsUptoCardSaid : Prop := Claim7.holds Tryz.pinned (.plain (OpenSpec.upto httpPrintsSpec)) httpPrintsUptoCard

/-- THE SECOND FORM's CARD OF 'trolleylaw14.HttpAgain'. -/
def httpAgainUptoCard : Claim7 := { stood := { row := httpAgainUptoRow, standIns := [], harness := (true, "1769f93c71e52107cf40eb366e5a8b84f9ed8e51ed2c3d11d8a037a83a436199"), looks := true }, kinds := [], alts := [], laidByText := true, laidKinds := [.data, .data, .data, .data, .sentinel, .sentinel, .pinned], laidTests := true, laidLooks := .later }
def HttpAgainUptoCardSaid : Prop := Claim7.holds Tryz.pinned (.plain (OpenSpec.upto httpAgainSpec)) httpAgainUptoCard

/-- THE SECOND FORM's CARD OF 'trolleylaw14.HttpCut'. -/
def httpCutUptoCard : Claim7 := { stood := { row := httpCutUptoRow, standIns := [], harness := (true, "1769f93c71e52107cf40eb366e5a8b84f9ed8e51ed2c3d11d8a037a83a436199"), looks := true }, kinds := [], alts := [], laidByText := true, laidKinds := [.data, .data, .data, .data, .sentinel, .sentinel, .pinned], laidTests := true, laidLooks := .later }
def HttpCutUptoCardSaid : Prop := Claim7.holds Tryz.pinned (.plain (OpenSpec.upto httpCutSpec)) httpCutUptoCard

/-- THE SECOND FORM's CARD OF 'trolleylaw14.HttpBack'. -/
def httpBackUptoCard : Claim7 := { stood := { row := httpBackUptoRow, standIns := [], harness := (true, "1769f93c71e52107cf40eb366e5a8b84f9ed8e51ed2c3d11d8a037a83a436199"), looks := true }, kinds := [], alts := [], laidByText := true, laidKinds := [.data, .data, .data, .data, .sentinel, .sentinel, .pinned], laidTests := true, laidLooks := .later }
def HttpBackUptoCardSaid : Prop := Claim7.holds Tryz.pinned (.plain (OpenSpec.upto httpBackSpec)) httpBackUptoCard

/-- THE SECOND FORM's CARD OF 'trolleylaw14.HttpForm'. -/
def httpFormUptoCard : Claim7 := { stood := { row := httpFormUptoRow, standIns := [], harness := (true, "1769f93c71e52107cf40eb366e5a8b84f9ed8e51ed2c3d11d8a037a83a436199"), looks := true }, kinds := [], alts := [], laidByText := true, laidKinds := [.data, .data, .data, .data, .sentinel, .sentinel, .pinned], laidTests := true, laidLooks := .later }
def HttpFormUptoCardSaid : Prop := Claim7.holds Tryz.pinned (.plain (OpenSpec.upto httpFormSpec)) httpFormUptoCard
end Rows
end Go.Proofs.YtidhemjnchonaaaGreatDoor
