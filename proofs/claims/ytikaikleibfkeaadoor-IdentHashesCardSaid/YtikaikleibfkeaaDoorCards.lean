/-
  DERIVED. GIVEN WITH THE SEED: THE CARDS: each row of YtikaikleibfkeaaDoorRows.lean that lists a variable, with what it lists TIED to the program's text (the seventh form; the later family's looks); each row that meets fmt, with fmt's text TOLD by the authors' own Lean function (tested against real Go, not proved from fmt's source: count such statements apart). THE CARD IS WHAT COUNTS. Prove the row's statement (the work); the ties are given (YtikaikleibfkeaaDoorTie.lean); close each card by the builder's one call (the guide's Derived/Test/ToyasCard.lean, 'card_holds'). Laid BY PROGRAM, IN A SANDBOX (cutbox-door.mjs). By AI agents, Wed Nov 11 2026. No macro, syntax, notation, axiom, sorry.
-/
import Derived.Test.YtikaikleibfkeaaDoorRows
import GoSem.ClaimSeven
namespace Go.Proofs.YtikaikleibfkeaaDoor
namespace Rows

/-- THE TIED CARD OF 'trolleylaw04.IdentBytes'. -/
def identBytesCard : Claim7 := { stood := { row := identBytesRow, standIns := [], harness := (true, "1131edfed5f1d45447c1561afa8b52a742d11ec2af6b8c18ad0f09182d98f454"), looks := false }, kinds := [], alts := [], laidByText := true, laidKinds := [.data], laidTests := true, laidLooks := .later }
def IdentBytesCardSaid : Prop := Claim7.holds Tryd.pinned (.plain (OpenSpec.ofChange identBytesSpec)) identBytesCard

/-- THE TIED CARD OF 'trolleylaw04.IdentNames'. -/
def identNamesCard : Claim7 := { stood := { row := identNamesRow, standIns := [], harness := (true, "1131edfed5f1d45447c1561afa8b52a742d11ec2af6b8c18ad0f09182d98f454"), looks := false }, kinds := [], alts := [], laidByText := true, laidKinds := [.data], laidTests := true, laidLooks := .later }
def IdentNamesCardSaid : Prop := Claim7.holds Tryd.pinned (.plain (OpenSpec.ofChange identNamesSpec)) identNamesCard

/-- THE TIED CARD OF 'trolleylaw04.IdentHalves'. -/
def identHalvesCard : Claim7 := { stood := { row := identHalvesRow, standIns := [], harness := (true, "1131edfed5f1d45447c1561afa8b52a742d11ec2af6b8c18ad0f09182d98f454"), looks := false }, kinds := [], alts := [], laidByText := true, laidKinds := [.data], laidTests := true, laidLooks := .later }
def IdentHalvesCardSaid : Prop := Claim7.holds Tryd.pinned (.plain (OpenSpec.ofChange identHalvesSpec)) identHalvesCard

/-- THE TIED CARD OF 'trolleylaw04.IdentHashes'. -/
def identHashesCard : Claim7 := { stood := { row := identHashesRow, standIns := [], harness := (true, "1131edfed5f1d45447c1561afa8b52a742d11ec2af6b8c18ad0f09182d98f454"), looks := false }, kinds := [], alts := [], laidByText := true, laidKinds := [.data], laidTests := true, laidLooks := .later }
def IdentHashesCardSaid : Prop := Claim7.holds Tryd.pinned (.plain (OpenSpec.ofChange identHashesSpec)) identHashesCard

/-- THE TIED CARD OF 'trolleylaw04.IdentParts'. -/
def identPartsCard : Claim7 := { stood := { row := identPartsRow, standIns := [], harness := (true, "1131edfed5f1d45447c1561afa8b52a742d11ec2af6b8c18ad0f09182d98f454"), looks := false }, kinds := [], alts := [], laidByText := true, laidKinds := [.data], laidTests := true, laidLooks := .later }
def IdentPartsCardSaid : Prop := Claim7.holds Tryd.pinned (.plain (OpenSpec.ofChange identPartsSpec)) identPartsCard

/-- THE TIED CARD OF 'trolleylaw04.IdentBeside'. -/
def identBesideCard : Claim7 := { stood := { row := identBesideRow, standIns := [], harness := (true, "1131edfed5f1d45447c1561afa8b52a742d11ec2af6b8c18ad0f09182d98f454"), looks := false }, kinds := [], alts := [], laidByText := true, laidKinds := [.data], laidTests := true, laidLooks := .later }
def IdentBesideCardSaid : Prop := Claim7.holds Tryd.pinned (.plain (OpenSpec.ofChange identBesideSpec)) identBesideCard

/-- THE TIED CARD OF 'trolleylaw04.IdentBack'. -/
def identBackCard : Claim7 := { stood := { row := identBackRow, standIns := [], harness := (true, "1131edfed5f1d45447c1561afa8b52a742d11ec2af6b8c18ad0f09182d98f454"), looks := false }, kinds := [], alts := [], laidByText := true, laidKinds := [.data], laidTests := true, laidLooks := .later }
def IdentBackCardSaid : Prop := Claim7.holds Tryd.pinned (.plain (OpenSpec.ofChange identBackSpec)) identBackCard

/-- THE SECOND FORM's CARD OF 'trolleylaw04.IdentBytes'. -/
def identBytesUptoCard : Claim7 := { stood := { row := identBytesUptoRow, standIns := [], harness := (true, "1131edfed5f1d45447c1561afa8b52a742d11ec2af6b8c18ad0f09182d98f454"), looks := false }, kinds := [], alts := [], laidByText := true, laidKinds := [.data], laidTests := true, laidLooks := .later }
def IdentBytesUptoCardSaid : Prop := Claim7.holds Tryd.pinned (.plain (OpenSpec.upto identBytesSpec)) identBytesUptoCard

/-- THE SECOND FORM's CARD OF 'trolleylaw04.IdentNames'. -/
def identNamesUptoCard : Claim7 := { stood := { row := identNamesUptoRow, standIns := [], harness := (true, "1131edfed5f1d45447c1561afa8b52a742d11ec2af6b8c18ad0f09182d98f454"), looks := false }, kinds := [], alts := [], laidByText := true, laidKinds := [.data], laidTests := true, laidLooks := .later }
def IdentNamesUptoCardSaid : Prop := Claim7.holds Tryd.pinned (.plain (OpenSpec.upto identNamesSpec)) identNamesUptoCard

/-- THE SECOND FORM's CARD OF 'trolleylaw04.IdentHalves'. -/
def identHalvesUptoCard : Claim7 := { stood := { row := identHalvesUptoRow, standIns := [], harness := (true, "1131edfed5f1d45447c1561afa8b52a742d11ec2af6b8c18ad0f09182d98f454"), looks := false }, kinds := [], alts := [], laidByText := true, laidKinds := [.data], laidTests := true, laidLooks := .later }
def IdentHalvesUptoCardSaid : Prop := Claim7.holds Tryd.pinned (.plain (OpenSpec.upto identHalvesSpec)) identHalvesUptoCard

/-- THE SECOND FORM's CARD OF 'trolleylaw04.IdentHashes'. -/
def identHashesUptoCard : Claim7 := { stood := { row := identHashesUptoRow, standIns := [], harness := (true, "1131edfed5f1d45447c1561afa8b52a742d11ec2af6b8c18ad0f09182d98f454"), looks := false }, kinds := [], alts := [], laidByText := true, laidKinds := [.data], laidTests := true, laidLooks := .later }
def IdentHashesUptoCardSaid : Prop := Claim7.holds Tryd.pinned (.plain (OpenSpec.upto identHashesSpec)) identHashesUptoCard

/-- THE SECOND FORM's CARD OF 'trolleylaw04.IdentParts'. -/
def identPartsUptoCard : Claim7 := { stood := { row := identPartsUptoRow, standIns := [], harness := (true, "1131edfed5f1d45447c1561afa8b52a742d11ec2af6b8c18ad0f09182d98f454"), looks := false }, kinds := [], alts := [], laidByText := true, laidKinds := [.data], laidTests := true, laidLooks := .later }
def IdentPartsUptoCardSaid : Prop := Claim7.holds Tryd.pinned (.plain (OpenSpec.upto identPartsSpec)) identPartsUptoCard

/-- THE SECOND FORM's CARD OF 'trolleylaw04.IdentBeside'. -/
def identBesideUptoCard : Claim7 := { stood := { row := identBesideUptoRow, standIns := [], harness := (true, "1131edfed5f1d45447c1561afa8b52a742d11ec2af6b8c18ad0f09182d98f454"), looks := false }, kinds := [], alts := [], laidByText := true, laidKinds := [.data], laidTests := true, laidLooks := .later }
def IdentBesideUptoCardSaid : Prop := Claim7.holds Tryd.pinned (.plain (OpenSpec.upto identBesideSpec)) identBesideUptoCard

/-- THE SECOND FORM's CARD OF 'trolleylaw04.IdentBack'. -/
def identBackUptoCard : Claim7 := { stood := { row := identBackUptoRow, standIns := [], harness := (true, "1131edfed5f1d45447c1561afa8b52a742d11ec2af6b8c18ad0f09182d98f454"), looks := false }, kinds := [], alts := [], laidByText := true, laidKinds := [.data], laidTests := true, laidLooks := .later }
def IdentBackUptoCardSaid : Prop := Claim7.holds Tryd.pinned (.plain (OpenSpec.upto identBackSpec)) identBackUptoCard
end Rows
end Go.Proofs.YtikaikleibfkeaaDoor
