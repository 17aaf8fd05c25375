/-
  DERIVED. GIVEN WITH THE SEED: THE CARDS: each row of YtflmlkaiahpnmaaDoorRows.lean that lists a variable, with what it lists TIED to the program's text (the seventh form; the later family's looks); each row that meets fmt, with fmt's text TOLD by the authors' own Lean function (tested against real Go, not proved from fmt's source: count such statements apart). THE CARD IS WHAT COUNTS. Prove the row's statement (the work); the ties are given (YtflmlkaiahpnmaaDoorTie.lean); close each card by the builder's one call (the guide's Derived/Test/ToyasCard.lean, 'card_holds'). Laid BY PROGRAM, IN A SANDBOX (cutbox-door.mjs). By AI agents, Wed Nov 11 2026. No macro, syntax, notation, axiom, sorry.
-/
import Derived.Test.YtflmlkaiahpnmaaDoorRows
import GoSem.ClaimSeven
namespace Go.Proofs.YtflmlkaiahpnmaaDoor
namespace Rows

/-- THE TIED CARD OF 'trolleylaw11.TillBack'. -/
def tillBackCard : Claim7 := { stood := { row := tillBackRow, standIns := [], harness := (true, "5784a0746fa33645cbf61f03c111227cb6ddbfe28ca2afb94e060a0d45784178"), looks := true }, kinds := [], alts := [], laidByText := true, laidKinds := [.data, .data, .data, .data, .sentinel, .sentinel, .pinned], laidTests := true, laidLooks := .later }
def TillBackCardSaid : Prop := Claim7.holds Tryd.pinned (.plain (OpenSpec.ofChange tillBackSpec)) tillBackCard

/-- THE TIED CARD OF 'trolleylaw11.TillPrices'. -/
def tillPricesCard : Claim7 := { stood := { row := tillPricesRow, standIns := [], harness := (true, "5784a0746fa33645cbf61f03c111227cb6ddbfe28ca2afb94e060a0d45784178"), looks := true }, kinds := [], alts := [], laidByText := true, laidKinds := [.data, .data, .data, .data, .sentinel, .sentinel, .pinned], laidTests := true, laidLooks := .later }
def TillPricesCardSaid : Prop := Claim7.holds Tryd.pinned (.plain (OpenSpec.ofChange tillPricesSpec)) tillPricesCard

/-- THE SECOND FORM's CARD OF 'trolleylaw11.TillBack'. -/
def tillBackUptoCard : Claim7 := { stood := { row := tillBackUptoRow, standIns := [], harness := (true, "5784a0746fa33645cbf61f03c111227cb6ddbfe28ca2afb94e060a0d45784178"), looks := true }, kinds := [], alts := [], laidByText := true, laidKinds := [.data, .data, .data, .data, .sentinel, .sentinel, .pinned], laidTests := true, laidLooks := .later }
def TillBackUptoCardSaid : Prop := Claim7.holds Tryd.pinned (.plain (OpenSpec.upto tillBackSpec)) tillBackUptoCard

/-- THE SECOND FORM's CARD OF 'trolleylaw11.TillPrices'. -/
def tillPricesUptoCard : Claim7 := { stood := { row := tillPricesUptoRow, standIns := [], harness := (true, "5784a0746fa33645cbf61f03c111227cb6ddbfe28ca2afb94e060a0d45784178"), looks := true }, kinds := [], alts := [], laidByText := true, laidKinds := [.data, .data, .data, .data, .sentinel, .sentinel, .pinned], laidTests := true, laidLooks := .later }
def TillPricesUptoCardSaid : Prop := Claim7.holds Tryd.pinned (.plain (OpenSpec.upto tillPricesSpec)) tillPricesUptoCard
end Rows
end Go.Proofs.YtflmlkaiahpnmaaDoor
