/-
  DERIVED. GIVEN WITH THE SEED: THE CARDS: each row of YtalmpcgbghnhpaaGreatDoorRows.lean that lists a variable, with what it lists TIED to the program's text (the seventh form; the later family's looks); each row that meets fmt, with fmt's text TOLD by the authors' own Lean function (tested against real Go, not proved from fmt's source: count such statements apart). THE CARD IS WHAT COUNTS. Prove the row's statement (the work); the ties are given (YtalmpcgbghnhpaaGreatDoorTie.lean); close each card by the builder's one call (the guide's Derived/Test/ToyasCard.lean, 'card_holds'). Laid BY PROGRAM, IN A SANDBOX (cutbox-door.mjs). By AI agents, Wed Nov 11 2026. No macro, syntax, notation, axiom, sorry.
-/
import Derived.Test.YtalmpcgbghnhpaaGreatDoorRows
import GoSem.ClaimSeven
namespace Go.Proofs.YtalmpcgbghnhpaaGreatDoor
namespace Rows

/-- THE TIED CARD OF 'laws.FnExactSystemOfTerm'. -/
def fnExactSystemOfTermCard : Claim7 := { stood := { row := fnExactSystemOfTermRow, standIns := [], harness := (true, "0f9eb00f2f93f29fdbf9c03d9b874ab1285c876e63d74524ba17495f6d61b9bb"), looks := false }, kinds := [], alts := [], laidByText := true, laidKinds := [.data], laidTests := true, laidLooks := .later }
def FnExactSystemOfTermCardSaid : Prop := Claim7.holds Tryz.pinned (.plain (OpenSpec.ofChange fnExactSystemOfTermSpec)) fnExactSystemOfTermCard

/-- THE SECOND FORM's CARD OF 'laws.FnExactSystemOfTerm'. -/
def fnExactSystemOfTermUptoCard : Claim7 := { stood := { row := fnExactSystemOfTermUptoRow, standIns := [], harness := (true, "0f9eb00f2f93f29fdbf9c03d9b874ab1285c876e63d74524ba17495f6d61b9bb"), looks := false }, kinds := [], alts := [], laidByText := true, laidKinds := [.data], laidTests := true, laidLooks := .later }
def FnExactSystemOfTermUptoCardSaid : Prop := Claim7.holds Tryz.pinned (.plain (OpenSpec.upto fnExactSystemOfTermSpec)) fnExactSystemOfTermUptoCard
end Rows
end Go.Proofs.YtalmpcgbghnhpaaGreatDoor
