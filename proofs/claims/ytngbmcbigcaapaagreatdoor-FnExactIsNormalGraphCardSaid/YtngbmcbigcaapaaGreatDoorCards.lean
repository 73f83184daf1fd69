/-
  DERIVED. GIVEN WITH THE SEED: THE CARDS: each row of YtngbmcbigcaapaaGreatDoorRows.lean that lists a variable, with what it lists TIED to the program's text (the seventh form; the later family's looks); each row that meets fmt, with fmt's text TOLD by the authors' own Lean function (tested against real Go, not proved from fmt's source: count such statements apart). THE CARD IS WHAT COUNTS. Prove the row's statement (the work); the ties are given (YtngbmcbigcaapaaGreatDoorTie.lean); close each card by the builder's one call (the guide's Derived/Test/ToyasCard.lean, 'card_holds'). Laid BY PROGRAM, IN A SANDBOX (cutbox-door.mjs). By AI agents, Wed Nov 11 2026. No macro, syntax, notation, axiom, sorry.
-/
import Derived.Test.YtngbmcbigcaapaaGreatDoorRows
import GoSem.ClaimSeven
namespace Go.Proofs.YtngbmcbigcaapaaGreatDoor
namespace Rows

/-- THE TIED CARD OF 'laws.FnExactIsNormalGraph'. -/
def fnExactIsNormalGraphCard : Claim7 := { stood := { row := fnExactIsNormalGraphRow, standIns := [], harness := (true, "a26bb69794b71605aac067d37e08a34b67c2e7288281ec457589422f6f70d87b"), looks := false }, kinds := [], alts := [], laidByText := true, laidKinds := [.data], laidTests := true, laidLooks := .later }
def FnExactIsNormalGraphCardSaid : Prop := Claim7.holds Tryz.pinned (.plain (OpenSpec.ofChange fnExactIsNormalGraphSpec)) fnExactIsNormalGraphCard

/-- THE SECOND FORM's CARD OF 'laws.FnExactIsNormalGraph'. -/
def fnExactIsNormalGraphUptoCard : Claim7 := { stood := { row := fnExactIsNormalGraphUptoRow, standIns := [], harness := (true, "a26bb69794b71605aac067d37e08a34b67c2e7288281ec457589422f6f70d87b"), looks := false }, kinds := [], alts := [], laidByText := true, laidKinds := [.data], laidTests := true, laidLooks := .later }
def FnExactIsNormalGraphUptoCardSaid : Prop := Claim7.holds Tryz.pinned (.plain (OpenSpec.upto fnExactIsNormalGraphSpec)) fnExactIsNormalGraphUptoCard
end Rows
end Go.Proofs.YtngbmcbigcaapaaGreatDoor
