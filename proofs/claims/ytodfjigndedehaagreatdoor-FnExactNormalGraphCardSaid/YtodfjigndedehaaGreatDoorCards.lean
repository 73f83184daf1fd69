/-
  DERIVED. GIVEN WITH THE SEED: THE CARDS: each row of YtodfjigndedehaaGreatDoorRows.lean that lists a variable, with what it lists TIED to the program's text (the seventh form; the later family's looks); each row that meets fmt, with fmt's text TOLD by the authors' own Lean function (tested against real Go, not proved from fmt's source: count such statements apart). THE CARD IS WHAT COUNTS. Prove the row's statement (the work); the ties are given (YtodfjigndedehaaGreatDoorTie.lean); close each card by the builder's one call (the guide's Derived/Test/ToyasCard.lean, 'card_holds'). Laid BY PROGRAM, IN A SANDBOX (cutbox-door.mjs). By AI agents, Wed Nov 11 2026. No macro, syntax, notation, axiom, sorry.
-/
import Derived.Test.YtodfjigndedehaaGreatDoorRows
import GoSem.ClaimSeven
namespace Go.Proofs.YtodfjigndedehaaGreatDoor
namespace Rows

/-- THE TIED CARD OF 'laws.FnExactNormalGraph'. -/
def fnExactNormalGraphCard : Claim7 := { stood := { row := fnExactNormalGraphRow, standIns := [], harness := (true, "c64c5739153edf7c5cb63187e7a856a6dda7ac3c3da3c841635cc2bb549413e2"), looks := false }, kinds := [], alts := [], laidByText := true, laidKinds := [.data], laidTests := true, laidLooks := .later }
def FnExactNormalGraphCardSaid : Prop := Claim7.holds Tryz.pinned (.plain (OpenSpec.ofChange fnExactNormalGraphSpec)) fnExactNormalGraphCard

/-- THE SECOND FORM's CARD OF 'laws.FnExactNormalGraph'. -/
def fnExactNormalGraphUptoCard : Claim7 := { stood := { row := fnExactNormalGraphUptoRow, standIns := [], harness := (true, "c64c5739153edf7c5cb63187e7a856a6dda7ac3c3da3c841635cc2bb549413e2"), looks := false }, kinds := [], alts := [], laidByText := true, laidKinds := [.data], laidTests := true, laidLooks := .later }
def FnExactNormalGraphUptoCardSaid : Prop := Claim7.holds Tryz.pinned (.plain (OpenSpec.upto fnExactNormalGraphSpec)) fnExactNormalGraphUptoCard
end Rows
end Go.Proofs.YtodfjigndedehaaGreatDoor
