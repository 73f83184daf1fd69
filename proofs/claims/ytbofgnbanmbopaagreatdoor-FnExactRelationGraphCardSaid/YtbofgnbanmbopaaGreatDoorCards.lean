/-
  DERIVED. GIVEN WITH THE SEED: THE CARDS: each row of YtbofgnbanmbopaaGreatDoorRows.lean that lists a variable, with what it lists TIED to the program's text (the seventh form; the later family's looks); each row that meets fmt, with fmt's text TOLD by the authors' own Lean function (tested against real Go, not proved from fmt's source: count such statements apart). THE CARD IS WHAT COUNTS. Prove the row's statement (the work); the ties are given (YtbofgnbanmbopaaGreatDoorTie.lean); close each card by the builder's one call (the guide's Derived/Test/ToyasCard.lean, 'card_holds'). Laid BY PROGRAM, IN A SANDBOX (cutbox-door.mjs). By AI agents, Wed Nov 11 2026. No macro, syntax, notation, axiom, sorry.
-/
import Derived.Test.YtbofgnbanmbopaaGreatDoorRows
import GoSem.ClaimSeven
namespace Go.Proofs.YtbofgnbanmbopaaGreatDoor
namespace Rows

/-- THE TIED CARD OF 'laws.FnExactRelationGraph'. -/
def fnExactRelationGraphCard : Claim7 := { stood := { row := fnExactRelationGraphRow, standIns := [], harness := (true, "bf17267729b9a20577fe4ace0ea9e4b9c2b6f4e38077dfa02712e5565772001b"), looks := false }, kinds := [], alts := [], laidByText := true, laidKinds := [.data], laidTests := true, laidLooks := .later }
def FnExactRelationGraphCardSaid : Prop := Claim7.holds Tryz.pinned (.plain (OpenSpec.ofChange fnExactRelationGraphSpec)) fnExactRelationGraphCard

/-- THE TIED CARD OF 'laws.FnExactMatrixGraph'. -/
def fnExactMatrixGraphCard : Claim7 := { stood := { row := fnExactMatrixGraphRow, standIns := [], harness := (true, "bf17267729b9a20577fe4ace0ea9e4b9c2b6f4e38077dfa02712e5565772001b"), looks := false }, kinds := [], alts := [], laidByText := true, laidKinds := [.data], laidTests := true, laidLooks := .later }
def FnExactMatrixGraphCardSaid : Prop := Claim7.holds Tryz.pinned (.plain (OpenSpec.ofChange fnExactMatrixGraphSpec)) fnExactMatrixGraphCard

/-- THE SECOND FORM's CARD OF 'laws.FnExactRelationGraph'. -/
def fnExactRelationGraphUptoCard : Claim7 := { stood := { row := fnExactRelationGraphUptoRow, standIns := [], harness := (true, "bf17267729b9a20577fe4ace0ea9e4b9c2b6f4e38077dfa02712e5565772001b"), looks := false }, kinds := [], alts := [], laidByText := true, laidKinds := [.data], laidTests := true, laidLooks := .later }
def FnExactRelationGraphUptoCardSaid : Prop := Claim7.holds Tryz.pinned (.plain (OpenSpec.upto fnExactRelationGraphSpec)) fnExactRelationGraphUptoCard

/-- THE SECOND FORM's CARD OF 'laws.FnExactMatrixGraph'. -/
def fnExactMatrixGraphUptoCard : Claim7 := { stood := { row := fnExactMatrixGraphUptoRow, standIns := [], harness := (true, "bf17267729b9a20577fe4ace0ea9e4b9c2b6f4e38077dfa02712e5565772001b"), looks := false }, kinds := [], alts := [], laidByText := true, laidKinds := [.data], laidTests := true, laidLooks := .later }
def FnExactMatrixGraphUptoCardSaid : Prop := Claim7.holds Tryz.pinned (.plain (OpenSpec.upto fnExactMatrixGraphSpec)) fnExactMatrixGraphUptoCard
end Rows
end Go.Proofs.YtbofgnbanmbopaaGreatDoor
