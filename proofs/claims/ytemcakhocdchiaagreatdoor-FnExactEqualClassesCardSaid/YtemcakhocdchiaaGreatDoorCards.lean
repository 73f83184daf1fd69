/-
  DERIVED. GIVEN WITH THE SEED: THE CARDS: each row of YtemcakhocdchiaaGreatDoorRows.lean that lists a variable, with what it lists TIED to the program's text (the seventh form; the later family's looks); each row that meets fmt, with fmt's text TOLD by the authors' own Lean function (tested against real Go, not proved from fmt's source: count such statements apart). THE CARD IS WHAT COUNTS. Prove the row's statement (the work); the ties are given (YtemcakhocdchiaaGreatDoorTie.lean); close each card by the builder's one call (the guide's Derived/Test/ToyasCard.lean, 'card_holds'). Laid BY PROGRAM, IN A SANDBOX (cutbox-door.mjs). By AI agents, Wed Nov 11 2026. No macro, syntax, notation, axiom, sorry.
-/
import Derived.Test.YtemcakhocdchiaaGreatDoorRows
import GoSem.ClaimSeven
namespace Go.Proofs.YtemcakhocdchiaaGreatDoor
namespace Rows

/-- THE TIED CARD OF 'laws.FnExactEqualClasses'. -/
def fnExactEqualClassesCard : Claim7 := { stood := { row := fnExactEqualClassesRow, standIns := [], harness := (true, "201ff670cb18d2d394bbcb191302c6e8e979e3dfe634aa74a0959e7f57d07d37"), looks := false }, kinds := [], alts := [], laidByText := true, laidKinds := [.data], laidTests := true, laidLooks := .later }
def FnExactEqualClassesCardSaid : Prop := Claim7.holds Tryz.pinned (.plain (OpenSpec.ofChange fnExactEqualClassesSpec)) fnExactEqualClassesCard

/-- THE SECOND FORM's CARD OF 'laws.FnExactEqualClasses'. -/
def fnExactEqualClassesUptoCard : Claim7 := { stood := { row := fnExactEqualClassesUptoRow, standIns := [], harness := (true, "201ff670cb18d2d394bbcb191302c6e8e979e3dfe634aa74a0959e7f57d07d37"), looks := false }, kinds := [], alts := [], laidByText := true, laidKinds := [.data], laidTests := true, laidLooks := .later }
def FnExactEqualClassesUptoCardSaid : Prop := Claim7.holds Tryz.pinned (.plain (OpenSpec.upto fnExactEqualClassesSpec)) fnExactEqualClassesUptoCard
end Rows
end Go.Proofs.YtemcakhocdchiaaGreatDoor
