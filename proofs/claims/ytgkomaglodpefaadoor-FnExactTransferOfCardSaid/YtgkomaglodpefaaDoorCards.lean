/-
  DERIVED. GIVEN WITH THE SEED: THE CARDS: each row of YtgkomaglodpefaaDoorRows.lean that lists a variable, with what it lists TIED to the program's text (the seventh form; the later family's looks); each row that meets fmt, with fmt's text TOLD by the authors' own Lean function (tested against real Go, not proved from fmt's source: count such statements apart). THE CARD IS WHAT COUNTS. Prove the row's statement (the work); the ties are given (YtgkomaglodpefaaDoorTie.lean); close each card by the builder's one call (the guide's Derived/Test/ToyasCard.lean, 'card_holds'). Laid BY PROGRAM, IN A SANDBOX (cutbox-door.mjs). By AI agents, Wed Nov 11 2026. No macro, syntax, notation, axiom, sorry.
-/
import Derived.Test.YtgkomaglodpefaaDoorRows
import GoSem.ClaimSeven
namespace Go.Proofs.YtgkomaglodpefaaDoor
namespace Rows

/-- THE TIED CARD OF 'laws.FnExactTransferOf'. -/
def fnExactTransferOfCard : Claim7 := { stood := { row := fnExactTransferOfRow, standIns := [], harness := (true, "70eabfd5412d68c67cd1c3630e25e84d57f9f6ae0167cf60c37d27d9486f9bda"), looks := false }, kinds := [], alts := [], laidByText := true, laidKinds := [.data], laidTests := true, laidLooks := .later }
def FnExactTransferOfCardSaid : Prop := Claim7.holds Tryd.pinned (.plain (OpenSpec.ofChange fnExactTransferOfSpec)) fnExactTransferOfCard

/-- THE SECOND FORM's CARD OF 'laws.FnExactTransferOf'. -/
def fnExactTransferOfUptoCard : Claim7 := { stood := { row := fnExactTransferOfUptoRow, standIns := [], harness := (true, "70eabfd5412d68c67cd1c3630e25e84d57f9f6ae0167cf60c37d27d9486f9bda"), looks := false }, kinds := [], alts := [], laidByText := true, laidKinds := [.data], laidTests := true, laidLooks := .later }
def FnExactTransferOfUptoCardSaid : Prop := Claim7.holds Tryd.pinned (.plain (OpenSpec.upto fnExactTransferOfSpec)) fnExactTransferOfUptoCard
end Rows
end Go.Proofs.YtgkomaglodpefaaDoor
