/-
  DERIVED. GIVEN WITH THE SEED: THE CARDS: each row of YtdmlgmefnikhhaaDoorRows.lean that lists a variable, with what it lists TIED to the program's text (the seventh form; the later family's looks); each row that meets fmt, with fmt's text TOLD by the authors' own Lean function (tested against real Go, not proved from fmt's source: count such statements apart). THE CARD IS WHAT COUNTS. Prove the row's statement (the work); the ties are given (YtdmlgmefnikhhaaDoorTie.lean); close each card by the builder's one call (the guide's Derived/Test/ToyasCard.lean, 'card_holds'). Laid BY PROGRAM, IN A SANDBOX (cutbox-door.mjs). By AI agents, Wed Nov 11 2026. No macro, syntax, notation, axiom, sorry.
-/
import Derived.Test.YtdmlgmefnikhhaaDoorRows
import GoSem.ClaimSeven
namespace Go.Proofs.YtdmlgmefnikhhaaDoor
namespace Rows

/-- THE TIED CARD OF 'laws.FnExactExtendSequence'. -/
def fnExactExtendSequenceCard : Claim7 := { stood := { row := fnExactExtendSequenceRow, standIns := [], harness := (true, "39a769cec4772e6acbf50cc5c807d0919e969d64a168fd6f3e7674d85e0fb26e"), looks := false }, kinds := [], alts := [], laidByText := true, laidKinds := [.data], laidTests := true, laidLooks := .later }
def FnExactExtendSequenceCardSaid : Prop := Claim7.holds Tryd.pinned (.plain (OpenSpec.ofChange fnExactExtendSequenceSpec)) fnExactExtendSequenceCard

/-- THE SECOND FORM's CARD OF 'laws.FnExactExtendSequence'. -/
def fnExactExtendSequenceUptoCard : Claim7 := { stood := { row := fnExactExtendSequenceUptoRow, standIns := [], harness := (true, "39a769cec4772e6acbf50cc5c807d0919e969d64a168fd6f3e7674d85e0fb26e"), looks := false }, kinds := [], alts := [], laidByText := true, laidKinds := [.data], laidTests := true, laidLooks := .later }
def FnExactExtendSequenceUptoCardSaid : Prop := Claim7.holds Tryd.pinned (.plain (OpenSpec.upto fnExactExtendSequenceSpec)) fnExactExtendSequenceUptoCard
end Rows
end Go.Proofs.YtdmlgmefnikhhaaDoor
