/-
  DERIVED. GIVEN WITH THE SEED: THE CARDS: each row of YtgnlfjlenjfffaaDoorRows.lean that lists a variable, with what it lists TIED to the program's text (the seventh form; the later family's looks); each row that meets fmt, with fmt's text TOLD by the authors' own Lean function (tested against real Go, not proved from fmt's source: count such statements apart). THE CARD IS WHAT COUNTS. Prove the row's statement (the work); the ties are given (YtgnlfjlenjfffaaDoorTie.lean); close each card by the builder's one call (the guide's Derived/Test/ToyasCard.lean, 'card_holds'). Laid BY PROGRAM, IN A SANDBOX (cutbox-door.mjs). By AI agents, Wed Nov 11 2026. No macro, syntax, notation, axiom, sorry.
-/
import Derived.Test.YtgnlfjlenjfffaaDoorRows
import GoSem.ClaimSeven
namespace Go.Proofs.YtgnlfjlenjfffaaDoor
namespace Rows

/-- THE TIED CARD OF 'laws.FnExactHankelOf'. -/
def fnExactHankelOfCard : Claim7 := { stood := { row := fnExactHankelOfRow, standIns := [], harness := (true, "a8c1350db9e7ff48a8a51af7ccf4ccfe3c64f70e99dd6990567e7c906cf501ce"), looks := false }, kinds := [], alts := [], laidByText := true, laidKinds := [.data], laidTests := true, laidLooks := .later }
def FnExactHankelOfCardSaid : Prop := Claim7.holds Tryd.pinned (.plain (OpenSpec.ofChange fnExactHankelOfSpec)) fnExactHankelOfCard

/-- THE TIED CARD OF 'laws.FnExactSameOutputs'. -/
def fnExactSameOutputsCard : Claim7 := { stood := { row := fnExactSameOutputsRow, standIns := [], harness := (true, "a8c1350db9e7ff48a8a51af7ccf4ccfe3c64f70e99dd6990567e7c906cf501ce"), looks := false }, kinds := [], alts := [], laidByText := true, laidKinds := [.data], laidTests := true, laidLooks := .later }
def FnExactSameOutputsCardSaid : Prop := Claim7.holds Tryd.pinned (.plain (OpenSpec.ofChange fnExactSameOutputsSpec)) fnExactSameOutputsCard

/-- THE TIED CARD OF 'laws.FnExactHankelRank'. -/
def fnExactHankelRankCard : Claim7 := { stood := { row := fnExactHankelRankRow, standIns := [], harness := (true, "a8c1350db9e7ff48a8a51af7ccf4ccfe3c64f70e99dd6990567e7c906cf501ce"), looks := false }, kinds := [], alts := [], laidByText := true, laidKinds := [.data], laidTests := true, laidLooks := .later }
def FnExactHankelRankCardSaid : Prop := Claim7.holds Tryd.pinned (.plain (OpenSpec.ofChange fnExactHankelRankSpec)) fnExactHankelRankCard

/-- THE TIED CARD OF 'laws.FnExactMarkovParameters'. -/
def fnExactMarkovParametersCard : Claim7 := { stood := { row := fnExactMarkovParametersRow, standIns := [], harness := (true, "a8c1350db9e7ff48a8a51af7ccf4ccfe3c64f70e99dd6990567e7c906cf501ce"), looks := false }, kinds := [], alts := [], laidByText := true, laidKinds := [.data], laidTests := true, laidLooks := .later }
def FnExactMarkovParametersCardSaid : Prop := Claim7.holds Tryd.pinned (.plain (OpenSpec.ofChange fnExactMarkovParametersSpec)) fnExactMarkovParametersCard

/-- THE SECOND FORM's CARD OF 'laws.FnExactHankelOf'. -/
def fnExactHankelOfUptoCard : Claim7 := { stood := { row := fnExactHankelOfUptoRow, standIns := [], harness := (true, "a8c1350db9e7ff48a8a51af7ccf4ccfe3c64f70e99dd6990567e7c906cf501ce"), looks := false }, kinds := [], alts := [], laidByText := true, laidKinds := [.data], laidTests := true, laidLooks := .later }
def FnExactHankelOfUptoCardSaid : Prop := Claim7.holds Tryd.pinned (.plain (OpenSpec.upto fnExactHankelOfSpec)) fnExactHankelOfUptoCard

/-- THE SECOND FORM's CARD OF 'laws.FnExactSameOutputs'. -/
def fnExactSameOutputsUptoCard : Claim7 := { stood := { row := fnExactSameOutputsUptoRow, standIns := [], harness := (true, "a8c1350db9e7ff48a8a51af7ccf4ccfe3c64f70e99dd6990567e7c906cf501ce"), looks := false }, kinds := [], alts := [], laidByText := true, laidKinds := [.data], laidTests := true, laidLooks := .later }
def FnExactSameOutputsUptoCardSaid : Prop := Claim7.holds Tryd.pinned (.plain (OpenSpec.upto fnExactSameOutputsSpec)) fnExactSameOutputsUptoCard

/-- THE SECOND FORM's CARD OF 'laws.FnExactHankelRank'. -/
def fnExactHankelRankUptoCard : Claim7 := { stood := { row := fnExactHankelRankUptoRow, standIns := [], harness := (true, "a8c1350db9e7ff48a8a51af7ccf4ccfe3c64f70e99dd6990567e7c906cf501ce"), looks := false }, kinds := [], alts := [], laidByText := true, laidKinds := [.data], laidTests := true, laidLooks := .later }
def FnExactHankelRankUptoCardSaid : Prop := Claim7.holds Tryd.pinned (.plain (OpenSpec.upto fnExactHankelRankSpec)) fnExactHankelRankUptoCard

/-- THE SECOND FORM's CARD OF 'laws.FnExactMarkovParameters'. -/
def fnExactMarkovParametersUptoCard : Claim7 := { stood := { row := fnExactMarkovParametersUptoRow, standIns := [], harness := (true, "a8c1350db9e7ff48a8a51af7ccf4ccfe3c64f70e99dd6990567e7c906cf501ce"), looks := false }, kinds := [], alts := [], laidByText := true, laidKinds := [.data], laidTests := true, laidLooks := .later }
def FnExactMarkovParametersUptoCardSaid : Prop := Claim7.holds Tryd.pinned (.plain (OpenSpec.upto fnExactMarkovParametersSpec)) fnExactMarkovParametersUptoCard
end Rows
end Go.Proofs.YtgnlfjlenjfffaaDoor
