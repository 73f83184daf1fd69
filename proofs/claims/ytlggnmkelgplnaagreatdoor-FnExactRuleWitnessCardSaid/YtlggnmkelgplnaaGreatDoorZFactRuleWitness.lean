/-
  The facts of the program and of the row of RuleWitness: a text of its own, for the kernel's memory. Printed by a program (wip/y/card.py).
-/
import Derived.Test.YtlggnmkelgplnaaGreatDoorCards
import Derived.WalkKit
import Derived.ProofKit
import Derived.OpenShut
import Derived.Deep.DeepHandedRow
namespace Go.Proofs.YtlggnmkelgplnaaGreatDoor.fnExactRuleWitness
open Go Go.ChangeShapes Go.WideShapes Go.ChangeAt Go.RowKit
theorem facts:joinedFacts Tryz.pinned.checked.prog 7 Tryz.f7 (OpenSpec.ofChange Rows.fnExactRuleWitnessSpec).bare Rows.fnExactRuleWitnessRow=true:=by kernel_rfl
end Go.Proofs.YtlggnmkelgplnaaGreatDoor.fnExactRuleWitness
