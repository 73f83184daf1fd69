/-
  The facts of the program and of the row of RelationOfFunction: a text of its own, for the kernel's memory. Printed by a program (wip/y/card.py).
-/
import Derived.Test.YteikcdofblclhaaDoorCards
import Derived.WalkKit
import Derived.ProofKit
import Derived.OpenShut
import Derived.Deep.DeepHandedRow
namespace Go.Proofs.YteikcdofblclhaaDoor.fnExactRelationOfFunction
open Go Go.ChangeShapes Go.WideShapes Go.ChangeAt Go.RowKit
theorem facts : joinedFacts Tryd.pinned.checked.prog 5 Tryd.f5 (OpenSpec.ofChange Rows.fnExactRelationOfFunctionSpec).bare Rows.fnExactRelationOfFunctionRow = true := by kernel_rfl
end Go.Proofs.YteikcdofblclhaaDoor.fnExactRelationOfFunction
