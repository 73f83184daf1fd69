/-
  The facts of the program and of the row of EqualClasses: a text of its own, for the kernel's memory. Printed by a program (wip/y/card.py).
-/
import Derived.Test.YtemcakhocdchiaaGreatDoorCards
import Derived.WalkKit
import Derived.ProofKit
import Derived.OpenShut
import Derived.Deep.DeepHandedRow
namespace Go.Proofs.YtemcakhocdchiaaGreatDoor.fnExactEqualClasses
open Go Go.ChangeShapes Go.WideShapes Go.ChangeAt Go.RowKit
theorem facts:joinedFacts Tryz.pinned.checked.prog 3 Tryz.f3 (OpenSpec.ofChange Rows.fnExactEqualClassesSpec).bare Rows.fnExactEqualClassesRow=true:=by kernel_rfl
end Go.Proofs.YtemcakhocdchiaaGreatDoor.fnExactEqualClasses
