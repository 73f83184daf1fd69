/-
  The facts of the program and of the row of HasPair: a text of its own, for the kernel's memory. Printed by a program (wip/y/card.py).
-/
import Derived.Test.YtnlbhdepagkjgaaDoorCards
import Derived.WalkKit
import Derived.ProofKit
import Derived.OpenShut
import Derived.Deep.DeepHandedRow
namespace Go.Proofs.YtnlbhdepagkjgaaDoor.fnExactHasPair
open Go Go.ChangeShapes Go.WideShapes Go.ChangeAt Go.RowKit
theorem facts : joinedFacts Tryd.pinned.checked.prog 8 Tryd.f8 (OpenSpec.ofChange Rows.fnExactHasPairSpec).bare Rows.fnExactHasPairRow = true := by kernel_rfl
end Go.Proofs.YtnlbhdepagkjgaaDoor.fnExactHasPair
