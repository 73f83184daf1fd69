/-
  The facts of the program and of the row of AreRules: a text of its own, for the kernel's memory. Printed by a program (wip/y/card.py).
-/
import Derived.Test.YtaiddnddgmkfnaaRows
import Derived.WalkKit
import Derived.ProofKit
import Derived.OpenShut
import Derived.Deep.DeepHandedRow
namespace Go.Proofs.Ytaiddnddgmkfnaa.fnExactAreRules
open Go Go.ChangeShapes Go.WideShapes Go.ChangeAt Go.RowKit
theorem facts : joinedFacts Try.pinned.checked.prog 3 Try.f3 (OpenSpec.ofChange Rows.fnExactAreRulesSpec).bare Rows.fnExactAreRulesRow = true := by kernel_rfl
end Go.Proofs.Ytaiddnddgmkfnaa.fnExactAreRules
