/-
  The facts of the program and of the row of RuleChange: a text of its own, for the kernel's memory. Printed by a program (wip/y/card.py).
-/
import Derived.Test.YtciiinolpaohpaaRows
import Derived.WalkKit
import Derived.ProofKit
import Derived.OpenShut
import Derived.Deep.DeepHandedRow
namespace Go.Proofs.Ytciiinolpaohpaa.fnExactRuleChange
open Go Go.ChangeShapes Go.WideShapes Go.ChangeAt Go.RowKit
theorem facts : joinedFacts Try.pinned.checked.prog 5 Try.f5 (OpenSpec.ofChange Rows.fnExactRuleChangeSpec).bare Rows.fnExactRuleChangeRow = true := by kernel_rfl
end Go.Proofs.Ytciiinolpaohpaa.fnExactRuleChange
