/-
  The facts of the program and of the row of NormalGraph: a text of its own, for the kernel's memory. Printed by a program (wip/y/card.py).
-/
import Derived.Test.YtodfjigndedehaaGreatDoorCards
import Derived.WalkKit
import Derived.ProofKit
import Derived.OpenShut
import Derived.Deep.DeepHandedRow
namespace Go.Proofs.YtodfjigndedehaaGreatDoor.fnExactNormalGraph
open Go Go.ChangeShapes Go.WideShapes Go.ChangeAt Go.RowKit
theorem facts:joinedFacts Tryz.pinned.checked.prog 3 Tryz.f3 (OpenSpec.ofChange Rows.fnExactNormalGraphSpec).bare Rows.fnExactNormalGraphRow=true:=by kernel_rfl
end Go.Proofs.YtodfjigndedehaaGreatDoor.fnExactNormalGraph
