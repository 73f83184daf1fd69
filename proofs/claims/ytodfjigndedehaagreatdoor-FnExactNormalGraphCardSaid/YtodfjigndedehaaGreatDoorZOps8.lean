/-
  Arrays of numbers: compared, copied into, sliced as a whole. Conditions: the engine's vD holds ('EngOk').
-/
import Derived.Test.YtodfjigndedehaaGreatDoorZOps7
import Derived.ChangeKeysEq
import Derived.Laws.CopyRow
namespace Go.Proofs.YtodfjigndedehaaGreatDoor.RW
open Go
open Go.RowKit (Below)
open Rep RepZ
section
variable {P:Program}{G:Eng}{w:World}
end
end Go.Proofs.YtodfjigndedehaaGreatDoor.RW
