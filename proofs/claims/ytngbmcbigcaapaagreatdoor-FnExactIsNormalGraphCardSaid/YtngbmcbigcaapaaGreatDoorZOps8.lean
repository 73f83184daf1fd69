/-
  Arrays of numbers: compared, copied into, sliced as a whole. Conditions: the engine's eD holds ('EngOk').
-/
import Derived.Test.YtngbmcbigcaapaaGreatDoorZOps7
import Derived.ChangeKeysEq
import Derived.Laws.CopyRow
namespace Go.Proofs.YtngbmcbigcaapaaGreatDoor.RW
open Go
open Go.RowKit (Below)
open Rep RepZ
section
variable {P:Program}{G:Eng}{w:World}
end
end Go.Proofs.YtngbmcbigcaapaaGreatDoor.RW
