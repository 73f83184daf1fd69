/-
  Arrays of numbers: compared, copied into, sliced as a whole. Conditions: the engine's table holds ('EngOk').
-/
import Derived.Test.YtbofgnbanmbopaaGreatDoorZOps7
import Derived.ChangeKeysEq
import Derived.Laws.CopyRow
namespace Go.Proofs.YtbofgnbanmbopaaGreatDoor.RW
open Go
open Go.RowKit (Below)
open Rep RepZ
section
variable {P : Program} {G : Eng} {w : World}

end
end Go.Proofs.YtbofgnbanmbopaaGreatDoor.RW
