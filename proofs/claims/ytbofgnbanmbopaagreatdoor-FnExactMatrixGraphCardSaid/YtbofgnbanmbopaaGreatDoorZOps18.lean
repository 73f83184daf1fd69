/-
  Trees: values behind an interface. Made, asked for their kind, their nodes asked for. Conditions: the engine's table holds ('EngOk').
-/
import Derived.Test.YtbofgnbanmbopaaGreatDoorZOps17
import Derived.Test.YtbofgnbanmbopaaGreatDoorZEng
import Derived.Lib.AppendZeros
namespace Go.Proofs.YtbofgnbanmbopaaGreatDoor.RW
open Go
open Rep RepZ
section
variable {P : Program} {G : Eng} {w w0 : World} {F : List Nat} {S0 : Nat → Prop} {Γ : List Ent} {K : Value → World → Prop}
/-! ### methods behind an interface -/
end
end Go.Proofs.YtbofgnbanmbopaaGreatDoor.RW
