/-
  Trees: values behind an interface. Made, asked for their kind, their nodes asked for. Conditions: the engine's table holds ('EngOk').
-/
import Derived.Test.YtbofgnbanmbopaaGreatZOps17
import Derived.Test.YtbofgnbanmbopaaGreatZEng
import Derived.Lib.AppendZeros
namespace Go.Proofs.YtbofgnbanmbopaaGreat.RW
open Go
open Rep RepZ
section
variable {P : Program} {G : Eng} {w w0 : World} {F : List Nat} {S0 : Nat → Prop} {Γ : List Ent} {K : Value → World → Prop}
/-! ### methods behind an interface -/
end
end Go.Proofs.YtbofgnbanmbopaaGreat.RW
