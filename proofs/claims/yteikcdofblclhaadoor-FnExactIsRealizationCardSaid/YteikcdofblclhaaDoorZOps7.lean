/-
  Structs of numbers compared. Conditions: the engine's table holds ('EngOk').
-/
import Derived.Test.YteikcdofblclhaaDoorZOps6
import Derived.Laws.StructEq
namespace Go.Proofs.YteikcdofblclhaaDoor.RW
open Go
section
variable {P : Program} {G : Eng} {w : World}

end
end Go.Proofs.YteikcdofblclhaaDoor.RW
