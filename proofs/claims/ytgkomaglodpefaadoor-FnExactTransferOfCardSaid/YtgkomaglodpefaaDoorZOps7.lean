/-
  Structs of numbers compared. Conditions: the engine's table holds ('EngOk').
-/
import Derived.Test.YtgkomaglodpefaaDoorZOps6
import Derived.Laws.StructEq
namespace Go.Proofs.YtgkomaglodpefaaDoor.RW
open Go
section
variable {P : Program} {G : Eng} {w : World}

end
end Go.Proofs.YtgkomaglodpefaaDoor.RW
