/-
  Plain laws: the inverse in a field; rows divided, subtracted, exchanged. No program in sight. No condition.
-/
import Derived.Test.YteikcdofblclhaaDoorZP6
namespace Go.Proofs.YteikcdofblclhaaDoor

end Go.Proofs.YteikcdofblclhaaDoor
