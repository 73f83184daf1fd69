/-
  Plain law of MarkovParameters: the law's partial function yields true. No program in sight. No condition.
-/
import Derived.Test.YteikcdofblclhaaDoorZP7
namespace Go.Proofs.YteikcdofblclhaaDoor

end Go.Proofs.YteikcdofblclhaaDoor
