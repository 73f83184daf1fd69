/-
  Plain law of SameOutputs: the law's partial function yields true. No program in sight. No condition.
-/
import Derived.Test.YteikcdofblclhaaDoorZP8
namespace Go.Proofs.YteikcdofblclhaaDoor

end Go.Proofs.YteikcdofblclhaaDoor
