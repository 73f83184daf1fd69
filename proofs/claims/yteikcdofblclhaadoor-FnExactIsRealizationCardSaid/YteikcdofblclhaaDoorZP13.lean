/-
  Plain laws: a reduction in the program; both reductions yield the same rows. No program in sight. No condition.
-/
import Derived.Test.YteikcdofblclhaaDoorZP12
namespace Go.Proofs.YteikcdofblclhaaDoor

/-! ### the whole -/
end Go.Proofs.YteikcdofblclhaaDoor
