/-
  Plain laws: a reduction, in the reference and in the program, step by step alike. No program in sight. No condition.
-/
import Derived.Test.YteikcdofblclhaaDoorZP11
namespace Go.Proofs.YteikcdofblclhaaDoor

/-! ### lists changed at every place -/

/-! ### the steps -/

/-! ### the reference -/
end Go.Proofs.YteikcdofblclhaaDoor
