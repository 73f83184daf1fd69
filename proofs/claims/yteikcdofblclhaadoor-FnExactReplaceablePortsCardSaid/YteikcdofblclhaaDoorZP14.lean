/-
  Plain laws: matrices, responses, Hankel rows; the law of HankelRank. No program in sight. No condition.
-/
import Derived.Test.YteikcdofblclhaaDoorZP13
namespace Go.Proofs.YteikcdofblclhaaDoor

/-! ### lists of matrices in the law -/

/-! ### matrices and responses -/
end Go.Proofs.YteikcdofblclhaaDoor
