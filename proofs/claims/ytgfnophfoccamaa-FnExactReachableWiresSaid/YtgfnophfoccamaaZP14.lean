/-
  Plain laws: matrices, responses, Hankel rows; the law of HankelRank. No program in sight. No condition.
-/
import Derived.Test.YtgfnophfoccamaaZP13
namespace Go.Proofs.Ytgfnophfoccamaa

/-! ### lists of matrices in the law -/

/-! ### matrices and responses -/
end Go.Proofs.Ytgfnophfoccamaa
