/-
  Plain laws: the reference's reduction of a matrix with its transforming matrix; linear equations. No program in sight. No condition.
-/
import Derived.Test.YtgfnophfoccamaaZP17
import Derived.Test.YtgfnophfoccamaaZP14
namespace Go.Proofs.Ytgfnophfoccamaa
set_option linter.unusedVariables false

/-! ### identity matrices -/

/-! ### linear equations -/
end Go.Proofs.Ytgfnophfoccamaa
