/-
  Plain laws: a reduction in the program; both reductions yield the same rows. No program in sight. No condition.
-/
import Derived.Test.YtgfnophfoccamaaZP12
namespace Go.Proofs.Ytgfnophfoccamaa

/-! ### the whole -/
end Go.Proofs.Ytgfnophfoccamaa
