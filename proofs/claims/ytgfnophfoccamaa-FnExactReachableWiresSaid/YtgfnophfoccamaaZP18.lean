/-
  Plain laws: pairs of relations, ports that are never inputs, inclusion. No program in sight. No condition.
-/
import Derived.Test.YtgfnophfoccamaaZP17
namespace Go.Proofs.Ytgfnophfoccamaa

/-! ### inclusion -/

/-! ### ports that are never inputs -/
end Go.Proofs.Ytgfnophfoccamaa
