/-
  Plain laws: lists searched and compared. No program in sight. No condition.
-/
import Derived.Test.YtgfnophfoccamaaZP6
namespace Go.Proofs.Ytgfnophfoccamaa
end Go.Proofs.Ytgfnophfoccamaa
