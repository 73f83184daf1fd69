/-
  Plain laws: the law's helpers for state spaces and lists of matrices. No program in sight. No condition.
-/
import Derived.Test.YtgfnophfoccamaaZP3
namespace Go.Proofs.Ytgfnophfoccamaa

end Go.Proofs.Ytgfnophfoccamaa
