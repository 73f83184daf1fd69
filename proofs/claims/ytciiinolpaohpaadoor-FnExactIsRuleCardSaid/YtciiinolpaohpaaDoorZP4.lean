/-
  Plain laws: the law's helpers for state spaces and lists of matrices. No program in sight. No condition.
-/
import Derived.Test.YtciiinolpaohpaaDoorZP3
namespace Go.Proofs.YtciiinolpaohpaaDoor

end Go.Proofs.YtciiinolpaohpaaDoor
