/-
  Plain laws: lists searched and compared. No program in sight. No condition.
-/
import Derived.Test.YtciiinolpaohpaaDoorZP6
namespace Go.Proofs.YtciiinolpaohpaaDoor
end Go.Proofs.YtciiinolpaohpaaDoor
