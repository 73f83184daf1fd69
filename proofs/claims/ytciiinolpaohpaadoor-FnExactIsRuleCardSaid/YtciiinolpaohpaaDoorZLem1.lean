/-
  Plain laws: the law's helpers for struct types, printed by a program (wip/y/lem.py). No program in sight. No condition.
-/
import Derived.Test.YtciiinolpaohpaaDoorZLem0
namespace Go.Proofs.YtciiinolpaohpaaDoor

end Go.Proofs.YtciiinolpaohpaaDoor
