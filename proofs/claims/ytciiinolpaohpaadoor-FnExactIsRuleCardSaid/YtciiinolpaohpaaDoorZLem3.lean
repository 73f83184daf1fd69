/-
  Plain laws: the law's helpers for struct types with lists of structs and strings, printed by a program (wip/y/lem2.py). No program in sight. No condition.
-/
import Derived.Test.YtciiinolpaohpaaDoorZLem1
namespace Go.Proofs.YtciiinolpaohpaaDoor
set_option linter.unusedVariables false

end Go.Proofs.YtciiinolpaohpaaDoor
