/-
  Plain laws: the law's helpers for struct types, printed by a program (wip/y/lem.py). No program in sight. No condition.
-/
import Derived.Test.YtnlbhdepagkjgaaDoorZLem0
namespace Go.Proofs.YtnlbhdepagkjgaaDoor

end Go.Proofs.YtnlbhdepagkjgaaDoor
