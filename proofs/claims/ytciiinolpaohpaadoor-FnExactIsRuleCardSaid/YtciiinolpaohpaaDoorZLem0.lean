/-
  Plain laws: the law's helpers for lists of numbers and of rows, in the form in which wip/y/lem.py puts them together. No program in sight. No condition.
-/
import Derived.Test.YtciiinolpaohpaaDoorZP4
namespace Go.Proofs.YtciiinolpaohpaaDoor
end Go.Proofs.YtciiinolpaohpaaDoor
