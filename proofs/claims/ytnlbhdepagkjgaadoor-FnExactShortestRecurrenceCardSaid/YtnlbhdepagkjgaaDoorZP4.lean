/-
  Plain laws: the law's helpers for state spaces and lists of matrices. No program in sight. No condition.
-/
import Derived.Test.YtnlbhdepagkjgaaDoorZP3
namespace Go.Proofs.YtnlbhdepagkjgaaDoor

abbrev Mat := Int × List (List Int)
end Go.Proofs.YtnlbhdepagkjgaaDoor
