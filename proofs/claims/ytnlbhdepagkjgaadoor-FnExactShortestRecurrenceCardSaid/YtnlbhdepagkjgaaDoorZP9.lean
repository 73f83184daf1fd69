/-
  Plain law of SameOutputs: the law's partial function yields true. No program in sight. No condition.
-/
import Derived.Test.YtnlbhdepagkjgaaDoorZP8
namespace Go.Proofs.YtnlbhdepagkjgaaDoor

end Go.Proofs.YtnlbhdepagkjgaaDoor
