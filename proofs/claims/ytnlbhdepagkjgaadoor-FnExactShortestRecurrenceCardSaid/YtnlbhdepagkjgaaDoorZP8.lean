/-
  Plain law of MarkovParameters: the law's partial function yields true. No program in sight. No condition.
-/
import Derived.Test.YtnlbhdepagkjgaaDoorZP7
namespace Go.Proofs.YtnlbhdepagkjgaaDoor

end Go.Proofs.YtnlbhdepagkjgaaDoor
