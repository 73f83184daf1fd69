/-
  Plain laws: state spaces and their Markov parameters. No program in sight. No condition.
-/
import Derived.Test.YtnlbhdepagkjgaaDoorZP6
namespace Go.Proofs.YtnlbhdepagkjgaaDoor

end Go.Proofs.YtnlbhdepagkjgaaDoor
