/-
  Plain laws: matrices, responses, Hankel rows; the law of HankelRank. No program in sight. No condition.
-/
import Derived.Test.YtnlbhdepagkjgaaDoorZP13
namespace Go.Proofs.YtnlbhdepagkjgaaDoor

/-! ### lists of matrices in the law -/

/-! ### matrices and responses -/
end Go.Proofs.YtnlbhdepagkjgaaDoor
