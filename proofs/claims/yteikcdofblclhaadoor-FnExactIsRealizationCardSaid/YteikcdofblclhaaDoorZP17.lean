/-
  Plain laws: sums, combinations of rows by their elements, coordinates in a reduced list. No program in sight. No condition.
-/
import Derived.Test.YteikcdofblclhaaDoorZP16
namespace Go.Proofs.YteikcdofblclhaaDoor

/-! ### sums -/

/-! ### combinations -/

/-! ### coordinates -/

/-! ### has a vector -/

/-! ### relations -/

/-! ### the first choice -/
end Go.Proofs.YteikcdofblclhaaDoor

