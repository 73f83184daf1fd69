/-
  Plain laws: what rows span, rows that are independent, reduced lists are determined by what they span. No program in sight. No condition.
-/
import Derived.Test.YteikcdofblclhaaDoorZP17
namespace Go.Proofs.YteikcdofblclhaaDoor
set_option linter.unusedVariables false

/-! ### sums -/

/-! ### spans -/

/-! ### a step of the reduction -/

/-! ### independent rows -/

/-! ### reduced lists are determined -/
end Go.Proofs.YteikcdofblclhaaDoor
