/-
  Plain laws: is it a choice of inputs, which ports could be replaced. No program in sight. No condition.
-/
import Derived.Test.YteikcdofblclhaaDoorZP22
namespace Go.Proofs.YteikcdofblclhaaDoor
set_option linter.unusedVariables false

/-! ### ports that could be replaced -/
end Go.Proofs.YteikcdofblclhaaDoor
