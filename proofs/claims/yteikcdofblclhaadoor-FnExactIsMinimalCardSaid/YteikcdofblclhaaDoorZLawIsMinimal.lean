/-
  Plain law of IsMinimal: the law's partial function yields true. Printed by a program (wip/y/law.py). No program in sight. No condition.
-/
import Derived.Test.YteikcdofblclhaaDoorZP28
import Derived.Test.YteikcdofblclhaaDoorZLem1
namespace Go.Proofs.YteikcdofblclhaaDoor
set_option linter.unusedVariables false
theorem lawN_IsMinimal (a0 : Int) (a1 : TyStateSpace) (i0 : Nice.ok a0) (i1 : Nice.ok a1) : F_laws_FnExactIsMinimal a0 a1 = some true := by
  have hbig : bigN = 4611686018427387904 := rfl
  refine bnd (z_StateSpace a1 1048576 (by omega) (by rw [hbig]; omega) (niceLensStateSpace i1)) (stp ?_)
  by_cases gaS : (nStateSpace a1 : Int) ≤ 1048576
  case neg => rw [if_neg gaS]; exact cTW (dT (by omega)) rfl
  rw [if_pos gaS]
  refine cFW (dF (by omega)) ?_
  have haS : nStateSpace a1 ≤ 1048576 := by omega
  first
  | refine bnd (t_StateSpace a1 haS) (bnd (specIsMinimal a0 a1) ?_)
  | refine bnd (bnd (t_StateSpace a1 haS) (bnd (specIsMinimal a0 a1) rfl)) ?_
  refine bnd (t_StateSpace a1 haS) ?_
  refine bnd (implIsMinimal a0 a1) ?_
  refine bnd (a := false) (stp (cFW (nT (dT rfl)) (stp (congrArg some (nT (dT rfl)))))) (cFW rfl ?_)
  refine bnd (t_StateSpace _ haS) (bnd (e_StateSpace _ haS) (stp (cFW rfl ?_)))
  rfl
end Go.Proofs.YteikcdofblclhaaDoor
