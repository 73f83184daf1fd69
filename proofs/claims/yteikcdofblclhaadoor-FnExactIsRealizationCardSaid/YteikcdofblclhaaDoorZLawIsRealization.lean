/-
  Plain law of IsRealization: the law's partial function yields true. Printed by a program (wip/y/law.py). No program in sight. No condition.
-/
import Derived.Test.YteikcdofblclhaaDoorZP25
import Derived.Test.YteikcdofblclhaaDoorZLem1
import Derived.Test.YteikcdofblclhaaDoorZLem2
namespace Go.Proofs.YteikcdofblclhaaDoor
set_option linter.unusedVariables false
theorem lawN_IsRealization (a0 : Int) (a1 : TyStateSpace) (a2 : List TyMatrix) (i0 : Nice.ok a0) (i1 : Nice.ok a1) (i2 : Nice.ok a2) : F_laws_FnExactIsRealization a0 a1 a2 = some true := by
  have hbig : bigN = 4611686018427387904 := rfl
  refine bnd (z_StateSpace a1 1048576 (by omega) (by rw [hbig]; omega) (niceLensStateSpace i1)) (stp ?_)
  by_cases gaS : (nStateSpace a1 : Int) ≤ 1048576
  case neg => rw [if_neg gaS]; exact cTW (dT (by omega)) rfl
  rw [if_pos gaS]
  refine cFW (dF (by omega)) ?_
  have haS : nStateSpace a1 ≤ 1048576 := by omega
  refine bnd (z_MatrixS a2 (1048576 - (nStateSpace a1 : Int)) (by omega) (by rw [hbig]; omega) (niceLensMatrixS i2)) (stp ?_)
  by_cases gaM : (nMatrixS a2 : Int) ≤ 1048576 - (nStateSpace a1 : Int)
  case neg => rw [if_neg gaM]; exact cTW (dT (by omega)) rfl
  rw [if_pos gaM]
  refine cFW (dF (by omega)) ?_
  have haM : nMatrixS a2 ≤ 1048576 := by omega
  first
  | refine bnd (t_StateSpace a1 haS) (bnd (t_MatrixS a2 haM) (bnd (specIsRealization a0 a1 a2) ?_))
  | refine bnd (bnd (t_StateSpace a1 haS) (bnd (t_MatrixS a2 haM) (bnd (specIsRealization a0 a1 a2) rfl))) ?_
  refine bnd (t_StateSpace a1 haS) ?_
  refine bnd (t_MatrixS a2 haM) ?_
  refine bnd (implIsRealization a0 a1 a2) ?_
  refine bnd (a := false) (stp (cFW (nT (dT rfl)) (stp (congrArg some (nT (dT rfl)))))) (cFW rfl ?_)
  refine bnd (t_StateSpace _ haS) (bnd (e_StateSpace _ haS) (stp (cFW rfl ?_)))
  refine bnd (t_MatrixS _ haM) (bnd (e_MatrixS _ haM) (stp (cFW rfl ?_)))
  rfl
end Go.Proofs.YteikcdofblclhaaDoor
