/-
  Plain law of IsInputChoice: the law's partial function yields true. Printed by a program (wip/y/law.py). No program in sight. No condition.
-/
import Derived.Test.YteikcdofblclhaaDoorZP23
import Derived.Test.YteikcdofblclhaaDoorZLem1
namespace Go.Proofs.YteikcdofblclhaaDoor
set_option linter.unusedVariables false
theorem lawN_IsInputChoice (a0 : Int) (a1 : TyRelation) (a2 : List Int) (i0 : Nice.ok a0) (i1 : Nice.ok a1) (i2 : Nice.ok a2) : F_laws_FnExactIsInputChoice a0 a1 a2 = some true := by
  have hbig : bigN = 4611686018427387904 := rfl
  refine stp ?_
  by_cases gaPorts : (1048576 : Int) < ((a2.length : Nat) : Int)
  · exact cTW (dT gaPorts) rfl
  refine cFW (dF gaPorts) ?_
  have haPorts : nIntS a2 ≤ 1048576 := by unfold nIntS; omega
  refine bnd (z_Relation a1 1048576 (by omega) (by rw [hbig]; omega) (niceLensRelation i1)) (stp ?_)
  by_cases gaR : (nRelation a1 : Int) ≤ 1048576
  case neg => rw [if_neg gaR]; exact cTW (dT (by omega)) rfl
  rw [if_pos gaR]
  refine cFW (dF (by omega)) ?_
  have haR : nRelation a1 ≤ 1048576 := by omega
  refine bnd (t_Relation a1 haR) ?_
  refine bnd (t_IntS a2 haPorts) ?_
  refine bnd (specIsInputChoice a0 a1 a2 haPorts) ?_
  refine bnd (t_Relation a1 haR) ?_
  refine bnd (t_IntS a2 haPorts) ?_
  refine bnd (implIsInputChoice a0 a1 a2 haPorts) ?_
  refine bnd (a := false) (stp (cFW (nT (dT rfl)) (stp (congrArg some (nT (dT rfl)))))) (cFW rfl ?_)
  refine bnd (t_Relation _ haR) (bnd (e_Relation _ haR) (stp (cFW rfl ?_)))
  refine bnd (t_IntS _ haPorts) (bnd (e_IntS _ haPorts) (stp (cFW rfl ?_)))
  rfl
end Go.Proofs.YteikcdofblclhaaDoor
