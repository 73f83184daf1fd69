/-
  Plain law of IsRule: the law's partial function yields true. Printed by a program (wip/y/law.py). No program in sight. No condition.
-/
import Derived.Test.YtciiinolpaohpaaDoorZP44
import Derived.Test.YtciiinolpaohpaaDoorZLem5
namespace Go.Proofs.YtciiinolpaohpaaDoor
set_option linter.unusedVariables false
theorem lawN_IsRule (a0 : Int) (a1 : TyRule) (i0 : Nice.ok a0) (i1 : Nice.ok a1) : F_laws_FnExactIsRule a0 a1 = some true := by
  have hbig : bigN = 4611686018427387904 := rfl
  refine bnd (z_Rule a1 1048576 (by omega) (by rw [hbig]; omega) (niceLensRule i1)) (stp ?_)
  by_cases gaR : (nRule a1 : Int) ≤ 1048576
  case neg => rw [if_neg gaR]; exact cTW (dT (by omega)) rfl
  rw [if_pos gaR]
  refine cFW (dF (by omega)) ?_
  have haR : nRule a1 ≤ 1048576 := by omega
  first
  | refine bnd (t_Rule a1 haR) (bnd (specIsRule a0 a1) ?_)
  | refine bnd (bnd (t_Rule a1 haR) (bnd (specIsRule a0 a1) rfl)) ?_
  refine bnd (t_Rule a1 haR) ?_
  refine bnd (implIsRule a0 a1) ?_
  refine stp (cFW (nT (dT rfl)) ?_)
  refine bnd (t_Rule _ haR) (bnd (e_Rule _ haR) (stp (cFW rfl ?_)))
  rfl
end Go.Proofs.YtciiinolpaohpaaDoor
