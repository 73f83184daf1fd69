/-
  Plain law of HasVector: the law's partial function yields true. Printed by a program (wip/y/law.py). No program in sight. No condition.
-/
import Derived.Test.YtnlbhdepagkjgaaDoorYP17
import Derived.Test.YtnlbhdepagkjgaaDoorYLem1
namespace Go.Proofs.YtnlbhdepagkjgaaDoor
set_option linter.unusedVariables false
theorem lawN_HasVector (a0 : Int) (a1 : TySpace) (a2 : List Int) (i0 : Nice.ok a0) (i1 : Nice.ok a1) (i2 : Nice.ok a2) : F_laws_FnExactHasVector a0 a1 a2 = some true := by
  have hbig : bigN = 4611686018427387904 := rfl
  refine stp ?_
  by_cases gaV : (1048576 : Int) < ((a2.length : Nat) : Int)
  · exact cTW (dT gaV) rfl
  refine cFW (dF gaV) ?_
  have haV : nIntS a2 ≤ 1048576 := by unfold nIntS; omega
  refine bnd (z_Space a1 1048576 (by omega) (by rw [hbig]; omega) (niceLensSpace i1)) (stp ?_)
  by_cases gaS : (nSpace a1 : Int) ≤ 1048576
  case neg => rw [if_neg gaS]; exact cTW (dT (by omega)) rfl
  rw [if_pos gaS]
  refine cFW (dF (by omega)) ?_
  have haS : nSpace a1 ≤ 1048576 := by omega
  refine bnd (t_Space a1 haS) ?_
  refine bnd (t_IntS a2 haV) ?_
  refine bnd (specHasVector a0 a1 a2) ?_
  refine bnd (t_Space a1 haS) ?_
  refine bnd (t_IntS a2 haV) ?_
  refine bnd (implHasVector a0 a1 a2) ?_
  refine bnd (a := false) (stp (cFW (nT (dT rfl)) (stp (congrArg some (nT (dT rfl)))))) (cFW rfl ?_)
  refine bnd (t_Space _ haS) (bnd (e_Space _ haS) (stp (cFW rfl ?_)))
  refine bnd (t_IntS _ haV) (bnd (e_IntS _ haV) (stp (cFW rfl ?_)))
  rfl
end Go.Proofs.YtnlbhdepagkjgaaDoor
