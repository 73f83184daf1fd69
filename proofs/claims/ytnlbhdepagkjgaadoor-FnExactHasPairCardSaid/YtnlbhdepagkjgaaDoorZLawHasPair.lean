/-
  Plain law of HasPair: the law's partial function yields true. Printed by a program (wip/y/law.py). No program in sight. No condition.
-/
import Derived.Test.YtnlbhdepagkjgaaDoorZP18
import Derived.Test.YtnlbhdepagkjgaaDoorZLem1
namespace Go.Proofs.YtnlbhdepagkjgaaDoor
set_option linter.unusedVariables false
theorem lawN_HasPair (a0 : Int) (a1 : TyRelation) (a2 : List Int) (a3 : List Int) (i0 : Nice.ok a0) (i1 : Nice.ok a1) (i2 : Nice.ok a2) (i3 : Nice.ok a3) : F_laws_FnExactHasPair a0 a1 a2 a3 = some true := by
  have hbig : bigN = 4611686018427387904 := rfl
  refine stp ?_
  by_cases gaX : (1048576 : Int) < ((a2.length : Nat) : Int)
  · exact cTW (dT gaX) rfl
  refine cFW (dF gaX) ?_
  have haX : nIntS a2 ≤ 1048576 := by unfold nIntS; omega
  refine stp ?_
  by_cases gaY : (1048576 : Int) < ((a3.length : Nat) : Int)
  · exact cTW (dT gaY) rfl
  refine cFW (dF gaY) ?_
  have haY : nIntS a3 ≤ 1048576 := by unfold nIntS; omega
  refine bnd (z_Relation a1 1048576 (by omega) (by rw [hbig]; omega) (niceLensRelation i1)) (stp ?_)
  by_cases gaR : (nRelation a1 : Int) ≤ 1048576
  case neg => rw [if_neg gaR]; exact cTW (dT (by omega)) rfl
  rw [if_pos gaR]
  refine cFW (dF (by omega)) ?_
  have haR : nRelation a1 ≤ 1048576 := by omega
  refine bnd (t_Relation a1 haR) ?_
  refine bnd (t_IntS a2 haX) ?_
  refine bnd (t_IntS a3 haY) ?_
  refine bnd (specHasPair a0 a1 a2 a3) ?_
  refine bnd (t_Relation a1 haR) ?_
  refine bnd (t_IntS a2 haX) ?_
  refine bnd (t_IntS a3 haY) ?_
  refine bnd (implHasPair a0 a1 a2 a3) ?_
  refine bnd (a := false) (stp (cFW (nT (dT rfl)) (stp (congrArg some (nT (dT rfl)))))) (cFW rfl ?_)
  refine bnd (t_Relation _ haR) (bnd (e_Relation _ haR) (stp (cFW rfl ?_)))
  refine bnd (t_IntS _ haX) (bnd (e_IntS _ haX) (stp (cFW rfl ?_)))
  refine bnd (t_IntS _ haY) (bnd (e_IntS _ haY) (stp (cFW rfl ?_)))
  rfl
end Go.Proofs.YtnlbhdepagkjgaaDoor
