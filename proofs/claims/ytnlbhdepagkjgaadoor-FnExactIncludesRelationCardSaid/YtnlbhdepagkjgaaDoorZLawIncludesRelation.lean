/-
  Plain law of IncludesRelation: the law's partial function yields true. Printed by a program (wip/y/law.py). No program in sight. No condition.
-/
import Derived.Test.YtnlbhdepagkjgaaDoorZP18
import Derived.Test.YtnlbhdepagkjgaaDoorZLem1
namespace Go.Proofs.YtnlbhdepagkjgaaDoor
set_option linter.unusedVariables false
theorem lawN_IncludesRelation (a0 : Int) (a1 : TyRelation) (a2 : TyRelation) (i0 : Nice.ok a0) (i1 : Nice.ok a1) (i2 : Nice.ok a2) : F_laws_FnExactIncludesRelation a0 a1 a2 = some true := by
  have hbig : bigN = 4611686018427387904 := rfl
  refine bnd (z_Relation a1 1048576 (by omega) (by rw [hbig]; omega) (niceLensRelation i1)) (stp ?_)
  by_cases gaA : (nRelation a1 : Int) ≤ 1048576
  case neg => rw [if_neg gaA]; exact cTW (dT (by omega)) rfl
  rw [if_pos gaA]
  refine cFW (dF (by omega)) ?_
  have haA : nRelation a1 ≤ 1048576 := by omega
  refine bnd (z_Relation a2 (1048576 - (nRelation a1 : Int)) (by omega) (by rw [hbig]; omega) (niceLensRelation i2)) (stp ?_)
  by_cases gaB : (nRelation a2 : Int) ≤ 1048576 - (nRelation a1 : Int)
  case neg => rw [if_neg gaB]; exact cTW (dT (by omega)) rfl
  rw [if_pos gaB]
  refine cFW (dF (by omega)) ?_
  have haB : nRelation a2 ≤ 1048576 := by omega
  refine bnd (t_Relation a1 haA) ?_
  refine bnd (t_Relation a2 haB) ?_
  refine bnd (specIncludesRelation a0 a1 a2) ?_
  refine bnd (t_Relation a1 haA) ?_
  refine bnd (t_Relation a2 haB) ?_
  refine bnd (implIncludesRelation a0 a1 a2) ?_
  refine bnd (a := false) (stp (cFW (nT (dT rfl)) (stp (congrArg some (nT (dT rfl)))))) (cFW rfl ?_)
  refine bnd (t_Relation _ haA) (bnd (e_Relation _ haA) (stp (cFW rfl ?_)))
  refine bnd (t_Relation _ haB) (bnd (e_Relation _ haB) (stp (cFW rfl ?_)))
  rfl
end Go.Proofs.YtnlbhdepagkjgaaDoor
