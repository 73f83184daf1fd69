/-
  Plain law of AlwaysInputs: the law's partial function yields true. Printed by a program (wip/y/law.py). No program in sight. No condition.
-/
import Derived.Test.YteikcdofblclhaaDoorZP21
import Derived.Test.YteikcdofblclhaaDoorZLem1
namespace Go.Proofs.YteikcdofblclhaaDoor
set_option linter.unusedVariables false
theorem lawN_AlwaysInputs (a0 : Int) (a1 : TyRelation) (i0 : Nice.ok a0) (i1 : Nice.ok a1) : F_laws_FnExactAlwaysInputs a0 a1 = some true := by
  have hbig : bigN = 4611686018427387904 := rfl
  refine bnd (z_Relation a1 1048576 (by omega) (by rw [hbig]; omega) (niceLensRelation i1)) (stp ?_)
  by_cases gaR : (nRelation a1 : Int) ≤ 1048576
  case neg => rw [if_neg gaR]; exact cTW (dT (by omega)) rfl
  rw [if_pos gaR]
  refine cFW (dF (by omega)) ?_
  have haR : nRelation a1 ≤ 1048576 := by omega
  refine bnd (t_Relation a1 haR) ?_
  refine bnd (specAlwaysInputs a0 a1) ?_
  refine bnd (t_Relation a1 haR) ?_
  refine bnd (implAlwaysInputs a0 a1) ?_
  have b0 : nIntS (wAlwaysInputs a0 a1).1 ≤ 1048576 := boundAlwaysInputs_0 a0 a1
  have cb0 := cIntS_le (wAlwaysInputs a0 a1).1
  refine bnd (a := false) (bnd (e_IntS _ b0) (stp (cFW rfl (stp (congrArg some (nT (dT rfl))))))) (cFW rfl ?_)
  refine bnd (t_Relation _ haR) (bnd (e_Relation _ haR) (stp (cFW rfl ?_)))
  have caR := cRelation_le a1
  refine bnd (m_Relation a1 _ (by omega) (by omega)) ?_
  refine bnd (a := false) (stp (cFW (dF (by simp only [mk_Relation_snd]; omega)) (bnd (e_IntS _ b0) (stp (cFW rfl (stp (congrArg some (nT (dT rfl))))))))) (cFW rfl ?_)
  refine bnd (m_IntS (wAlwaysInputs a0 a1).1 _ (by omega) (by omega)) ?_
  refine bnd (h_IntS (wAlwaysInputs a0 a1).1 _ (by omega) (by omega)) (stp (cFW (dF (by omega)) ?_))
  refine stp (cFW (nT (dT (by simp only [mk_IntS_snd]))) ?_)
  refine bnd (t_Relation a1 haR) ?_
  refine bnd (implAlwaysInputs a0 a1) ?_
  refine bnd (a := false) (bnd (e_IntS _ b0) (stp (cFW rfl (stp (congrArg some (nT (dT rfl))))))) (cFW rfl ?_)
  refine bnd (h_IntS (wAlwaysInputs a0 a1).1 _ (by omega) (by omega)) (stp (cFW (dF (by omega)) ?_))
  refine stp (cFW (nT (dT (by simp only [mk_IntS_snd]))) ?_)
  rfl
end Go.Proofs.YteikcdofblclhaaDoor
