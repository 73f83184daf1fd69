/-
  Plain law of ReplaceablePorts: the law's partial function yields true. Printed by a program (wip/y/law.py). No program in sight. No condition.
-/
import Derived.Test.YteikcdofblclhaaDoorZP23
import Derived.Test.YteikcdofblclhaaDoorZLem1
namespace Go.Proofs.YteikcdofblclhaaDoor
set_option linter.unusedVariables false
theorem lawN_ReplaceablePorts (a0 : Int) (a1 : TyRelation) (a2 : List Int) (a3 : Int) (i0 : Nice.ok a0) (i1 : Nice.ok a1) (i2 : Nice.ok a2) (i3 : Nice.ok a3) : F_laws_FnExactReplaceablePorts a0 a1 a2 a3 = some true := by
  have hbig : bigN = 4611686018427387904 := rfl
  refine stp ?_
  by_cases gaPorts : (1048576 : Int) < ((a2.length : Nat) : Int)
  · exact cTW (dT gaPorts) rfl
  refine cFW (dF gaPorts) ?_
  have haPorts : nIntS a2 ≤ 1048576 := by unfold nIntS; omega
  refine bnd (z_Relation a1 1048576 (by omega) (by rw [hbig]; omega) (niceLensRelation i1)) (stp ?_)
  by_cases gaR : (nRelation a1 : Int) ≤ 1048576
  case neg => rw [if_neg gaR]; exact cTW (dT (by omega)) rfl
  rw [if_pos gaR]
  refine cFW (dF (by omega)) ?_
  have haR : nRelation a1 ≤ 1048576 := by omega
  refine bnd (t_Relation a1 haR) ?_
  refine bnd (t_IntS a2 haPorts) ?_
  refine bnd (specReplaceablePorts a0 a1 a2 a3 haPorts) ?_
  refine bnd (t_Relation a1 haR) ?_
  refine bnd (t_IntS a2 haPorts) ?_
  refine bnd (implReplaceablePorts a0 a1 a2 a3 haPorts) ?_
  have b0 : nIntS (wReplaceablePorts a0 a1 a2 a3).1 ≤ 1048576 := boundReplaceablePorts_0 a0 a1 a2 a3 haPorts
  have cb0 := cIntS_le (wReplaceablePorts a0 a1 a2 a3).1
  refine bnd (a := false) (bnd (e_IntS _ b0) (stp (cFW rfl (stp (congrArg some (nT (dT rfl))))))) (cFW rfl ?_)
  refine bnd (t_Relation _ haR) (bnd (e_Relation _ haR) (stp (cFW rfl ?_)))
  refine bnd (t_IntS _ haPorts) (bnd (e_IntS _ haPorts) (stp (cFW rfl ?_)))
  have caR := cRelation_le a1
  refine bnd (m_Relation a1 _ (by omega) (by omega)) ?_
  have caPorts := cIntS_le a2
  refine bnd (m_IntS a2 _ (by simp only [mk_Relation_snd]; omega) (by simp only [mk_Relation_snd]; omega)) ?_
  refine bnd (a := false) (stp (cFW (dF (by simp only [mk_Relation_snd, mk_IntS_snd]; omega)) (bnd (e_IntS _ b0) (stp (cFW rfl (stp (congrArg some (nT (dT rfl))))))))) (cFW rfl ?_)
  refine bnd (m_IntS (wReplaceablePorts a0 a1 a2 a3).1 _ (by omega) (by omega)) ?_
  refine bnd (h_IntS (wReplaceablePorts a0 a1 a2 a3).1 _ (by omega) (by omega)) (stp (cFW (dF (by omega)) ?_))
  refine stp (cFW (nT (dT (by simp only [mk_IntS_snd]))) ?_)
  refine bnd (t_Relation a1 haR) ?_
  refine bnd (t_IntS a2 haPorts) ?_
  refine bnd (implReplaceablePorts a0 a1 a2 a3 haPorts) ?_
  refine bnd (a := false) (bnd (e_IntS _ b0) (stp (cFW rfl (stp (congrArg some (nT (dT rfl))))))) (cFW rfl ?_)
  refine bnd (h_IntS (wReplaceablePorts a0 a1 a2 a3).1 _ (by omega) (by omega)) (stp (cFW (dF (by omega)) ?_))
  refine stp (cFW (nT (dT (by simp only [mk_IntS_snd]))) ?_)
  rfl
end Go.Proofs.YteikcdofblclhaaDoor
