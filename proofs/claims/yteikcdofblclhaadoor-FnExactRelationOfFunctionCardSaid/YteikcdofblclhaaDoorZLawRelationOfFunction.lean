/-
  Plain law of RelationOfFunction: the law's partial function yields true. Printed by a program (wip/y/law.py). No program in sight. No condition.
-/
import Derived.Test.YteikcdofblclhaaDoorZP24
import Derived.Test.YteikcdofblclhaaDoorZLem1
namespace Go.Proofs.YteikcdofblclhaaDoor
set_option linter.unusedVariables false
theorem lawN_RelationOfFunction (a0 : Int) (a1 : Int) (a2 : Int) (a3 : List Int) (a4 : TyMatrix) (i0 : Nice.ok a0) (i1 : Nice.ok a1) (i2 : Nice.ok a2) (i3 : Nice.ok a3) (i4 : Nice.ok a4) : F_laws_FnExactRelationOfFunction a0 a1 a2 a3 a4 = some true := by
  have hbig : bigN = 4611686018427387904 := rfl
  refine stp ?_
  by_cases gaPorts : (1048576 : Int) < ((a3.length : Nat) : Int)
  · exact cTW (dT gaPorts) rfl
  refine cFW (dF gaPorts) ?_
  have haPorts : nIntS a3 ≤ 1048576 := by unfold nIntS; omega
  refine bnd (z_Matrix a4 1048576 (by omega) (by rw [hbig]; omega) (niceLensMatrix i4)) (stp ?_)
  by_cases gaM : (nMatrix a4 : Int) ≤ 1048576
  case neg => rw [if_neg gaM]; exact cTW (dT (by omega)) rfl
  rw [if_pos gaM]
  refine cFW (dF (by omega)) ?_
  have haM : nMatrix a4 ≤ 1048576 := by omega
  first
  | refine bnd (t_IntS a3 haPorts) (bnd (t_Matrix a4 haM) (bnd (specRelationOfFunction a0 a1 a2 a3 a4 haPorts) ?_))
  | refine bnd (bnd (t_IntS a3 haPorts) (bnd (t_Matrix a4 haM) (bnd (specRelationOfFunction a0 a1 a2 a3 a4 haPorts) rfl))) ?_
  refine bnd (t_IntS a3 haPorts) ?_
  refine bnd (t_Matrix a4 haM) ?_
  refine bnd (implRelationOfFunction a0 a1 a2 a3 a4 haPorts) ?_
  have b0 : nRelation (wRelationOfFunction a0 a1 a2 a3 a4).1 ≤ 1048576 := boundRelationOfFunction_0 a0 a1 a2 a3 a4 haPorts
  have cb0 := cRelation_le (wRelationOfFunction a0 a1 a2 a3 a4).1
  refine bnd (a := false) (bnd (e_Relation _ b0) (stp (cFW rfl (stp (congrArg some (nT (dT rfl))))))) (cFW rfl ?_)
  refine bnd (t_IntS _ haPorts) (bnd (e_IntS _ haPorts) (stp (cFW rfl ?_)))
  refine bnd (t_Matrix _ haM) (bnd (e_Matrix _ haM) (stp (cFW rfl ?_)))
  have caPorts := cIntS_le a3
  refine bnd (m_IntS a3 _ (by omega) (by omega)) ?_
  have caM := cMatrix_le a4
  refine bnd (m_Matrix a4 _ (by simp only [mk_IntS_snd]; omega) (by simp only [mk_IntS_snd]; omega)) ?_
  refine bnd (a := false) (stp (cFW (dF (by simp only [mk_IntS_snd, mk_Matrix_snd]; omega)) (bnd (e_Relation _ b0) (stp (cFW rfl (stp (congrArg some (nT (dT rfl))))))))) (cFW rfl ?_)
  refine bnd (m_Relation (wRelationOfFunction a0 a1 a2 a3 a4).1 _ (by omega) (by omega)) ?_
  refine bnd (h_Relation (wRelationOfFunction a0 a1 a2 a3 a4).1 _ (by omega) (by omega)) (stp (cFW (dF (by omega)) ?_))
  refine stp (cFW (nT (dT (by simp only [mk_Relation_snd]))) ?_)
  first
  | refine bnd (t_IntS a3 haPorts) (bnd (t_Matrix a4 haM) (bnd (implRelationOfFunction a0 a1 a2 a3 a4 haPorts) ?_))
  | refine bnd (bnd (t_IntS a3 haPorts) (bnd (t_Matrix a4 haM) (bnd (implRelationOfFunction a0 a1 a2 a3 a4 haPorts) rfl))) ?_
  refine bnd (a := false) (bnd (e_Relation _ b0) (stp (cFW rfl (stp (congrArg some (nT (dT rfl))))))) (cFW rfl ?_)
  refine bnd (h_Relation (wRelationOfFunction a0 a1 a2 a3 a4).1 _ (by omega) (by omega)) (stp (cFW (dF (by omega)) ?_))
  refine stp (cFW (nT (dT (by simp only [mk_Relation_snd]))) ?_)
  rfl
end Go.Proofs.YteikcdofblclhaaDoor
