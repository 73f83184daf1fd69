/-
  Plain law of GraphOf: the law's partial function yields true. Printed by a program (wip/y/law.py). No program in sight. No condition.
-/
import Derived.Test.YtgfnophfoccamaaZP43
import Derived.Test.YtgfnophfoccamaaZLem4
namespace Go.Proofs.Ytgfnophfoccamaa
set_option linter.unusedVariables false
theorem lawN_GraphOf (a0 : TyTerm) (i0 : Nice.ok a0) : F_laws_FnExactGraphOf a0 = some true := by
  have hbig : bigN = 4611686018427387904 := rfl
  refine bnd (z_Term a0 1048576 (by omega) (by rw [hbig]; omega) (niceLensTerm i0)) (stp ?_)
  by_cases gaT : (nTerm a0 : Int) ≤ 1048576
  case neg => rw [if_neg gaT]; exact cTW (dT (by omega)) rfl
  rw [if_pos gaT]
  refine cFW (dF (by omega)) ?_
  have haT : nTerm a0 ≤ 1048576 := by omega
  first
  | refine bnd (t_Term a0 haT) (bnd (specGraphOf a0) ?_)
  | refine bnd (bnd (t_Term a0 haT) (bnd (specGraphOf a0) rfl)) ?_
  refine bnd (t_Term a0 haT) ?_
  refine bnd (implGraphOf a0) ?_
  have b0 : nGraph (wGraphOf a0).1 ≤ 1048576 := boundGraphOf_0 a0
  have cb0 := cGraph_le (wGraphOf a0).1
  refine bnd (a := false) (bnd (e_Graph _ b0) (stp (cFW rfl (stp (congrArg some (nT (dT rfl))))))) (cFW rfl ?_)
  refine bnd (t_Term _ haT) (bnd (e_Term _ haT) (stp (cFW rfl ?_)))
  have caT := cTerm_le a0
  refine bnd (m_Term a0 _ (by omega) (by omega)) ?_
  refine bnd (a := false) (stp (cFW (dF (by simp only [mk_Term_snd]; omega)) (bnd (e_Graph _ b0) (stp (cFW rfl (stp (congrArg some (nT (dT rfl))))))))) (cFW rfl ?_)
  refine bnd (m_Graph (wGraphOf a0).1 _ (by omega) (by omega)) ?_
  refine bnd (h_Graph (wGraphOf a0).1 _ (by omega) (by omega)) (stp (cFW (dF (by omega)) ?_))
  refine stp (cFW (nT (dT (by simp only [mk_Graph_snd]))) ?_)
  first
  | refine bnd (t_Term a0 haT) (bnd (implGraphOf a0) ?_)
  | refine bnd (bnd (t_Term a0 haT) (bnd (implGraphOf a0) rfl)) ?_
  refine bnd (a := false) (bnd (e_Graph _ b0) (stp (cFW rfl (stp (congrArg some (nT (dT rfl))))))) (cFW rfl ?_)
  refine bnd (h_Graph (wGraphOf a0).1 _ (by omega) (by omega)) (stp (cFW (dF (by omega)) ?_))
  refine stp (cFW (nT (dT (by simp only [mk_Graph_snd]))) ?_)
  rfl
end Go.Proofs.Ytgfnophfoccamaa
