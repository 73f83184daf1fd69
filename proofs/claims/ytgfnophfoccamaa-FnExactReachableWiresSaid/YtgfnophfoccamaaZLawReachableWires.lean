/-
  Plain law of ReachableWires: the law's partial function yields true. Printed by a program (wip/y/law.py). No program in sight. No condition.
-/
import Derived.Test.YtgfnophfoccamaaZP37
import Derived.Test.YtgfnophfoccamaaZLem3
namespace Go.Proofs.Ytgfnophfoccamaa
set_option linter.unusedVariables false
theorem lawN_ReachableWires (a0 : TyGraph) (a1 : Int) (i0 : Nice.ok a0) (i1 : Nice.ok a1) : F_laws_FnExactReachableWires a0 a1 = some true := by
  have hbig : bigN = 4611686018427387904 := rfl
  refine bnd (z_Graph a0 1048576 (by omega) (by rw [hbig]; omega) (niceLensGraph i0)) (stp ?_)
  by_cases gaG : (nGraph a0 : Int) ≤ 1048576
  case neg => rw [if_neg gaG]; exact cTW (dT (by omega)) rfl
  rw [if_pos gaG]
  refine cFW (dF (by omega)) ?_
  have haG : nGraph a0 ≤ 1048576 := by omega
  first
  | refine bnd (t_Graph a0 haG) (bnd (specReachableWires a0 a1) ?_)
  | refine bnd (bnd (t_Graph a0 haG) (bnd (specReachableWires a0 a1) rfl)) ?_
  refine bnd (t_Graph a0 haG) ?_
  refine bnd (implReachableWires a0 a1) ?_
  have b0 : nIntS (wReachableWires a0 a1).1 ≤ 1048576 := boundReachableWires_0 a0 a1
  have cb0 := cIntS_le (wReachableWires a0 a1).1
  refine bnd (a := false) (bnd (e_IntS _ b0) (stp (cFW rfl (stp (congrArg some (nT (dT rfl))))))) (cFW rfl ?_)
  refine bnd (t_Graph _ haG) (bnd (e_Graph _ haG) (stp (cFW rfl ?_)))
  have caG := cGraph_le a0
  refine bnd (m_Graph a0 _ (by omega) (by omega)) ?_
  refine bnd (a := false) (stp (cFW (dF (by simp only [mk_Graph_snd]; omega)) (bnd (e_IntS _ b0) (stp (cFW rfl (stp (congrArg some (nT (dT rfl))))))))) (cFW rfl ?_)
  refine bnd (m_IntS (wReachableWires a0 a1).1 _ (by omega) (by omega)) ?_
  refine bnd (h_IntS (wReachableWires a0 a1).1 _ (by omega) (by omega)) (stp (cFW (dF (by omega)) ?_))
  refine stp (cFW (nT (dT (by simp only [mk_IntS_snd]))) ?_)
  first
  | refine bnd (t_Graph a0 haG) (bnd (implReachableWires a0 a1) ?_)
  | refine bnd (bnd (t_Graph a0 haG) (bnd (implReachableWires a0 a1) rfl)) ?_
  refine bnd (a := false) (bnd (e_IntS _ b0) (stp (cFW rfl (stp (congrArg some (nT (dT rfl))))))) (cFW rfl ?_)
  refine bnd (h_IntS (wReachableWires a0 a1).1 _ (by omega) (by omega)) (stp (cFW (dF (by omega)) ?_))
  refine stp (cFW (nT (dT (by simp only [mk_IntS_snd]))) ?_)
  rfl
end Go.Proofs.Ytgfnophfoccamaa
