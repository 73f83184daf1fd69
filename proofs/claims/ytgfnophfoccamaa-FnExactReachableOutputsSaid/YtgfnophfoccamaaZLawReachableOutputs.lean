/-
  Plain law of ReachableOutputs: the law's partial function yields true. Printed by a program (wip/y/law.py). No program in sight. No condition.
-/
import Derived.Test.YtgfnophfoccamaaZP35
import Derived.Test.YtgfnophfoccamaaZLem3
namespace Go.Proofs.Ytgfnophfoccamaa
set_option linter.unusedVariables false
theorem lawN_ReachableOutputs (a0 : TyGraph) (i0 : Nice.ok a0) : F_laws_FnExactReachableOutputs a0 = some true := by
  have hbig : bigN = 4611686018427387904 := rfl
  refine bnd (z_Graph a0 1048576 (by omega) (by rw [hbig]; omega) (niceLensGraph i0)) (stp ?_)
  by_cases gaG : (nGraph a0 : Int) ≤ 1048576
  case neg => rw [if_neg gaG]; exact cTW (dT (by omega)) rfl
  rw [if_pos gaG]
  refine cFW (dF (by omega)) ?_
  have haG : nGraph a0 ≤ 1048576 := by omega
  first
  | refine bnd (t_Graph a0 haG) (bnd (specReachableOutputs a0) ?_)
  | refine bnd (bnd (t_Graph a0 haG) (bnd (specReachableOutputs a0) rfl)) ?_
  refine bnd (t_Graph a0 haG) ?_
  refine bnd (implReachableOutputs a0) ?_
  have b0 : nIntSS (wReachableOutputs a0).1 ≤ 1048576 := boundReachableOutputs_0 a0
  have cb0 := cIntSS_le (wReachableOutputs a0).1
  refine bnd (a := false) (bnd (e_IntSS _ b0) (stp (cFW rfl (stp (congrArg some (nT (dT rfl))))))) (cFW rfl ?_)
  refine bnd (t_Graph _ haG) (bnd (e_Graph _ haG) (stp (cFW rfl ?_)))
  have caG := cGraph_le a0
  refine bnd (m_Graph a0 _ (by omega) (by omega)) ?_
  refine bnd (a := false) (stp (cFW (dF (by simp only [mk_Graph_snd]; omega)) (bnd (e_IntSS _ b0) (stp (cFW rfl (stp (congrArg some (nT (dT rfl))))))))) (cFW rfl ?_)
  refine bnd (m_IntSS (wReachableOutputs a0).1 _ (by omega) (by omega)) ?_
  refine bnd (h_IntSS (wReachableOutputs a0).1 _ (by omega) (by omega)) (stp (cFW (dF (by omega)) ?_))
  refine stp (cFW (nT (dT (by simp only [mk_IntSS_snd]))) ?_)
  first
  | refine bnd (t_Graph a0 haG) (bnd (implReachableOutputs a0) ?_)
  | refine bnd (bnd (t_Graph a0 haG) (bnd (implReachableOutputs a0) rfl)) ?_
  refine bnd (a := false) (bnd (e_IntSS _ b0) (stp (cFW rfl (stp (congrArg some (nT (dT rfl))))))) (cFW rfl ?_)
  refine bnd (h_IntSS (wReachableOutputs a0).1 _ (by omega) (by omega)) (stp (cFW (dF (by omega)) ?_))
  refine stp (cFW (nT (dT (by simp only [mk_IntSS_snd]))) ?_)
  rfl
end Go.Proofs.Ytgfnophfoccamaa
