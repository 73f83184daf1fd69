/-
  Plain law of SeqGraphs: the law's partial function yields true. Printed by a program (wip/y/law.py). No program in sight. No condition.
-/
import Derived.Test.YtgfnophfoccamaaZP40
import Derived.Test.YtgfnophfoccamaaZLem3
namespace Go.Proofs.Ytgfnophfoccamaa
set_option linter.unusedVariables false
theorem lawN_SeqGraphs (a0 : TyGraph) (a1 : TyGraph) (i0 : Nice.ok a0) (i1 : Nice.ok a1) : F_laws_FnExactSeqGraphs a0 a1 = some true := by
  have hbig : bigN = 4611686018427387904 := rfl
  refine bnd (z_Graph a0 1048576 (by omega) (by rw [hbig]; omega) (niceLensGraph i0)) (stp ?_)
  by_cases gaA : (nGraph a0 : Int) ≤ 1048576
  case neg => rw [if_neg gaA]; exact cTW (dT (by omega)) rfl
  rw [if_pos gaA]
  refine cFW (dF (by omega)) ?_
  have haA : nGraph a0 ≤ 1048576 := by omega
  refine bnd (z_Graph a1 (1048576 - (nGraph a0 : Int)) (by omega) (by rw [hbig]; omega) (niceLensGraph i1)) (stp ?_)
  by_cases gaB : (nGraph a1 : Int) ≤ 1048576 - (nGraph a0 : Int)
  case neg => rw [if_neg gaB]; exact cTW (dT (by omega)) rfl
  rw [if_pos gaB]
  refine cFW (dF (by omega)) ?_
  have haB : nGraph a1 ≤ 1048576 := by omega
  first
  | refine bnd (t_Graph a0 haA) (bnd (t_Graph a1 haB) (bnd (specSeqGraphs a0 a1) ?_))
  | refine bnd (bnd (t_Graph a0 haA) (bnd (t_Graph a1 haB) (bnd (specSeqGraphs a0 a1) rfl))) ?_
  refine bnd (t_Graph a0 haA) ?_
  refine bnd (t_Graph a1 haB) ?_
  refine bnd (implSeqGraphs a0 a1) ?_
  have b0 : nGraph (wSeqGraphs a0 a1).1 ≤ 1048576 := boundSeqGraphs_0 a0 a1
  have cb0 := cGraph_le (wSeqGraphs a0 a1).1
  refine bnd (a := false) (bnd (e_Graph _ b0) (stp (cFW rfl (stp (congrArg some (nT (dT rfl))))))) (cFW rfl ?_)
  refine bnd (t_Graph _ haA) (bnd (e_Graph _ haA) (stp (cFW rfl ?_)))
  refine bnd (t_Graph _ haB) (bnd (e_Graph _ haB) (stp (cFW rfl ?_)))
  have caA := cGraph_le a0
  refine bnd (m_Graph a0 _ (by omega) (by omega)) ?_
  have caB := cGraph_le a1
  refine bnd (m_Graph a1 _ (by simp only [mk_Graph_snd]; omega) (by simp only [mk_Graph_snd]; omega)) ?_
  refine bnd (a := false) (stp (cFW (dF (by simp only [mk_Graph_snd]; omega)) (bnd (e_Graph _ b0) (stp (cFW rfl (stp (congrArg some (nT (dT rfl))))))))) (cFW rfl ?_)
  refine bnd (m_Graph (wSeqGraphs a0 a1).1 _ (by omega) (by omega)) ?_
  refine bnd (h_Graph (wSeqGraphs a0 a1).1 _ (by omega) (by omega)) (stp (cFW (dF (by omega)) ?_))
  refine stp (cFW (nT (dT (by simp only [mk_Graph_snd]))) ?_)
  first
  | refine bnd (t_Graph a0 haA) (bnd (t_Graph a1 haB) (bnd (implSeqGraphs a0 a1) ?_))
  | refine bnd (bnd (t_Graph a0 haA) (bnd (t_Graph a1 haB) (bnd (implSeqGraphs a0 a1) rfl))) ?_
  refine bnd (a := false) (bnd (e_Graph _ b0) (stp (cFW rfl (stp (congrArg some (nT (dT rfl))))))) (cFW rfl ?_)
  refine bnd (h_Graph (wSeqGraphs a0 a1).1 _ (by omega) (by omega)) (stp (cFW (dF (by omega)) ?_))
  refine stp (cFW (nT (dT (by simp only [mk_Graph_snd]))) ?_)
  rfl
end Go.Proofs.Ytgfnophfoccamaa
