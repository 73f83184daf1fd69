/-
  Plain laws: the law's helpers for struct types with lists of structs and strings, printed by a program (wip/y/lem2.py). No program in sight. No condition.
-/
import Derived.Test.YtgfnophfoccamaaZLem1
namespace Go.Proofs.Ytgfnophfoccamaa
set_option linter.unusedVariables false

abbrev TyEdge := Int × Int × (List Int) × (List Int)
def nEdge (a : TyEdge) : Nat := nIntS a.2.2.1 + nIntS a.2.2.2
def lensEdge (a : TyEdge) : Prop := lensIntS a.2.2.1 ∧ lensIntS a.2.2.2
theorem z_Edge (a : TyEdge) (left : Int) (h0 : 0 ≤ left) (h1 : left ≤ bigN) (hl : lensEdge a) : F_laws_szEdge a left = some (if (nEdge a : Int) ≤ left then left - nEdge a else -1) := by
  unfold bigN at h1
  obtain ⟨l0, l1⟩ := hl
  unfold nEdge
  refine bnd (z_IntS a.2.2.1 (left) (by omega) (by unfold bigN; omega) l0) (stp ?_)
  by_cases g0 : (nIntS a.2.2.1 : Int) ≤ left
  case neg =>
    rw [if_neg g0]; try rw [if_neg (by omega)]
    exact cTW (dT (by omega)) rfl
  rw [if_pos g0]
  refine cFW (dF (by omega)) ?_
  refine bnd (z_IntS a.2.2.2 (left - nIntS a.2.2.1) (by omega) (by unfold bigN; omega) l1) (stp ?_)
  by_cases g1 : (nIntS a.2.2.2 : Int) ≤ left - nIntS a.2.2.1
  case neg =>
    rw [if_neg g1]; try rw [if_neg (by omega)]
    exact cTW (dT (by omega)) rfl
  rw [if_pos g1]
  try rw [if_pos (by omega)]
  refine cFW (dF (by omega)) ?_
  congr 1; try omega
theorem niceLensEdge {a : TyEdge} (h : Nice.ok a) : lensEdge a := by
  obtain ⟨h0, h1, h2, h3⟩ := h
  exact ⟨niceLensIntS h2, niceLensIntS h3⟩
theorem t_Edge (a : TyEdge) (h : nEdge a ≤ 1048576) : F_laws_toEdge a = some a := by
  unfold nEdge at h
  exact bnd (t_IntS a.2.2.1 (by omega)) (bnd (t_IntS a.2.2.2 (by omega)) (rfl))
theorem e_Edge (a : TyEdge) (h : nEdge a ≤ 1048576) : F_laws_eqEdge a a = some true := by
  unfold nEdge at h
  exact stp (cFW (nT (dT rfl)) (stp (cFW (nT (dT rfl)) (bnd (e_IntS a.2.2.1 (by omega)) (stp (cFW rfl (bnd (e_IntS a.2.2.2 (by omega)) (stp (cFW rfl (rfl))))))))))
abbrev TyEdgeS := List TyEdge
def nEdgeS (a : TyEdgeS) : Nat := a.length + tot nEdge a
def lensEdgeS (a : TyEdgeS) : Prop := lenOk a ∧ ∀ x ∈ a, lensEdge x
theorem z_EdgeS (a : TyEdgeS) (left : Int) (h0 : 0 ≤ left) (h1 : left ≤ bigN) (hl : lensEdgeS a) : F_laws_szEdgeS a left = some (if (nEdgeS a : Int) ≤ left then left - nEdgeS a else -1) := by
  have hl1 := hl.1; unfold lenOk at hl1; unfold bigN at h1
  unfold nEdgeS
  refine bnd (subO_of (by omega) (by omega)) (stp ?_)
  by_cases h : (a.length : Int) ≤ left
  · refine cFW (dF (by omega)) (sqW (sz_loop nEdge a (left - a.length) ?_ ?_ a [] _ rfl ?_ (Int.le_refl _)) ?_)
    · intro j r s hj hjl hs hsB
      dsimp only
      refine stp (cTW (dT (by omega)) (bnd (idxO_of hj) (bnd (z_Edge r s hs (by unfold bigN; omega) (hl.2 r (mem_of_get hj))) (stp ?_))))
      by_cases h2 : (nEdge r : Int) ≤ s
      · rw [if_pos h2, if_pos h2]; exact cFW (dF (by omega)) (bnd (addO_of (by omega) (by omega)) rfl)
      · rw [if_neg h2, if_neg h2]; exact cTW (dT (by omega)) rfl
    · intro s; dsimp only; exact stp (cFW (dF (by omega)) rfl)
    · omega
    · by_cases h2 : (tot nEdge a : Int) ≤ left - a.length
      · rw [if_pos h2, if_pos (by omega), seqO_l]; congr 1; omega
      · rw [if_neg h2, if_neg (by omega), seqO_r]
  · rw [if_neg (by omega)]; exact cTW (dT (by omega)) rfl
theorem niceLensEdgeS {a : TyEdgeS} (h : Nice.ok a) : lensEdgeS a := ⟨h.1, fun x hx => niceLensEdge (h.2 x hx)⟩
theorem t_EdgeS (a : TyEdgeS) (h : nEdgeS a ≤ 1048576) : F_laws_toEdgeS a = some a := by
  have hm : maxN = 1099511627776 := rfl
  unfold nEdgeS at h
  refine bnd (makeO_of _ (by omega)) (bnd (to_loop _ a ?_ ?_ a [] rfl) rfl)
  · intro j x s hj hjl hs
    dsimp only
    exact stp (cTW (dT (by omega)) (bnd (idxO_of hj) (bnd (t_Edge x (by have := tot_mem (n := nEdge) (mem_of_get hj); omega)) (bnd (setO_of _ (by omega)) (bnd (addO_of (by omega) (by omega)) rfl)))))
  · intro s hs; dsimp only; exact stp (cFW (dF (by omega)) rfl)
theorem e_EdgeS (a : TyEdgeS) (h : nEdgeS a ≤ 1048576) : F_laws_eqEdgeS a a = some true := by
  unfold nEdgeS at h
  refine stp (cFW (nT (dT rfl)) (sqW (whileO_is (fun j => (j : Int)) (t := .inl ()) a.length ?_ ?_) ?_))
  · intro j hj
    exact stp (cTW (dT (by omega)) (bnd (idxO_of (List.getElem?_eq_getElem hj)) (bnd (idxO_of (List.getElem?_eq_getElem hj)) (bnd (e_Edge a[j] (by have := tot_mem (n := nEdge) (List.getElem_mem hj); omega)) (stp (cFW rfl (bnd (addO_of (by omega) (by omega)) rfl)))))))
  · exact stp (cFW (dF (by omega)) rfl)
  · rfl
abbrev TyGraph := Int × (List (Int × Int × (List Int) × (List Int))) × (List Int) × (List Int)
def nGraph (a : TyGraph) : Nat := nEdgeS a.2.1 + nIntS a.2.2.1 + nIntS a.2.2.2
def lensGraph (a : TyGraph) : Prop := lensEdgeS a.2.1 ∧ lensIntS a.2.2.1 ∧ lensIntS a.2.2.2
theorem z_Graph (a : TyGraph) (left : Int) (h0 : 0 ≤ left) (h1 : left ≤ bigN) (hl : lensGraph a) : F_laws_szGraph a left = some (if (nGraph a : Int) ≤ left then left - nGraph a else -1) := by
  unfold bigN at h1
  obtain ⟨l0, l1, l2⟩ := hl
  unfold nGraph
  refine bnd (z_EdgeS a.2.1 (left) (by omega) (by unfold bigN; omega) l0) (stp ?_)
  by_cases g0 : (nEdgeS a.2.1 : Int) ≤ left
  case neg =>
    rw [if_neg g0]; try rw [if_neg (by omega)]
    exact cTW (dT (by omega)) rfl
  rw [if_pos g0]
  refine cFW (dF (by omega)) ?_
  refine bnd (z_IntS a.2.2.1 (left - nEdgeS a.2.1) (by omega) (by unfold bigN; omega) l1) (stp ?_)
  by_cases g1 : (nIntS a.2.2.1 : Int) ≤ left - nEdgeS a.2.1
  case neg =>
    rw [if_neg g1]; try rw [if_neg (by omega)]
    exact cTW (dT (by omega)) rfl
  rw [if_pos g1]
  refine cFW (dF (by omega)) ?_
  refine bnd (z_IntS a.2.2.2 (left - nEdgeS a.2.1 - nIntS a.2.2.1) (by omega) (by unfold bigN; omega) l2) (stp ?_)
  by_cases g2 : (nIntS a.2.2.2 : Int) ≤ left - nEdgeS a.2.1 - nIntS a.2.2.1
  case neg =>
    rw [if_neg g2]; try rw [if_neg (by omega)]
    exact cTW (dT (by omega)) rfl
  rw [if_pos g2]
  try rw [if_pos (by omega)]
  refine cFW (dF (by omega)) ?_
  congr 1; try omega
theorem niceLensGraph {a : TyGraph} (h : Nice.ok a) : lensGraph a := by
  obtain ⟨h0, h1, h2, h3⟩ := h
  exact ⟨niceLensEdgeS h1, niceLensIntS h2, niceLensIntS h3⟩
theorem t_Graph (a : TyGraph) (h : nGraph a ≤ 1048576) : F_laws_toGraph a = some a := by
  unfold nGraph at h
  exact bnd (t_EdgeS a.2.1 (by omega)) (bnd (t_IntS a.2.2.1 (by omega)) (bnd (t_IntS a.2.2.2 (by omega)) (rfl)))
theorem e_Graph (a : TyGraph) (h : nGraph a ≤ 1048576) : F_laws_eqGraph a a = some true := by
  unfold nGraph at h
  exact stp (cFW (nT (dT rfl)) (bnd (e_EdgeS a.2.1 (by omega)) (stp (cFW rfl (bnd (e_IntS a.2.2.1 (by omega)) (stp (cFW rfl (bnd (e_IntS a.2.2.2 (by omega)) (stp (cFW rfl (rfl)))))))))))
end Go.Proofs.Ytgfnophfoccamaa
