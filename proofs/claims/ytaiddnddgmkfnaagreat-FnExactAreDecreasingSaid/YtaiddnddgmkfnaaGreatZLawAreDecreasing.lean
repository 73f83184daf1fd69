/-
  Plain laws: the law's helpers for struct types with lists of structs and strings, printed by a program (wip/y/lem2.py). No program in sight. No condition.
-/
import Derived.Test.YtaiddnddgmkfnaaGreatZText
import Derived.Test.YtaiddnddgmkfnaaGreatZP47
namespace Go.Proofs.YtaiddnddgmkfnaaGreat
set_option linter.unusedVariables false

abbrev TyNode := Int × Int × ByteArray
def nNode (a : TyNode) : Nat := a.2.2.size
def lensNode (a : TyNode) : Prop := (a.2.2.size : Int) ≤ 9223372036854775807
theorem z_Node (a : TyNode) (left : Int) (h0 : 0 ≤ left) (h1 : left ≤ bigN) (hl : lensNode a) : F_laws_szNode a left = some (if (nNode a : Int) ≤ left then left - nNode a else -1) := by
  unfold bigN at h1
  have l0 := hl
  unfold lensNode at l0
  unfold nNode
  refine bnd (subO_of (by omega) (by omega)) (stp ?_)
  by_cases g0 : (a.2.2.size : Int) ≤ left
  case neg =>
    rw [if_neg (by omega)]
    exact cTW (dT (by omega)) rfl
  rw [if_pos (by omega)]
  refine cFW (dF (by omega)) ?_
  congr 1; try omega
theorem niceLensNode {a : TyNode} (h : Nice.ok a) : lensNode a := by
  obtain ⟨h0, h1, h2⟩ := h
  exact h2
theorem t_Node (a : TyNode) (h : nNode a ≤ 1048576) : F_laws_toNode a = some a := by
  unfold nNode at h
  exact rfl
theorem e_Node (a : TyNode) (h : nNode a ≤ 1048576) : F_laws_eqNode a a = some true := by
  unfold nNode at h
  exact stp (cFW (nT (dT rfl)) (stp (cFW (nT (dT rfl)) (stp (cFW (nT (dT rfl)) (rfl))))))
abbrev TyNodeS := List TyNode
def nNodeS (a : TyNodeS) : Nat := a.length + tot nNode a
def lensNodeS (a : TyNodeS) : Prop := lenOk a ∧ ∀ x ∈ a, lensNode x
theorem z_NodeS (a : TyNodeS) (left : Int) (h0 : 0 ≤ left) (h1 : left ≤ bigN) (hl : lensNodeS a) : F_laws_szNodeS a left = some (if (nNodeS a : Int) ≤ left then left - nNodeS a else -1) := by
  have hl1 := hl.1; unfold lenOk at hl1; unfold bigN at h1
  unfold nNodeS
  refine bnd (subO_of (by omega) (by omega)) (stp ?_)
  by_cases h : (a.length : Int) ≤ left
  · refine cFW (dF (by omega)) (sqW (sz_loop nNode a (left - a.length) ?_ ?_ a [] _ rfl ?_ (Int.le_refl _)) ?_)
    · intro j r s hj hjl hs hsB
      dsimp only
      refine stp (cTW (dT (by omega)) (bnd (idxO_of hj) (bnd (z_Node r s hs (by unfold bigN; omega) (hl.2 r (mem_of_get hj))) (stp ?_))))
      by_cases h2 : (nNode r : Int) ≤ s
      · rw [if_pos h2, if_pos h2]; exact cFW (dF (by omega)) (bnd (addO_of (by omega) (by omega)) rfl)
      · rw [if_neg h2, if_neg h2]; exact cTW (dT (by omega)) rfl
    · intro s; dsimp only; exact stp (cFW (dF (by omega)) rfl)
    · omega
    · by_cases h2 : (tot nNode a : Int) ≤ left - a.length
      · rw [if_pos h2, if_pos (by omega), seqO_l]; congr 1; omega
      · rw [if_neg h2, if_neg (by omega), seqO_r]
  · rw [if_neg (by omega)]; exact cTW (dT (by omega)) rfl
theorem niceLensNodeS {a : TyNodeS} (h : Nice.ok a) : lensNodeS a := ⟨h.1, fun x hx => niceLensNode (h.2 x hx)⟩
theorem t_NodeS (a : TyNodeS) (h : nNodeS a ≤ 1048576) : F_laws_toNodeS a = some a := by
  have hm : maxN = 1099511627776 := rfl
  unfold nNodeS at h
  refine bnd (makeO_of _ (by omega)) (bnd (to_loop _ a ?_ ?_ a [] rfl) rfl)
  · intro j x s hj hjl hs
    dsimp only
    exact stp (cTW (dT (by omega)) (bnd (idxO_of hj) (bnd (t_Node x (by have := tot_mem (n := nNode) (mem_of_get hj); omega)) (bnd (setO_of _ (by omega)) (bnd (addO_of (by omega) (by omega)) rfl)))))
  · intro s hs; dsimp only; exact stp (cFW (dF (by omega)) rfl)
theorem e_NodeS (a : TyNodeS) (h : nNodeS a ≤ 1048576) : F_laws_eqNodeS a a = some true := by
  unfold nNodeS at h
  refine stp (cFW (nT (dT rfl)) (sqW (whileO_is (fun j => (j : Int)) (t := .inl ()) a.length ?_ ?_) ?_))
  · intro j hj
    exact stp (cTW (dT (by omega)) (bnd (idxO_of (List.getElem?_eq_getElem hj)) (bnd (idxO_of (List.getElem?_eq_getElem hj)) (bnd (e_Node a[j] (by have := tot_mem (n := nNode) (List.getElem_mem hj); omega)) (stp (cFW rfl (bnd (addO_of (by omega) (by omega)) rfl)))))))
  · exact stp (cFW (dF (by omega)) rfl)
  · rfl
abbrev TyTerm := List (Int × Int × ByteArray)
def nTerm (a : TyTerm) : Nat := nNodeS a
def lensTerm (a : TyTerm) : Prop := lensNodeS a
theorem z_Term (a : TyTerm) (left : Int) (h0 : 0 ≤ left) (h1 : left ≤ bigN) (hl : lensTerm a) : F_laws_szTerm a left = some (if (nTerm a : Int) ≤ left then left - nTerm a else -1) := by
  unfold bigN at h1
  have l0 := hl
  unfold lensTerm at l0
  unfold nTerm
  refine bnd (z_NodeS a (left) (by omega) (by unfold bigN; omega) l0) (stp ?_)
  by_cases g0 : (nNodeS a : Int) ≤ left
  case neg =>
    rw [if_neg g0]; try rw [if_neg (by omega)]
    exact cTW (dT (by omega)) rfl
  rw [if_pos g0]
  try rw [if_pos (by omega)]
  refine cFW (dF (by omega)) ?_
  congr 1; try omega
theorem niceLensTerm {a : TyTerm} (h : Nice.ok a) : lensTerm a := by
  have h0 := h
  exact niceLensNodeS h0
theorem t_Term (a : TyTerm) (h : nTerm a ≤ 1048576) : F_laws_toTerm a = some a := by
  unfold nTerm at h
  exact bnd (t_NodeS a (by omega)) (rfl)
theorem e_Term (a : TyTerm) (h : nTerm a ≤ 1048576) : F_laws_eqTerm a a = some true := by
  unfold nTerm at h
  exact bnd (e_NodeS a (by omega)) (stp (cFW rfl (rfl)))
end Go.Proofs.YtaiddnddgmkfnaaGreat
namespace Go.Proofs.YtaiddnddgmkfnaaGreat
set_option linter.unusedVariables false

abbrev TyRule := ByteArray × (List (Int × Int × ByteArray)) × (List (Int × Int × ByteArray))
def nRule (a : TyRule) : Nat := a.1.size + nTerm a.2.1 + nTerm a.2.2
def lensRule (a : TyRule) : Prop := (a.1.size : Int) ≤ 9223372036854775807 ∧ lensTerm a.2.1 ∧ lensTerm a.2.2
theorem z_Rule (a : TyRule) (left : Int) (h0 : 0 ≤ left) (h1 : left ≤ bigN) (hl : lensRule a) : F_laws_szRule a left = some (if (nRule a : Int) ≤ left then left - nRule a else -1) := by
  unfold bigN at h1
  obtain ⟨l0, l1, l2⟩ := hl
  unfold nRule
  refine bnd (subO_of (by omega) (by omega)) (stp ?_)
  by_cases g0 : (a.1.size : Int) ≤ left
  case neg =>
    rw [if_neg (by omega)]
    exact cTW (dT (by omega)) rfl
  refine cFW (dF (by omega)) ?_
  refine bnd (z_Term a.2.1 (left - a.1.size) (by omega) (by unfold bigN; omega) l1) (stp ?_)
  by_cases g1 : (nTerm a.2.1 : Int) ≤ left - a.1.size
  case neg =>
    rw [if_neg g1]; try rw [if_neg (by omega)]
    exact cTW (dT (by omega)) rfl
  rw [if_pos g1]
  refine cFW (dF (by omega)) ?_
  refine bnd (z_Term a.2.2 (left - a.1.size - nTerm a.2.1) (by omega) (by unfold bigN; omega) l2) (stp ?_)
  by_cases g2 : (nTerm a.2.2 : Int) ≤ left - a.1.size - nTerm a.2.1
  case neg =>
    rw [if_neg g2]; try rw [if_neg (by omega)]
    exact cTW (dT (by omega)) rfl
  rw [if_pos g2]
  try rw [if_pos (by omega)]
  refine cFW (dF (by omega)) ?_
  congr 1; try omega
theorem niceLensRule {a : TyRule} (h : Nice.ok a) : lensRule a := by
  obtain ⟨h0, h1, h2⟩ := h
  exact ⟨h0, niceLensTerm h1, niceLensTerm h2⟩
theorem t_Rule (a : TyRule) (h : nRule a ≤ 1048576) : F_laws_toRule a = some a := by
  unfold nRule at h
  exact bnd (t_Term a.2.1 (by omega)) (bnd (t_Term a.2.2 (by omega)) (rfl))
theorem e_Rule (a : TyRule) (h : nRule a ≤ 1048576) : F_laws_eqRule a a = some true := by
  unfold nRule at h
  exact stp (cFW (nT (dT rfl)) (bnd (e_Term a.2.1 (by omega)) (stp (cFW rfl (bnd (e_Term a.2.2 (by omega)) (stp (cFW rfl (rfl))))))))
end Go.Proofs.YtaiddnddgmkfnaaGreat
namespace Go.Proofs.YtaiddnddgmkfnaaGreat
set_option linter.unusedVariables false

abbrev TyRuleS := List TyRule
def nRuleS (a : TyRuleS) : Nat := a.length + tot nRule a
def lensRuleS (a : TyRuleS) : Prop := lenOk a ∧ ∀ x ∈ a, lensRule x
theorem z_RuleS (a : TyRuleS) (left : Int) (h0 : 0 ≤ left) (h1 : left ≤ bigN) (hl : lensRuleS a) : F_laws_szRuleS a left = some (if (nRuleS a : Int) ≤ left then left - nRuleS a else -1) := by
  have hl1 := hl.1; unfold lenOk at hl1; unfold bigN at h1
  unfold nRuleS
  refine bnd (subO_of (by omega) (by omega)) (stp ?_)
  by_cases h : (a.length : Int) ≤ left
  · refine cFW (dF (by omega)) (sqW (sz_loop nRule a (left - a.length) ?_ ?_ a [] _ rfl ?_ (Int.le_refl _)) ?_)
    · intro j r s hj hjl hs hsB
      dsimp only
      refine stp (cTW (dT (by omega)) (bnd (idxO_of hj) (bnd (z_Rule r s hs (by unfold bigN; omega) (hl.2 r (mem_of_get hj))) (stp ?_))))
      by_cases h2 : (nRule r : Int) ≤ s
      · rw [if_pos h2, if_pos h2]; exact cFW (dF (by omega)) (bnd (addO_of (by omega) (by omega)) rfl)
      · rw [if_neg h2, if_neg h2]; exact cTW (dT (by omega)) rfl
    · intro s; dsimp only; exact stp (cFW (dF (by omega)) rfl)
    · omega
    · by_cases h2 : (tot nRule a : Int) ≤ left - a.length
      · rw [if_pos h2, if_pos (by omega), seqO_l]; congr 1; omega
      · rw [if_neg h2, if_neg (by omega), seqO_r]
  · rw [if_neg (by omega)]; exact cTW (dT (by omega)) rfl
theorem niceLensRuleS {a : TyRuleS} (h : Nice.ok a) : lensRuleS a := ⟨h.1, fun x hx => niceLensRule (h.2 x hx)⟩
theorem t_RuleS (a : TyRuleS) (h : nRuleS a ≤ 1048576) : F_laws_toRuleS a = some a := by
  have hm : maxN = 1099511627776 := rfl
  unfold nRuleS at h
  refine bnd (makeO_of _ (by omega)) (bnd (to_loop _ a ?_ ?_ a [] rfl) rfl)
  · intro j x s hj hjl hs
    dsimp only
    exact stp (cTW (dT (by omega)) (bnd (idxO_of hj) (bnd (t_Rule x (by have := tot_mem (n := nRule) (mem_of_get hj); omega)) (bnd (setO_of _ (by omega)) (bnd (addO_of (by omega) (by omega)) rfl)))))
  · intro s hs; dsimp only; exact stp (cFW (dF (by omega)) rfl)
theorem e_RuleS (a : TyRuleS) (h : nRuleS a ≤ 1048576) : F_laws_eqRuleS a a = some true := by
  unfold nRuleS at h
  refine stp (cFW (nT (dT rfl)) (sqW (whileO_is (fun j => (j : Int)) (t := .inl ()) a.length ?_ ?_) ?_))
  · intro j hj
    exact stp (cTW (dT (by omega)) (bnd (idxO_of (List.getElem?_eq_getElem hj)) (bnd (idxO_of (List.getElem?_eq_getElem hj)) (bnd (e_Rule a[j] (by have := tot_mem (n := nRule) (List.getElem_mem hj); omega)) (stp (cFW rfl (bnd (addO_of (by omega) (by omega)) rfl)))))))
  · exact stp (cFW (dF (by omega)) rfl)
  · rfl
end Go.Proofs.YtaiddnddgmkfnaaGreat
namespace Go.Proofs.YtaiddnddgmkfnaaGreat
set_option linter.unusedVariables false
theorem lawN_AreDecreasing (a0 : List TyRule) (a1 : List Int) (i0 : Nice.ok a0) (i1 : Nice.ok a1) : F_laws_FnExactAreDecreasing a0 a1 = some true := by
  have hbig : bigN = 4611686018427387904 := rfl
  refine stp ?_
  by_cases gaWeights : (1048576 : Int) < ((a1.length : Nat) : Int)
  · exact cTW (dT gaWeights) rfl
  refine cFW (dF gaWeights) ?_
  have haWeights : nIntS a1 ≤ 1048576 := by unfold nIntS; omega
  refine bnd (z_RuleS a0 1048576 (by omega) (by rw [hbig]; omega) (niceLensRuleS i0)) (stp ?_)
  by_cases gaRules : (nRuleS a0 : Int) ≤ 1048576
  case neg => rw [if_neg gaRules]; exact cTW (dT (by omega)) rfl
  rw [if_pos gaRules]
  refine cFW (dF (by omega)) ?_
  have haRules : nRuleS a0 ≤ 1048576 := by omega
  first
  | refine bnd (t_RuleS a0 haRules) (bnd (t_IntS a1 haWeights) (bnd (specAreDecreasing a0 a1) ?_))
  | refine bnd (bnd (t_RuleS a0 haRules) (bnd (t_IntS a1 haWeights) (bnd (specAreDecreasing a0 a1) rfl))) ?_
  refine bnd (t_RuleS a0 haRules) ?_
  refine bnd (t_IntS a1 haWeights) ?_
  refine bnd (implAreDecreasing a0 a1) ?_
  refine bnd (a := false) (stp (cFW (nT (dT rfl)) (stp (congrArg some (nT (dT rfl)))))) (cFW rfl ?_)
  refine bnd (t_RuleS _ haRules) (bnd (e_RuleS _ haRules) (stp (cFW rfl ?_)))
  refine bnd (t_IntS _ haWeights) (bnd (e_IntS _ haWeights) (stp (cFW rfl ?_)))
  rfl
end Go.Proofs.YtaiddnddgmkfnaaGreat
