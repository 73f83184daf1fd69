/-
  Plain laws: the law's helpers for struct types with lists of structs and strings, printed by a program (wip/y/lem2.py). No program in sight. No condition.
-/
import Derived.Test.YtaiddnddgmkfnaaZLem5
namespace Go.Proofs.Ytaiddnddgmkfnaa
set_option linter.unusedVariables false

abbrev TyRuleS := List TyRule
def nRuleS (a : TyRuleS) : Nat := a.length + tot nRule a
def lensRuleS (a : TyRuleS) : Prop := lenOk a ∧ ∀ x ∈ a, lensRule x
theorem z_RuleS (a : TyRuleS) (left : Int) (h0 : 0 ≤ left) (h1 : left ≤ bigN) (hl : lensRuleS a) : F_laws_szRuleS a left = some (if (nRuleS a : Int) ≤ left then left - nRuleS a else -1) := by
  have hl1 := hl.1; unfold lenOk at hl1; unfold bigN at h1
  unfold nRuleS
  refine bnd (subO_of (by omega) (by omega)) (stp ?_)
  by_cases h : (a.length : Int) ≤ left
  · refine cFW (dF (by omega)) (sqW (sz_loop nRule a (left - a.length) ?_ ?_ a [] _ rfl ?_ (Int.le_refl _)) ?_)
    · intro j r s hj hjl hs hsB
      dsimp only
      refine stp (cTW (dT (by omega)) (bnd (idxO_of hj) (bnd (z_Rule r s hs (by unfold bigN; omega) (hl.2 r (mem_of_get hj))) (stp ?_))))
      by_cases h2 : (nRule r : Int) ≤ s
      · rw [if_pos h2, if_pos h2]; exact cFW (dF (by omega)) (bnd (addO_of (by omega) (by omega)) rfl)
      · rw [if_neg h2, if_neg h2]; exact cTW (dT (by omega)) rfl
    · intro s; dsimp only; exact stp (cFW (dF (by omega)) rfl)
    · omega
    · by_cases h2 : (tot nRule a : Int) ≤ left - a.length
      · rw [if_pos h2, if_pos (by omega), seqO_l]; congr 1; omega
      · rw [if_neg h2, if_neg (by omega), seqO_r]
  · rw [if_neg (by omega)]; exact cTW (dT (by omega)) rfl
theorem niceLensRuleS {a : TyRuleS} (h : Nice.ok a) : lensRuleS a := ⟨h.1, fun x hx => niceLensRule (h.2 x hx)⟩
theorem t_RuleS (a : TyRuleS) (h : nRuleS a ≤ 1048576) : F_laws_toRuleS a = some a := by
  have hm : maxN = 1099511627776 := rfl
  unfold nRuleS at h
  refine bnd (makeO_of _ (by omega)) (bnd (to_loop _ a ?_ ?_ a [] rfl) rfl)
  · intro j x s hj hjl hs
    dsimp only
    exact stp (cTW (dT (by omega)) (bnd (idxO_of hj) (bnd (t_Rule x (by have := tot_mem (n := nRule) (mem_of_get hj); omega)) (bnd (setO_of _ (by omega)) (bnd (addO_of (by omega) (by omega)) rfl)))))
  · intro s hs; dsimp only; exact stp (cFW (dF (by omega)) rfl)
theorem e_RuleS (a : TyRuleS) (h : nRuleS a ≤ 1048576) : F_laws_eqRuleS a a = some true := by
  unfold nRuleS at h
  refine stp (cFW (nT (dT rfl)) (sqW (whileO_is (fun j => (j : Int)) (t := .inl ()) a.length ?_ ?_) ?_))
  · intro j hj
    exact stp (cTW (dT (by omega)) (bnd (idxO_of (List.getElem?_eq_getElem hj)) (bnd (idxO_of (List.getElem?_eq_getElem hj)) (bnd (e_Rule a[j] (by have := tot_mem (n := nRule) (List.getElem_mem hj); omega)) (stp (cFW rfl (bnd (addO_of (by omega) (by omega)) rfl)))))))
  · exact stp (cFW (dF (by omega)) rfl)
  · rfl
end Go.Proofs.Ytaiddnddgmkfnaa
namespace Go.Proofs.Ytaiddnddgmkfnaa
set_option linter.unusedVariables false
theorem lawN_AreRules (a0 : List TyRule) (i0 : Nice.ok a0) : F_laws_FnExactAreRules a0 = some true := by
  have hbig : bigN = 4611686018427387904 := rfl
  refine bnd (z_RuleS a0 1048576 (by omega) (by rw [hbig]; omega) (niceLensRuleS i0)) (stp ?_)
  by_cases gaRules : (nRuleS a0 : Int) ≤ 1048576
  case neg => rw [if_neg gaRules]; exact cTW (dT (by omega)) rfl
  rw [if_pos gaRules]
  refine cFW (dF (by omega)) ?_
  have haRules : nRuleS a0 ≤ 1048576 := by omega
  first
  | refine bnd (t_RuleS a0 haRules) (bnd (specAreRules a0) ?_)
  | refine bnd (bnd (t_RuleS a0 haRules) (bnd (specAreRules a0) rfl)) ?_
  refine bnd (t_RuleS a0 haRules) ?_
  refine bnd (implAreRules a0) ?_
  refine stp (cFW (nT (dT rfl)) ?_)
  refine bnd (t_RuleS _ haRules) (bnd (e_RuleS _ haRules) (stp (cFW rfl ?_)))
  rfl
end Go.Proofs.Ytaiddnddgmkfnaa
