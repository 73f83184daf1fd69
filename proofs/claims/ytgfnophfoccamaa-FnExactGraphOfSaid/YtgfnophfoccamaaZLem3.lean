/-
  Plain laws: the law's helpers for struct types with lists of structs and strings, printed by a program (wip/y/lem2.py). No program in sight. No condition.
-/
import Derived.Test.YtgfnophfoccamaaZLem1
namespace Go.Proofs.Ytgfnophfoccamaa
set_option linter.unusedVariables false

theorem nE_sum {α : Type} (f : α → Nat) (l : List α) : tot (fun x => 8 * (1 + f x)) l = 8 * (l.length + tot f l) := by
  induction l with
  | nil => rfl
  | cons a l ih => rw [tot_cons, tot_cons, ih, List.length_cons]; omega
theorem tot_le {α : Type} {f g : α → Nat} (h : ∀ a, f a ≤ g a) (l : List α) : tot f l ≤ tot g l := by
  induction l with
  | nil => exact Nat.le_refl _
  | cons a l ih => rw [tot_cons, tot_cons]; have := h a; omega
theorem mark_loop2 {α : Type} (mk : α → Int → α × Int) (n M : α → Nat) (hmk : ∀ a k, (mk a k).2 = k + n a) (hnM : ∀ a, n a ≤ M a) {f : List α × Int × Int → Option ((List α × Int × Int) ⊕ (List α × Int))} (N : Nat) (B : Int)
    (hf : ∀ (j : Nat) (a : α) (s : List α) (q : Int), s[j]? = some a → s.length = N → j < N → 0 ≤ q → q + M a ≤ B → f (s, q, (j : Int)) = some (.inl (s.set j (mk a q).1, (mk a q).2, (j : Int) + 1)))
    (he : ∀ (s : List α) (q : Int), s.length = N → f (s, q, (N : Int)) = some (.inr (s, q))) : ∀ (rest pre : List α) (q : Int), pre.length + rest.length = N → 0 ≤ q → q + tot M rest ≤ B → whileO f (pre ++ rest, q, (pre.length : Int)) = some (pre ++ (mkL mk rest q).1, (mkL mk rest q).2)
  | [], pre, q, hN, _, _ => by
    have h1 : pre.length = N := by simpa using hN
    have := he pre q h1
    rw [← h1] at this
    rw [List.append_nil, whileO_end this]; simp [mkL]
  | a :: rest, pre, q, hN, h0, hB => by
    rw [tot_cons] at hB
    have hn := hnM a
    have h1 := hf pre.length a (pre ++ a :: rest) q (get_app _ _ _) (by simpa using hN) (by simp at hN; omega) h0 (by omega)
    have ih := mark_loop2 mk n M hmk hnM N B hf he rest (pre ++ [(mk a q).1]) (mk a q).2 (by simp at hN ⊢; omega) (by rw [hmk]; omega) (by rw [hmk]; omega)
    rw [set_app, app1 pre rest (mk a q).1, ← len1 pre (mk a q).1] at h1
    rw [whileO_step h1, ih]
    simp [mkL]
theorem held_loop2 {α : Type} (mk : α → Int → α × Int) (n M : α → Nat) (hmk : ∀ a k, (mk a k).2 = k + n a) (hnM : ∀ a, n a ≤ M a) {f : Int × Int → Option ((Int × Int) ⊕ (Int ⊕ Int))} (L : List α) (B : Int)
    (hf : ∀ (j : Nat) (a : α) (q : Int), L[j]? = some (mk a q).1 → j < L.length → 0 ≤ q → q + M a ≤ B → f (q, (j : Int)) = some (.inl (q + n a, (j : Int) + 1)))
    (he : ∀ q : Int, f (q, (L.length : Int)) = some (.inr (.inl q))) : ∀ (rest pre : List α) (q : Int), L = pre ++ (mkL mk rest q).1 → 0 ≤ q → q + tot M rest ≤ B → whileO f (q, (pre.length : Int)) = some (.inl (q + tot n rest))
  | [], pre, q, hL, _, _ => by
    have := he q
    rw [hL] at this
    have h2 : pre ++ (mkL mk [] q).1 = pre := by simp [mkL]
    rw [h2] at this
    rw [whileO_end this, tot_nil]; simp
  | a :: rest, pre, q, hL, h0, hB => by
    rw [tot_cons] at hB
    have hn := hnM a
    have hL' : L = pre ++ (mk a q).1 :: (mkL mk rest (q + n a)).1 := by rw [hL]; show _ = _; rw [← hmk]; rfl
    have h1 := hf pre.length a q (by rw [hL']; exact get_app _ _ _) (by rw [hL']; simp) h0 (by omega)
    have ih := held_loop2 mk n M hmk hnM L B hf he rest (pre ++ [(mk a q).1]) (q + n a) (by rw [hL', app1]) (by omega) (by omega)
    rw [len1] at ih
    rw [whileO_step h1, ih, tot_cons]; congr 2; omega

abbrev TyEdge := Int × Int × (List Int) × (List Int)
def nEdge (a : TyEdge) : Nat := nIntS a.2.2.1 + nIntS a.2.2.2
theorem e_Edge (a : TyEdge) (h : nEdge a ≤ 1048576) : F_laws_eqEdge a a = some true := by
  unfold nEdge at h
  exact stp (cFW (nT (dT rfl)) (stp (cFW (nT (dT rfl)) (bnd (e_IntS a.2.2.1 (by omega)) (stp (cFW rfl (bnd (e_IntS a.2.2.2 (by omega)) (stp (cFW rfl (rfl))))))))))
abbrev TyEdgeS := List TyEdge
def nEdgeS (a : TyEdgeS) : Nat := a.length + tot nEdge a
theorem e_EdgeS (a : TyEdgeS) (h : nEdgeS a ≤ 1048576) : F_laws_eqEdgeS a a = some true := by
  unfold nEdgeS at h
  refine stp (cFW (nT (dT rfl)) (sqW (whileO_is (fun j => (j : Int)) (t := .inl ()) a.length ?_ ?_) ?_))
  · intro j hj
    exact stp (cTW (dT (by omega)) (bnd (idxO_of (List.getElem?_eq_getElem hj)) (bnd (idxO_of (List.getElem?_eq_getElem hj)) (bnd (e_Edge a[j] (by have := tot_mem (n := nEdge) (List.getElem_mem hj); omega)) (stp (cFW rfl (bnd (addO_of (by omega) (by omega)) rfl)))))))
  · exact stp (cFW (dF (by omega)) rfl)
  · rfl
def mkE_Edge (x : TyEdge) (q : Int) : TyEdge × Int := ((q, (q + 1), (mk_IntS x.2.2.1 ((q + 1) + 1)).1, (mk_IntS x.2.2.2 (mk_IntS x.2.2.1 ((q + 1) + 1)).2).1), (mk_IntS x.2.2.2 (mk_IntS x.2.2.1 ((q + 1) + 1)).2).2)
def cE_Edge (x : TyEdge) : Nat := 2 + cIntS x.2.2.1 + cIntS x.2.2.2
theorem mkE_Edge_snd (x : TyEdge) (q : Int) : (mkE_Edge x q).2 = q + cE_Edge x := by
  unfold mkE_Edge cE_Edge
  simp only [mk_IntS_snd]
  omega
theorem cE_Edge_le (x : TyEdge) : cE_Edge x ≤ 8 * (1 + nEdge x) := by
  unfold cE_Edge nEdge
  have h2 := cIntS_le x.2.2.1
  have h3 := cIntS_le x.2.2.2
  omega
def mk_EdgeS : TyEdgeS → Int → TyEdgeS × Int := mkL mkE_Edge
def cEdgeS (a : TyEdgeS) : Nat := tot cE_Edge a
theorem cEdgeS_le (a : TyEdgeS) : cEdgeS a ≤ 8 * nEdgeS a := by
  have := tot_le cE_Edge_le a
  rw [nE_sum] at this
  exact this
theorem mk_EdgeS_snd (a : TyEdgeS) (k : Int) : (mk_EdgeS a k).2 = k + cEdgeS a := mkL_snd mkE_Edge cE_Edge mkE_Edge_snd a k
theorem m_EdgeS (a : TyEdgeS) (k : Int) (h0 : 0 ≤ k) (h : k + 8 * nEdgeS a ≤ 1125899906842624) : F_laws_markEdgeS a k = some (mk_EdgeS a k) := by
  have hsum := nE_sum nEdge a
  unfold nEdgeS at h
  refine bnd (mark_loop2 mkE_Edge cE_Edge (fun x => 8 * (1 + nEdge x)) mkE_Edge_snd cE_Edge_le a.length 1125899906842624 ?_ ?_ a [] k (by simp) h0 (by rw [hsum]; omega)) rfl
  · intro j x s q hj hs hjl hq hB
    dsimp only at hB ⊢
    unfold nEdge at hB
    have b2 := cIntS_le x.2.2.1
    have b3 := cIntS_le x.2.2.2
    refine stp (cTW (dT (by omega)) ?_)
    refine bnd (idxO_of hj) ?_
    refine bnd (setO_of _ (by omega)) ?_
    refine bnd (addO_of (by omega) (by omega)) ?_
    refine bnd (idxO_of (a := (q, x.2.1, x.2.2.1, x.2.2.2)) (by rw [List.getElem?_set_self (by omega)])) ?_
    refine bnd (setO_of _ (by simp only [List.length_set]; omega)) ?_
    refine bnd (addO_of (by omega) (by omega)) ?_
    refine bnd (idxO_of (a := (q, (q + 1), x.2.2.1, x.2.2.2)) (by rw [List.getElem?_set_self (by simp only [List.length_set]; omega)])) ?_
    refine bnd (m_IntS x.2.2.1 ((q + 1) + 1) (by omega) (by omega)) ?_
    refine bnd (setO_of _ (by simp only [List.length_set]; omega)) ?_
    refine bnd (idxO_of (a := (q, (q + 1), (mk_IntS x.2.2.1 ((q + 1) + 1)).1, x.2.2.2)) (by rw [List.getElem?_set_self (by simp only [List.length_set]; omega)])) ?_
    refine bnd (m_IntS x.2.2.2 (mk_IntS x.2.2.1 ((q + 1) + 1)).2 (by simp only [mk_IntS_snd]; omega) (by simp only [mk_IntS_snd]; omega)) ?_
    refine bnd (setO_of _ (by simp only [List.length_set]; omega)) ?_
    refine bnd (addO_of (by omega) (by omega)) ?_
    simp only [List.set_set]; rfl
  · intro s q hs; dsimp only; exact stp (cFW (dF (by omega)) rfl)
theorem h_EdgeS (a : TyEdgeS) (k : Int) (h0 : 0 ≤ k) (h : k + 8 * nEdgeS a ≤ 1125899906842624) : F_laws_heldEdgeS (mk_EdgeS a k).1 k = some (k + cEdgeS a) := by
  have hsum := nE_sum nEdge a
  unfold nEdgeS at h
  refine sqW (held_loop2 mkE_Edge cE_Edge (fun x => 8 * (1 + nEdge x)) mkE_Edge_snd cE_Edge_le (mk_EdgeS a k).1 1125899906842624 ?_ ?_ a [] k rfl h0 (by rw [hsum]; omega)) ?_
  · intro j x q hj hjl hq hB
    dsimp only at hB ⊢
    unfold nEdge at hB
    have hlen : (mk_EdgeS a k).1.length = a.length := mkL_len mkE_Edge a k
    have b2 := cIntS_le x.2.2.1
    have b3 := cIntS_le x.2.2.2
    have e2 := h_IntS x.2.2.1 ((q + 1) + 1) (by omega) (by omega)
    have e3 := h_IntS x.2.2.2 (mk_IntS x.2.2.1 ((q + 1) + 1)).2 (by simp only [mk_IntS_snd]; omega) (by simp only [mk_IntS_snd]; omega)
    simp only [mk_IntS_snd] at e3
    refine stp (cTW (dT (by omega)) ?_)
    refine bnd (idxO_of hj) ?_
    refine stp (cFW (nT (dT (by rfl))) ?_)
    refine bnd (addO_of (by omega) (by omega)) ?_
    refine bnd (idxO_of hj) ?_
    refine stp (cFW (nT (dT (by rfl))) ?_)
    refine bnd (addO_of (by omega) (by omega)) ?_
    refine bnd (idxO_of hj) ?_
    refine bnd (by unfold mkE_Edge; dsimp only; exact e2) (stp (cFW (dF (by omega)) ?_))
    refine bnd (idxO_of hj) ?_
    refine bnd (by unfold mkE_Edge; simp only [mk_IntS_snd]; exact e3) (stp (cFW (dF (by omega)) ?_))
    refine bnd (addO_of (by omega) (by omega)) ?_
    refine congrArg some (congrArg Sum.inl (Prod.ext ?_ rfl))
    unfold cE_Edge; dsimp only; push_cast; omega
  · intro q; dsimp only; exact stp (cFW (dF (by omega)) rfl)
  · rfl
abbrev TyGraph := Int × (List (Int × Int × (List Int) × (List Int))) × (List Int) × (List Int)
def nGraph (a : TyGraph) : Nat := nEdgeS a.2.1 + nIntS a.2.2.1 + nIntS a.2.2.2
theorem e_Graph (a : TyGraph) (h : nGraph a ≤ 1048576) : F_laws_eqGraph a a = some true := by
  unfold nGraph at h
  exact stp (cFW (nT (dT rfl)) (bnd (e_EdgeS a.2.1 (by omega)) (stp (cFW rfl (bnd (e_IntS a.2.2.1 (by omega)) (stp (cFW rfl (bnd (e_IntS a.2.2.2 (by omega)) (stp (cFW rfl (rfl)))))))))))
def mk_Graph (a : TyGraph) (k : Int) : TyGraph × Int := ((a.1, (mk_EdgeS a.2.1 k).1, (mk_IntS a.2.2.1 (mk_EdgeS a.2.1 k).2).1, (mk_IntS a.2.2.2 (mk_IntS a.2.2.1 (mk_EdgeS a.2.1 k).2).2).1), (mk_IntS a.2.2.2 (mk_IntS a.2.2.1 (mk_EdgeS a.2.1 k).2).2).2)
def cGraph (a : TyGraph) : Nat := cEdgeS a.2.1 + cIntS a.2.2.1 + cIntS a.2.2.2
theorem cGraph_le (a : TyGraph) : cGraph a ≤ 8 * nGraph a := by
  unfold cGraph nGraph
  have h1 := cEdgeS_le a.2.1
  have h2 := cIntS_le a.2.2.1
  have h3 := cIntS_le a.2.2.2
  omega
theorem mk_Graph_snd (a : TyGraph) (k : Int) : (mk_Graph a k).2 = k + cGraph a := by
  unfold mk_Graph cGraph
  simp only [mk_EdgeS_snd, mk_IntS_snd]
  try omega
theorem m_Graph (a : TyGraph) (k : Int) (h0 : 0 ≤ k) (h : k + 8 * nGraph a ≤ 1125899906842624) : F_laws_markGraph a k = some (mk_Graph a k) := by
  unfold nGraph at h
  have h1 := cEdgeS_le a.2.1
  have h2 := cIntS_le a.2.2.1
  have h3 := cIntS_le a.2.2.2
  exact bnd (m_EdgeS _ _ h0 (by omega)) (bnd (m_IntS _ _ (by simp only [mk_EdgeS_snd]; omega) (by simp only [mk_EdgeS_snd]; omega)) (bnd (m_IntS _ _ (by simp only [mk_EdgeS_snd, mk_IntS_snd]; omega) (by simp only [mk_EdgeS_snd, mk_IntS_snd]; omega)) (rfl)))
theorem h_Graph (a : TyGraph) (k : Int) (h0 : 0 ≤ k) (h : k + 8 * nGraph a ≤ 1125899906842624) : F_laws_heldGraph (mk_Graph a k).1 k = some (k + cGraph a) := by
  unfold nGraph at h
  have h1 := cEdgeS_le a.2.1
  have h2 := cIntS_le a.2.2.1
  have h3 := cIntS_le a.2.2.2
  have e0 : F_laws_heldEdgeS (mk_EdgeS a.2.1 k).1 k = some (k + cEdgeS a.2.1) := h_EdgeS _ _ h0 (by omega)
  have e1 : F_laws_heldIntS (mk_IntS a.2.2.1 (mk_EdgeS a.2.1 k).2).1 (mk_EdgeS a.2.1 k).2 = some ((mk_EdgeS a.2.1 k).2 + cIntS a.2.2.1) := h_IntS _ _ (by simp only [mk_EdgeS_snd]; omega) (by simp only [mk_EdgeS_snd]; omega)
  have e2 : F_laws_heldIntS (mk_IntS a.2.2.2 (mk_IntS a.2.2.1 (mk_EdgeS a.2.1 k).2).2).1 (mk_IntS a.2.2.1 (mk_EdgeS a.2.1 k).2).2 = some ((mk_IntS a.2.2.1 (mk_EdgeS a.2.1 k).2).2 + cIntS a.2.2.2) := h_IntS _ _ (by simp only [mk_EdgeS_snd, mk_IntS_snd]; omega) (by simp only [mk_EdgeS_snd, mk_IntS_snd]; omega)
  simp only [mk_EdgeS_snd] at e1
  simp only [mk_EdgeS_snd, mk_IntS_snd] at e2
  unfold cGraph mk_Graph
  refine bnd e0 (stp (cFW (dF (by omega)) ?_))
  refine bnd (by simp only [mk_EdgeS_snd]; exact e1) (stp (cFW (dF (by omega)) ?_))
  refine bnd (by simp only [mk_EdgeS_snd, mk_IntS_snd]; exact e2) (stp (cFW (dF (by omega)) ?_))
  refine congrArg some ?_
  try simp only [mk_EdgeS_snd, mk_IntS_snd]
  try omega
end Go.Proofs.Ytgfnophfoccamaa
