/-
  Plain law of MirrorRule: the tree of a term, its mirror image, its nodes; both answer alike. No program in sight. No condition.
-/
import Derived.Test.YteimaohaeodbkaaGreatZP54
namespace Go.Proofs.YteimaohaeodbkaaGreat

/-! ### a term's tree -/
def toTree : Tr → Tree
  | .leaf n => .lf n
  | .node k a b => if k = 15 then .sq (toTree a) (toTree b) else .pr (toTree a) (toTree b)
noncomputable def tStep (nodes_ : List Nod) (k5 : Nat) (s207 : List Tree) : Option (List Tree) :=
  (idxO nodes_ ((k5 : Nat) : Int)).bind fun a223 =>
  (subO ((s207.length : Nat) : Int) 1).bind fun a231 =>
  (some (decide (a223.1 = 15))).bind fun a233 =>
  cond a233
  ((subO a231 1).bind fun a283 =>
    (subO a231 1).bind fun a285 =>
    (idxO s207 a285).bind fun a293 =>
    (idxO s207 a231).bind fun a301 =>
    (sliceO s207 0 a283).bind fun a303 =>
    (appO a303 [(Tree.sq a293 a301)]).bind fun a310 =>
    some a310)
  ((some (decide (a223.1 = 16))).bind fun a236 =>
    cond a236
    ((subO a231 1).bind fun a249 =>
      (subO a231 1).bind fun a251 =>
      (idxO s207 a251).bind fun a259 =>
      (idxO s207 a231).bind fun a267 =>
      (sliceO s207 0 a249).bind fun a269 =>
      (appO a269 [(Tree.pr a259 a267)]).bind fun a276 =>
      some a276)
    ((appO s207 [(Tree.lf (a223.1, a223.2.1, a223.2.2))]).bind fun a242 =>
      some a242))
theorem tStep_leaf {t : List Nod} {j : Nat} {n : Nod} {s : List Tree} (ht : t[j]? = some n) (hn : lfB n = true) (hs : s.length ≤ 1000) : tStep t j s = some (s ++ [.lf n]) := by
  have hm : maxN = 1099511627776 := rfl
  have hk := lfB_k hn
  exact bnd (idxO_of ht) (bnd (subO_of (by omega) (by omega)) (stp (cFW (dF (by omega)) (stp (cFW (dF (by omega)) (bnd (appO_of (by simp; omega)) rfl))))))
theorem tStep_node {t : List Nod} {j : Nat} {k : Int} {s : List Tree} {a b : Tree} (ht : t[j]? = some (k, 0, .empty)) (hk : k = 15 ∨ k = 16) (hs : s.length ≤ 1000) :
    tStep t j (s ++ [a] ++ [b]) = some (s ++ [if k = 15 then .sq a b else .pr a b]) := by
  have hm : maxN = 1099511627776 := rfl
  have hlen : (s ++ [a] ++ [b]).length = s.length + 2 := by simp
  have e1 : subO (((s ++ [a] ++ [b]).length : Nat) : Int) 1 = some ((s.length + 1 : Nat) : Int) := by rw [hlen, subO_of (by omega) (by omega)]; congr 1; omega
  have e2 : subO ((s.length + 1 : Nat) : Int) 1 = some ((s.length : Nat) : Int) := by rw [subO_of (by omega) (by omega)]; congr 1; omega
  have i1 : (s ++ [a] ++ [b])[s.length]? = some a := by rw [List.append_assoc, List.getElem?_append_right (Nat.le_refl _), Nat.sub_self]; rfl
  have i2 : (s ++ [a] ++ [b])[s.length + 1]? = some b := by rw [List.append_assoc, List.getElem?_append_right (by omega), Nat.add_sub_cancel_left]; rfl
  have sl : sliceO (s ++ [a] ++ [b]) 0 ((s.length : Nat) : Int) = some s := by
    unfold sliceO; rw [if_pos ⟨by omega, by omega, by rw [hlen]; omega⟩, List.append_assoc]
    simp
  refine bnd (idxO_of ht) (bnd e1 ?_)
  by_cases h15 : k = 15
  · rw [if_pos h15]
    exact stp (cTW (dT h15) (bnd e2 (bnd e2 (bnd (idxO_of i1) (bnd (idxO_of i2) (bnd sl (bnd (appO_of (by simp; omega)) rfl)))))))
  · rw [if_neg h15]
    exact stp (cFW (dF h15) (stp (cTW (dT (by dsimp only; omega)) (bnd e2 (bnd e2 (bnd (idxO_of i1) (bnd (idxO_of i2) (bnd sl (bnd (appO_of (by simp; omega)) rfl)))))))))
theorem tree_loop {t : List Nod} (ht : t.length ≤ 400) : ∀ {T : Tr} {w : Int × Int}, typT T = some w → ∀ (p q : List Nod) (r : List Tree), t = p ++ (flat T ++ q) → r.length ≤ p.length →
    forS (tStep t) ((flat T).length + q.length) p.length r = forS (tStep t) q.length (p.length + (flat T).length) (r ++ [toTree T])
  | .leaf n, w, h, p, q, r, e, hr => by
    obtain ⟨h1, rfl⟩ := typ_leaf h
    have hlt : p.length < t.length := by rw [e]; simp [flat]
    have hn : t[p.length]? = some n := by rw [e, List.getElem?_append_right (Nat.le_refl _), Nat.sub_self]; rfl
    rw [show (flat (.leaf n)).length + q.length = q.length + 1 by simp [flat]; omega, forS_step1 (tStep_leaf hn h1 (by omega))]
    rfl
  | .node k a b, w, h, p, q, r, e, hr => by
    obtain ⟨hk, x, y, h1, h2, h3⟩ := typ_node h
    have hlen : (flat (.node k a b)).length = (flat a).length + (flat b).length + 1 := by simp [flat]; omega
    have htl : t.length = p.length + ((flat a).length + (flat b).length + 1 + q.length) := by rw [e, List.length_append, List.length_append, hlen]
    have ea : t = p ++ (flat a ++ (flat b ++ ([((k, (0 : Int), ByteArray.empty) : Nod)] ++ q))) := by rw [e]; simp [flat]
    have eb : t = (p ++ flat a) ++ (flat b ++ ([((k, (0 : Int), ByteArray.empty) : Nod)] ++ q)) := by rw [ea]; simp
    have hpa := flat_pos a
    have la := tree_loop ht h1 p (flat b ++ ([((k, (0 : Int), ByteArray.empty) : Nod)] ++ q)) r ea hr
    rw [show (flat (.node k a b)).length + q.length = (flat a).length + (flat b ++ ([((k, (0 : Int), ByteArray.empty) : Nod)] ++ q)).length by rw [hlen]; simp; omega, la]
    have lb := tree_loop ht h2 (p ++ flat a) ([((k, (0 : Int), ByteArray.empty) : Nod)] ++ q) (r ++ [toTree a]) eb (by simp; omega)
    rw [show (p ++ flat a).length = p.length + (flat a).length from List.length_append] at lb
    rw [show (flat b ++ ([((k, (0 : Int), ByteArray.empty) : Nod)] ++ q)).length = (flat b).length + ([((k, (0 : Int), ByteArray.empty) : Nod)] ++ q).length from List.length_append, lb]
    have hn : t[p.length + (flat a).length + (flat b).length]? = some (k, 0, .empty) := by
      rw [show t = (p ++ flat a ++ flat b) ++ ([((k, (0 : Int), ByteArray.empty) : Nod)] ++ q) by rw [ea]; simp, List.getElem?_append_right (by simp; omega)]
      simp [Nat.add_assoc]
    rw [show ([((k, (0 : Int), ByteArray.empty) : Nod)] ++ q).length = q.length + 1 by simp, forS_step1 (tStep_node (s := r) hn hk (by omega)), hlen,
      show p.length + ((flat a).length + (flat b).length + 1) = p.length + (flat a).length + (flat b).length + 1 by omega]
    rfl
theorem treeOf_ {T : Tr} {w : Int × Int} (h : typT T = some w) (hl : (flat T).length ≤ 400) : F_impl_treeOf (flat T) = some (toTree T) := by
  have loop := tree_loop hl h [] [] [] (by simp) (by simp)
  rw [List.length_nil, Nat.add_zero, Nat.zero_add, List.nil_append] at loop
  exact bnd (m := forS (tStep (flat T)) (flat T).length 0 []) (a := [toTree T]) (by rw [loop]; rfl) (bnd (a := toTree T) rfl rfl)

/-! ### its mirror image -/
def mirK (k : Int) : Int := if 3 ≤ k ∧ k ≤ 8 then k + 6 else if 9 ≤ k ∧ k ≤ 14 then k - 6 else k
def mir : Tr → Tr
  | .leaf n => .leaf (mirK n.1, n.2)
  | .node k a b => if k = 15 then .node k (mir b) (mir a) else .node k (mir a) (mir b)
theorem toTree_node (k : Int) (a b : Tr) : toTree (.node k a b) = if k = 15 then .sq (toTree a) (toTree b) else .pr (toTree a) (toTree b) := rfl
theorem mir_node (k : Int) (a b : Tr) : mir (.node k a b) = if k = 15 then .node k (mir b) (mir a) else .node k (mir a) (mir b) := rfl
theorem mirKS_ (k : Int) (h : 1 ≤ k ∧ k ≤ 14) : F_spec_tmMirrorKind k = some (mirK k) := by
  refine bnd (l1In k 3 8) ?_
  unfold mirK
  by_cases h1 : 3 ≤ k ∧ k ≤ 8
  · rw [if_pos h1]
    exact cTW (rng_true.2 h1) (bnd (addO_of (by omega) (by omega)) rfl)
  · rw [if_neg h1]
    refine cFW (rng_false.2 h1) (bnd (l1In k 9 14) ?_)
    by_cases h2 : 9 ≤ k ∧ k ≤ 14
    · rw [if_pos h2]
      exact cTW (rng_true.2 h2) (bnd (subO_of (by omega) (by omega)) rfl)
    · rw [if_neg h2]
      exact cFW (rng_false.2 h2) rfl
theorem mirKI_ (k : Int) (h : 1 ≤ k ∧ k ≤ 14) : F_impl_mirrorKind k = some (mirK k) := by
  refine bnd (within_ k 3 8) ?_
  unfold mirK
  by_cases h1 : 3 ≤ k ∧ k ≤ 8
  · rw [if_pos h1]
    exact cTW (rng_true.2 h1) (bnd (addO_of (by omega) (by omega)) (bnd (subO_of (by omega) (by omega)) (congrArg some (by omega))))
  · rw [if_neg h1]
    refine cFW (rng_false.2 h1) (bnd (within_ k 9 14) ?_)
    by_cases h2 : 9 ≤ k ∧ k ≤ 14
    · rw [if_pos h2]
      exact cTW (rng_true.2 h2) (bnd (subO_of (by omega) (by omega)) (bnd (addO_of (by omega) (by omega)) (congrArg some (by omega))))
    · rw [if_neg h2]
      exact cFW (rng_false.2 h2) rfl
theorem mir_len : ∀ T : Tr, (flat (mir T)).length = (flat T).length
  | .leaf n => rfl
  | .node k a b => by
    have ha := mir_len a
    have hb := mir_len b
    rw [mir_node]
    split
    · simp only [flat, List.length_append, ha, hb, List.length_singleton]; omega
    · simp only [flat, List.length_append, ha, hb]
theorem mirrored_ : ∀ (fuel : Nat) {T : Tr} {w : Int × Int}, typT T = some w → (flat T).length ≤ fuel → F_impl_mirrored_n fuel (toTree T) = some (toTree (mir T))
  | 0, T, _, _, hf => by have := flat_pos T; omega
  | fuel + 1, .leaf n, w, h, hf => by
    obtain ⟨h1, rfl⟩ := typ_leaf h
    exact stp (cFW rfl (stp (cFW rfl (stp (cTW rfl (bnd (mirKI_ n.1 (lfB_k h1)) rfl))))))
  | fuel + 1, .node k a b, w, h, hf => by
    obtain ⟨hk, x, y, h1, h2, h3⟩ := typ_node h
    have hpa := flat_pos a
    have hpb := flat_pos b
    have hlen : (flat (.node k a b)).length = (flat a).length + (flat b).length + 1 := by simp [flat]; omega
    have ia := mirrored_ fuel h1 (by omega)
    have ib := mirrored_ fuel h2 (by omega)
    rw [mir_node, toTree_node]
    by_cases h15 : k = 15
    · rw [if_pos h15, if_pos h15, toTree_node, if_pos h15]
      exact stp (cTW rfl (bnd ib (bnd ia rfl)))
    · rw [if_neg h15, if_neg h15, toTree_node, if_neg h15]
      exact stp (cFW rfl (stp (cTW rfl (bnd ia (bnd ib rfl)))))
/-- typed or not: trees of sequences and pairs -/
def trK : Tr → Prop
  | .leaf _ => True
  | .node k a b => (k = 15 ∨ k = 16) ∧ trK a ∧ trK b
theorem trK_typ : ∀ {T : Tr} {w : Int × Int}, typT T = some w → trK T
  | .leaf _, _, _ => trivial
  | .node k a b, w, h => by
    obtain ⟨hk, x, y, h1, h2, _⟩ := typ_node h
    exact ⟨hk, trK_typ h1, trK_typ h2⟩
theorem trK_mir : ∀ {T : Tr}, trK T → trK (mir T)
  | .leaf _, _ => trivial
  | .node k a b, ⟨hk, ha, hb⟩ => by
    rw [mir_node]
    split
    · exact ⟨hk, trK_mir hb, trK_mir ha⟩
    · exact ⟨hk, trK_mir ha, trK_mir hb⟩
theorem concat2_ {a b : List Nod} (h : a.length + b.length ≤ 1000) : F_slices_Concat_impl_Node_impl_Node [a, b] = some (a ++ b) := by
  have hm : maxN = 1099511627776 := rfl
  have g : F_slices_Grow_impl_Node_impl_Node (((a.length + b.length : Nat) : Int)) = some [] := if_pos (by omega)
  refine bnd (a := ((a.length + b.length : Nat) : Int)) ?_ (bnd g (bnd (a := a ++ b) ?_ rfl))
  · refine (forS_step1 (s' := ((a.length : Nat) : Int)) ?_).trans ((forS_step1 (s' := ((a.length + b.length : Nat) : Int)) ?_).trans rfl)
    · exact bnd (a := a) rfl (bnd (addO_of (by omega) (by omega)) (stp (cFW (dF (by omega)) (congrArg some (by omega)))))
    · exact bnd (a := b) rfl (bnd (addO_of (by omega) (by omega)) (stp (cFW (dF (by omega)) (congrArg some (by omega)))))
  · refine (forS_step1 (s' := a) ?_).trans ((forS_step1 (s' := a ++ b) ?_).trans rfl)
    · exact bnd (a := a) rfl (bnd (appO_of (by simp; omega)) rfl)
    · exact bnd (a := b) rfl (bnd (appO_of (by omega)) rfl)
theorem joinNodes_ {k : Int} {a b : List Nod} (h : a.length + b.length ≤ 1000) : F_impl_joinNodes k a b = some (a ++ b ++ [(k, 0, .empty)]) := by
  have hm : maxN = 1099511627776 := rfl
  exact bnd (concat2_ h) (bnd (appO_of (by simp; omega)) rfl)
theorem nodes_ : ∀ {T : Tr}, trK T → (flat T).length ≤ 400 → F_nodes (toTree T) = some (flat T)
  | .leaf n, _, _ => rfl
  | .node k a b, ⟨hk, ha, hb⟩, hl => by
    have hlen : (flat (.node k a b)).length = (flat a).length + (flat b).length + 1 := by simp [flat]; omega
    have ia := nodes_ ha (by omega)
    have ib := nodes_ hb (by omega)
    rw [toTree_node]
    by_cases h15 : k = 15
    · rw [if_pos h15]
      exact bnd ia (bnd ib (bnd (joinNodes_ (by omega)) (by rw [h15]; rfl)))
    · rw [if_neg h15]
      have h16 : k = 16 := by omega
      exact bnd ia (bnd ib (bnd (joinNodes_ (by omega)) (by rw [h16]; rfl)))
theorem mirrorTerm_ {T : Tr} {w : Int × Int} (h : typT T = some w) (hl : (flat T).length ≤ 400) : F_impl_MirrorTerm (flat T) = some (flat (mir T), true) := by
  refine bnd (isValid_ (flat T)) (stp ?_)
  rw [tree_valid h hl]
  exact cFW rfl (bnd (treeOf_ h hl) (bnd (mirrored_ 1000000 h (by omega)) (bnd (nodes_ (trK_mir (trK_typ h)) (by rw [mir_len]; omega)) rfl)))
theorem tmJoin_ {k : Int} {a b : List Nod} (h : a.length + b.length ≤ 1000) : F_spec_tmJoin a b k = some (a ++ b ++ [(k, 0, .empty)]) := by
  have hm : maxN = 1099511627776 := rfl
  exact bnd (a := a) (appO_of (by simp; omega)) (bnd (appO_of (by omega)) (bnd (appO_of (by simp; omega)) rfl))
theorem tmMirror_ : ∀ (fuel : Nat) {T : Tr} {w : Int × Int}, typT T = some w → (flat T).length ≤ 400 → (flat T).length ≤ fuel → F_spec_tmMirror_n fuel (flat T) = some (flat (mir T))
  | 0, T, _, _, _, hf => by have := flat_pos T; omega
  | fuel + 1, .leaf n, w, h, hl, hf => by
    obtain ⟨h1, rfl⟩ := typ_leaf h
    have hk := lfB_k h1
    have hn : n.2.2 = .empty := by
      unfold lfB at h1
      simp only [Bool.and_eq_true, decide_eq_true_eq] at h1
      exact h1.1
    refine bnd (tmTop_leaf n) (stp (cTW (dT (by omega)) (bnd (a := n) rfl (bnd (mirKS_ n.1 hk) (bnd rfl ?_)))))
    show some [(mirK n.1, n.2.1, ByteArray.empty)] = some [(mirK n.1, n.2)]
    rw [← hn]
  | fuel + 1, .node k a b, w, h, hl, hf => by
    obtain ⟨hk, x, y, h1, h2, h3⟩ := typ_node h
    have hpa := flat_pos a
    have hpb := flat_pos b
    have hlen : (flat (.node k a b)).length = (flat a).length + (flat b).length + 1 := by simp [flat]; omega
    have ia := tmMirror_ fuel h1 (by omega) (by omega)
    have ib := tmMirror_ fuel h2 (by omega) (by omega)
    have la := mir_len a
    have lb := mir_len b
    refine bnd (tmTop_node k a b hl) (stp (cFW (dF (by omega)) (bnd (tmParts_ h hl) (stp ?_))))
    rw [mir_node]
    by_cases h15 : k = 15
    · rw [if_pos h15]
      exact cTW (dT h15) (bnd ib (bnd ia (bnd (bnd (tmJoin_ (by omega)) rfl) (by rw [h15]; rfl))))
    · rw [if_neg h15]
      have h16 : k = 16 := by omega
      exact cFW (dF h15) (bnd ia (bnd ib (bnd (bnd (tmJoin_ (by omega)) rfl) (by rw [h16]; rfl))))

/-! ### the law -/
open Classical in
noncomputable def trOf (t : List Nod) : Tr := if h : validB t = true then Classical.choose (validB_tree h) else .leaf (0, 0, .empty)
theorem trOf_eq {t : List Nod} (h : validB t = true) : ∃ w, t = flat (trOf t) ∧ typT (trOf t) = some w ∧ t.length ≤ 400 := by
  obtain ⟨w, h1, h2, h3⟩ := Classical.choose_spec (validB_tree h)
  refine ⟨w, ?_, ?_, h3⟩
  · unfold trOf; rw [dif_pos h]; exact h1
  · unfold trOf; rw [dif_pos h]; exact h2
theorem tot_app {α : Type} (n : α → Nat) (a b : List α) : tot n (a ++ b) = tot n a + tot n b := by simp [tot]
theorem mir_tot : ∀ T : Tr, tot nNode (flat (mir T)) = tot nNode (flat T)
  | .leaf n => by simp [flat, mir, tot, nNode]
  | .node k a b => by
    have ha := mir_tot a
    have hb := mir_tot b
    rw [mir_node]
    split
    · simp only [flat, tot_app, ha, hb]; omega
    · simp only [flat, tot_app, ha, hb]
noncomputable def wMirrorRule (r : Rul) : Rul × Bool := if ruleB r = true then ((r.1, flat (mir (trOf r.2.1)), flat (mir (trOf r.2.2))), true) else ((.empty, [], []), false)
theorem ruleB_valid {r : Rul} (h : ruleB r = true) : nmB r.1 = true ∧ validB r.2.1 = true ∧ validB r.2.2 = true := by
  unfold ruleB at h
  rw [Bool.and_eq_true] at h
  have := headB_true h.1
  exact ⟨this.1, this.2.1, this.2.2.1⟩
theorem mirS_ {t : List Nod} (h : validB t = true) : F_spec_tmMirror t = some (flat (mir (trOf t))) := by
  obtain ⟨w, h1, h2, h3⟩ := trOf_eq h
  have hl : (flat (trOf t)).length ≤ 400 := by rw [← h1]; exact h3
  have := tmMirror_ 1000000 h2 hl (by omega)
  rw [← h1] at this
  exact this
theorem mirI_ {t : List Nod} (h : validB t = true) : F_impl_MirrorTerm t = some (flat (mir (trOf t)), true) := by
  obtain ⟨w, h1, h2, h3⟩ := trOf_eq h
  have hl : (flat (trOf t)).length ≤ 400 := by rw [← h1]; exact h3
  have := mirrorTerm_ h2 hl
  rw [← h1] at this
  exact this
theorem specMirrorRule (r : Rul) (h : nRule r ≤ 1048576) : F_spec_MirrorRule r = some (wMirrorRule r) := by
  refine bnd (rwIs_ r) (stp ?_)
  unfold wMirrorRule
  cases hr : ruleB r with
  | false => rfl
  | true =>
    obtain ⟨_, h1, h2⟩ := ruleB_valid hr
    exact cFW rfl (bnd (mirS_ h1) (bnd (mirS_ h2) rfl))
theorem implMirrorRule (r : Rul) (h : nRule r ≤ 1048576) : F_impl_MirrorRule r = some (wMirrorRule r) := by
  refine bnd (isRule_ r) (stp ?_)
  unfold wMirrorRule
  cases hr : ruleB r with
  | false => rfl
  | true =>
    obtain ⟨_, h1, h2⟩ := ruleB_valid hr
    exact cFW rfl (bnd (bnd (mirI_ h1) (bnd (mirI_ h2) rfl)) rfl)
theorem boundMirrorRule_0 (r : Rul) (h : nRule r ≤ 1048576) : nRule (wMirrorRule r).1 ≤ 1048576 := by
  unfold wMirrorRule
  split
  · rename_i hr
    obtain ⟨_, h1, h2⟩ := ruleB_valid hr
    obtain ⟨w1, a1, _, a3⟩ := trOf_eq h1
    obtain ⟨w2, b1, _, b3⟩ := trOf_eq h2
    unfold nRule nTerm nNodeS at h ⊢
    dsimp only
    rw [mir_len, mir_len, mir_tot, mir_tot, ← a1, ← b1]
    exact h
  · decide
end Go.Proofs.YteimaohaeodbkaaGreat
namespace Go.Proofs.YteimaohaeodbkaaGreat
set_option linter.unusedVariables false
theorem lawN_MirrorRule (a0 : TyRule) (i0 : Nice.ok a0) : F_laws_FnExactMirrorRule a0 = some true := by
  have hbig : bigN = 4611686018427387904 := rfl
  refine bnd (z_Rule a0 1048576 (by omega) (by rw [hbig]; omega) (niceLensRule i0)) (stp ?_)
  by_cases gaR : (nRule a0 : Int) ≤ 1048576
  case neg => rw [if_neg gaR]; exact cTW (dT (by omega)) rfl
  rw [if_pos gaR]
  refine cFW (dF (by omega)) ?_
  have haR : nRule a0 ≤ 1048576 := by omega
  first
  | refine bnd (t_Rule a0 haR) (bnd (specMirrorRule a0 haR) ?_)
  | refine bnd (bnd (t_Rule a0 haR) (bnd (specMirrorRule a0 haR) rfl)) ?_
  refine bnd (t_Rule a0 haR) ?_
  refine bnd (implMirrorRule a0 haR) ?_
  have b0 : nRule (wMirrorRule a0).1 ≤ 1048576 := boundMirrorRule_0 a0 haR
  have cb0 := cRule_le (wMirrorRule a0).1
  refine bnd (a := false) (bnd (e_Rule _ b0) (stp (cFW rfl (stp (congrArg some (nT (dT rfl))))))) (cFW rfl ?_)
  refine bnd (t_Rule _ haR) (bnd (e_Rule _ haR) (stp (cFW rfl ?_)))
  have caR := cRule_le a0
  refine bnd (m_Rule a0 _ (by omega) (by omega)) ?_
  refine bnd (a := false) (stp (cFW (dF (by simp only [mk_Rule_snd]; omega)) (bnd (e_Rule _ b0) (stp (cFW rfl (stp (congrArg some (nT (dT rfl))))))))) (cFW rfl ?_)
  refine bnd (m_Rule (wMirrorRule a0).1 _ (by omega) (by omega)) ?_
  refine bnd (h_Rule (wMirrorRule a0).1 _ (by omega) (by omega)) (stp (cFW (dF (by omega)) ?_))
  refine stp (cFW (nT (dT (by simp only [mk_Rule_snd]))) ?_)
  first
  | refine bnd (t_Rule a0 haR) (bnd (implMirrorRule a0 haR) ?_)
  | refine bnd (bnd (t_Rule a0 haR) (bnd (implMirrorRule a0 haR) rfl)) ?_
  refine bnd (a := false) (bnd (e_Rule _ b0) (stp (cFW rfl (stp (congrArg some (nT (dT rfl))))))) (cFW rfl ?_)
  refine bnd (h_Rule (wMirrorRule a0).1 _ (by omega) (by omega)) (stp (cFW (dF (by omega)) ?_))
  refine stp (cFW (nT (dT (by simp only [mk_Rule_snd]))) ?_)
  rfl
end Go.Proofs.YteimaohaeodbkaaGreat
