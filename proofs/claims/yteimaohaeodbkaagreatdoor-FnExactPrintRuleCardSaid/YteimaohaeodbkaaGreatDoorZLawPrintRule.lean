/-
  Plain law of MirrorRule: the tree of a term, its mirror image, its nodes; both answer alike. No program in sight. No condition.
-/
import Derived.Test.YteimaohaeodbkaaGreatDoorZP54
namespace Go.Proofs.YteimaohaeodbkaaGreatDoor

/-! ### a term's tree -/
def toTree : Tr → Tree
  | .leaf n => .lf n
  | .node k a b => if k = 15 then .sq (toTree a) (toTree b) else .pr (toTree a) (toTree b)
noncomputable def tStep (nodes_ : List Nod) (k5 : Nat) (s207 : List Tree) : Option (List Tree) :=
  (idxO nodes_ ((k5 : Nat) : Int)).bind fun a223 =>
  (subO ((s207.length : Nat) : Int) 1).bind fun a231 =>
  (some (decide (a223.1 = 15))).bind fun a233 =>
  cond a233
  ((subO a231 1).bind fun a283 =>
    (subO a231 1).bind fun a285 =>
    (idxO s207 a285).bind fun a293 =>
    (idxO s207 a231).bind fun a301 =>
    (sliceO s207 0 a283).bind fun a303 =>
    (appO a303 [(Tree.sq a293 a301)]).bind fun a310 =>
    some a310)
  ((some (decide (a223.1 = 16))).bind fun a236 =>
    cond a236
    ((subO a231 1).bind fun a249 =>
      (subO a231 1).bind fun a251 =>
      (idxO s207 a251).bind fun a259 =>
      (idxO s207 a231).bind fun a267 =>
      (sliceO s207 0 a249).bind fun a269 =>
      (appO a269 [(Tree.pr a259 a267)]).bind fun a276 =>
      some a276)
    ((appO s207 [(Tree.lf (a223.1, a223.2.1, a223.2.2))]).bind fun a242 =>
      some a242))
theorem tStep_leaf {t : List Nod} {j : Nat} {n : Nod} {s : List Tree} (ht : t[j]? = some n) (hn : lfB n = true) (hs : s.length ≤ 1000) : tStep t j s = some (s ++ [.lf n]) := by
  have hm : maxN = 1099511627776 := rfl
  have hk := lfB_k hn
  exact bnd (idxO_of ht) (bnd (subO_of (by omega) (by omega)) (stp (cFW (dF (by omega)) (stp (cFW (dF (by omega)) (bnd (appO_of (by simp; omega)) rfl))))))
theorem tStep_node {t : List Nod} {j : Nat} {k : Int} {s : List Tree} {a b : Tree} (ht : t[j]? = some (k, 0, .empty)) (hk : k = 15 ∨ k = 16) (hs : s.length ≤ 1000) :
    tStep t j (s ++ [a] ++ [b]) = some (s ++ [if k = 15 then .sq a b else .pr a b]) := by
  have hm : maxN = 1099511627776 := rfl
  have hlen : (s ++ [a] ++ [b]).length = s.length + 2 := by simp
  have e1 : subO (((s ++ [a] ++ [b]).length : Nat) : Int) 1 = some ((s.length + 1 : Nat) : Int) := by rw [hlen, subO_of (by omega) (by omega)]; congr 1; omega
  have e2 : subO ((s.length + 1 : Nat) : Int) 1 = some ((s.length : Nat) : Int) := by rw [subO_of (by omega) (by omega)]; congr 1; omega
  have i1 : (s ++ [a] ++ [b])[s.length]? = some a := by rw [List.append_assoc, List.getElem?_append_right (Nat.le_refl _), Nat.sub_self]; rfl
  have i2 : (s ++ [a] ++ [b])[s.length + 1]? = some b := by rw [List.append_assoc, List.getElem?_append_right (by omega), Nat.add_sub_cancel_left]; rfl
  have sl : sliceO (s ++ [a] ++ [b]) 0 ((s.length : Nat) : Int) = some s := by
    unfold sliceO; rw [if_pos ⟨by omega, by omega, by rw [hlen]; omega⟩, List.append_assoc]
    simp
  refine bnd (idxO_of ht) (bnd e1 ?_)
  by_cases h15 : k = 15
  · rw [if_pos h15]
    exact stp (cTW (dT h15) (bnd e2 (bnd e2 (bnd (idxO_of i1) (bnd (idxO_of i2) (bnd sl (bnd (appO_of (by simp; omega)) rfl)))))))
  · rw [if_neg h15]
    exact stp (cFW (dF h15) (stp (cTW (dT (by dsimp only; omega)) (bnd e2 (bnd e2 (bnd (idxO_of i1) (bnd (idxO_of i2) (bnd sl (bnd (appO_of (by simp; omega)) rfl)))))))))
theorem tree_loop {t : List Nod} (ht : t.length ≤ 400) : ∀ {T : Tr} {w : Int × Int}, typT T = some w → ∀ (p q : List Nod) (r : List Tree), t = p ++ (flat T ++ q) → r.length ≤ p.length →
    forS (tStep t) ((flat T).length + q.length) p.length r = forS (tStep t) q.length (p.length + (flat T).length) (r ++ [toTree T])
  | .leaf n, w, h, p, q, r, e, hr => by
    obtain ⟨h1, rfl⟩ := typ_leaf h
    have hlt : p.length < t.length := by rw [e]; simp [flat]
    have hn : t[p.length]? = some n := by rw [e, List.getElem?_append_right (Nat.le_refl _), Nat.sub_self]; rfl
    rw [show (flat (.leaf n)).length + q.length = q.length + 1 by simp [flat]; omega, forS_step1 (tStep_leaf hn h1 (by omega))]
    rfl
  | .node k a b, w, h, p, q, r, e, hr => by
    obtain ⟨hk, x, y, h1, h2, h3⟩ := typ_node h
    have hlen : (flat (.node k a b)).length = (flat a).length + (flat b).length + 1 := by simp [flat]; omega
    have htl : t.length = p.length + ((flat a).length + (flat b).length + 1 + q.length) := by rw [e, List.length_append, List.length_append, hlen]
    have ea : t = p ++ (flat a ++ (flat b ++ ([((k, (0 : Int), ByteArray.empty) : Nod)] ++ q))) := by rw [e]; simp [flat]
    have eb : t = (p ++ flat a) ++ (flat b ++ ([((k, (0 : Int), ByteArray.empty) : Nod)] ++ q)) := by rw [ea]; simp
    have hpa := flat_pos a
    have la := tree_loop ht h1 p (flat b ++ ([((k, (0 : Int), ByteArray.empty) : Nod)] ++ q)) r ea hr
    rw [show (flat (.node k a b)).length + q.length = (flat a).length + (flat b ++ ([((k, (0 : Int), ByteArray.empty) : Nod)] ++ q)).length by rw [hlen]; simp; omega, la]
    have lb := tree_loop ht h2 (p ++ flat a) ([((k, (0 : Int), ByteArray.empty) : Nod)] ++ q) (r ++ [toTree a]) eb (by simp; omega)
    rw [show (p ++ flat a).length = p.length + (flat a).length from List.length_append] at lb
    rw [show (flat b ++ ([((k, (0 : Int), ByteArray.empty) : Nod)] ++ q)).length = (flat b).length + ([((k, (0 : Int), ByteArray.empty) : Nod)] ++ q).length from List.length_append, lb]
    have hn : t[p.length + (flat a).length + (flat b).length]? = some (k, 0, .empty) := by
      rw [show t = (p ++ flat a ++ flat b) ++ ([((k, (0 : Int), ByteArray.empty) : Nod)] ++ q) by rw [ea]; simp, List.getElem?_append_right (by simp; omega)]
      simp [Nat.add_assoc]
    rw [show ([((k, (0 : Int), ByteArray.empty) : Nod)] ++ q).length = q.length + 1 by simp, forS_step1 (tStep_node (s := r) hn hk (by omega)), hlen,
      show p.length + ((flat a).length + (flat b).length + 1) = p.length + (flat a).length + (flat b).length + 1 by omega]
    rfl
theorem treeOf_ {T : Tr} {w : Int × Int} (h : typT T = some w) (hl : (flat T).length ≤ 400) : F_impl_treeOf (flat T) = some (toTree T) := by
  have loop := tree_loop hl h [] [] [] (by simp) (by simp)
  rw [List.length_nil, Nat.add_zero, Nat.zero_add, List.nil_append] at loop
  exact bnd (m := forS (tStep (flat T)) (flat T).length 0 []) (a := [toTree T]) (by rw [loop]; rfl) (bnd (a := toTree T) rfl rfl)

/-! ### its mirror image -/
theorem toTree_node (k : Int) (a b : Tr) : toTree (.node k a b) = if k = 15 then .sq (toTree a) (toTree b) else .pr (toTree a) (toTree b) := rfl

/-! ### the law -/
open Classical in
noncomputable def trOf (t : List Nod) : Tr := if h : validB t = true then Classical.choose (validB_tree h) else .leaf (0, 0, .empty)
theorem trOf_eq {t : List Nod} (h : validB t = true) : ∃ w, t = flat (trOf t) ∧ typT (trOf t) = some w ∧ t.length ≤ 400 := by
  obtain ⟨w, h1, h2, h3⟩ := Classical.choose_spec (validB_tree h)
  refine ⟨w, ?_, ?_, h3⟩
  · unfold trOf; rw [dif_pos h]; exact h1
  · unfold trOf; rw [dif_pos h]; exact h2
theorem ruleB_valid {r : Rul} (h : ruleB r = true) : nmB r.1 = true ∧ validB r.2.1 = true ∧ validB r.2.2 = true := by
  unfold ruleB at h
  rw [Bool.and_eq_true] at h
  have := headB_true h.1
  exact ⟨this.1, this.2.1, this.2.2.1⟩
end Go.Proofs.YteimaohaeodbkaaGreatDoor
namespace Go.Proofs.YteimaohaeodbkaaGreatDoor

/-! ### numbers below 97, words -/
def numB (n : Nat) : ByteArray := if n < 10 then ⟨#[UInt8.ofNat (48 + n)]⟩ else ⟨#[UInt8.ofNat (48 + n / 10), UInt8.ofNat (48 + n % 10)]⟩
theorem num_all : ∀ n : Nat, n < 97 → F_spec_l1Num (n : Int) = some (numB n) ∧ F_strconv_Itoa (n : Int) = some (numB n) ∧ (numB n).size ≤ 2 := by decide +kernel
theorem num_ {v : Int} (h : 0 ≤ v ∧ v ≤ 96) : F_spec_l1Num v = some (numB v.toNat) ∧ F_strconv_Itoa v = some (numB v.toNat) ∧ (numB v.toNat).size ≤ 2 := by
  have := num_all v.toNat (by omega)
  rw [Int.toNat_of_nonneg h.1] at this
  exact this
def wdK (k : Int) : ByteArray := words.getD (k.toNat - 1) .empty
theorem wdK_size (k : Int) : (wdK k).size ≤ 9 := by
  unfold wdK
  by_cases h : k.toNat - 1 < words.length
  · have : ∀ i, i < words.length → (words.getD i .empty).size ≤ 9 := by decide
    exact this _ h
  · rw [List.getD_eq_getElem?_getD, List.getElem?_eq_none (by omega)]; decide
theorem wd_s {k : Int} (h : 1 ≤ k ∧ k ≤ 14) : idxO words (k - 1) = some (wdK k) := by
  have hl : words.length = 14 := rfl
  have hi : (k.toNat - 1) < words.length := by omega
  unfold idxO wdK
  rw [if_pos (by omega), show (k - 1).toNat = k.toNat - 1 by omega, List.getD_eq_getElem?_getD, List.getElem?_eq_getElem hi]; rfl
theorem wd_i {k : Int} (h : 1 ≤ k ∧ k ≤ 14) : idxO (ByteArray.empty :: words) k = some (wdK k) := by
  have hl : words.length = 14 := rfl
  have hi : (k.toNat - 1) < words.length := by omega
  unfold idxO wdK
  obtain ⟨m, hm⟩ : ∃ m, k.toNat = m + 1 := ⟨k.toNat - 1, by omega⟩
  rw [if_pos (by omega), hm, List.getElem?_cons_succ, Nat.add_sub_cancel, List.getD_eq_getElem?_getD, List.getElem?_eq_getElem (by omega)]; rfl
def valued (k : Int) : Bool := decide (k = 1 ∨ k = 7 ∨ k = 13)
def wd (n : Nod) : ByteArray := if valued n.1 = true then wdK n.1 ++ ⟨#[32]⟩ ++ numB n.2.1.toNat else wdK n.1
theorem catO_b {a b : ByteArray} (h : a.size + b.size ≤ 1000000000) : catO a b = some (a ++ b) := if_pos (by omega)
theorem wd_size {n : Nod} (h : lfB n = true) : (wd n).size ≤ 12 := by
  have hk := lfB_k h
  have h1 := wdK_size n.1
  unfold wd
  split
  · rename_i hv
    have hv2 := of_decide_eq_true hv
    have h2 : 0 ≤ n.2.1 ∧ n.2.1 ≤ 96 := by
      unfold lfB at h
      simp only [Bool.and_eq_true] at h
      have h3 := h.2.2
      by_cases a : n.1 = 1
      · rw [if_pos a] at h3; have := rng_true.1 h3; omega
      · rw [if_neg a, if_pos (by omega)] at h3; exact rng_true.1 h3
    have := (num_ h2).2.2
    rw [ByteArray.size_append, ByteArray.size_append]
    have e : (⟨#[32]⟩ : ByteArray).size = 1 := rfl
    omega
  · omega
theorem lf_val {n : Nod} (h : lfB n = true) (hv : valued n.1 = true) : 0 ≤ n.2.1 ∧ n.2.1 ≤ 96 := by
  have hv2 := of_decide_eq_true hv
  unfold lfB at h
  simp only [Bool.and_eq_true] at h
  have h3 := h.2.2
  by_cases a : n.1 = 1
  · rw [if_pos a] at h3; have := rng_true.1 h3; omega
  · rw [if_neg a, if_pos (by omega)] at h3; exact rng_true.1 h3
theorem sxWord_ {n : Nod} (h : lfB n = true) : F_spec_sxWord n = some (wd n) := by
  have hk := lfB_k h
  have h1 := wdK_size n.1
  have e32 : (⟨#[32]⟩ : ByteArray).size = 1 := rfl
  refine stp (cFW (dF (by omega)) (bnd (subO_of (by omega) (by omega)) (bnd (a := words) rfl (bnd (wd_s hk) (bnd (a := valued n.1) ?_ ?_)))))
  · unfold valued
    by_cases a : n.1 = 1
    · exact stp (cTW (dT a) (congrArg some (dT (.inl a)).symm))
    · refine stp (cFW (dF a) (stp ?_))
      by_cases b : n.1 = 7
      · exact cTW (dT b) (congrArg some (dT (.inr (.inl b))).symm)
      · refine cFW (dF b) (stp (congrArg some ?_))
        by_cases c : n.1 = 13
        · rw [dT c, dT (.inr (.inr c))]
        · rw [dF c, dF (by omega)]
  · unfold wd
    cases hv : valued n.1 with
    | false => rfl
    | true =>
      obtain ⟨a1, a2, a3⟩ := num_ (lf_val h hv)
      refine cTW rfl (bnd a1 (bnd (catO_b (by omega)) (bnd (catO_b (by rw [ByteArray.size_append]; omega)) (congrArg some ?_))))
      rw [if_pos rfl, ByteArray.append_assoc]
theorem leafText_ {n : Nod} (h : lfB n = true) : F_impl_leafText n = some (wd n) := by
  have hk := lfB_k h
  have h1 := wdK_size n.1
  have e32 : (⟨#[32]⟩ : ByteArray).size = 1 := rfl
  refine stp (cFW (dF (by omega)) (bnd (a := valued n.1) ?_ ?_))
  · unfold valued
    by_cases a : n.1 = 1
    · exact stp (cTW (dT a) (congrArg some (dT (.inl a)).symm))
    · refine stp (cFW (dF a) (bnd (hasValue_ n.1) (congrArg some ?_)))
      by_cases b : n.1 = 7 ∨ n.1 = 13
      · rw [dT b, dT (.inr b)]
      · rw [dF b, dF (by omega)]
  · unfold wd
    cases hv : valued n.1 with
    | false => exact cFW rfl (bnd (a := ByteArray.empty :: words) rfl (bnd (wd_i hk) rfl))
    | true =>
      obtain ⟨a1, a2, a3⟩ := num_ (lf_val h hv)
      exact cTW rfl (bnd (bnd (a := ByteArray.empty :: words) rfl (bnd (wd_i hk) (bnd (catO_b (by omega)) (bnd a2 (bnd (catO_b (by rw [ByteArray.size_append]; omega)) rfl))))) rfl)

/-! ### texts of trees -/
def isS : Tr → Bool
  | .node k _ _ => decide (k = 15)
  | .leaf _ => false
def isP : Tr → Bool
  | .node k _ _ => !decide (k = 15)
  | .leaf _ => false
def brk (b : Bool) (s : ByteArray) : ByteArray := if b = true then ⟨#[40]⟩ ++ s ++ ⟨#[41]⟩ else s
def prt : Tr → ByteArray
  | .leaf n => wd n
  | .node k a b => if k = 15 then prt a ++ ⟨#[32, 59, 32]⟩ ++ brk (isS b) (prt b) else brk (isS a) (prt a) ++ ⟨#[32, 42, 32]⟩ ++ brk (isS b || isP b) (prt b)
theorem prt_node (k : Int) (a b : Tr) : prt (.node k a b) = if k = 15 then prt a ++ ⟨#[32, 59, 32]⟩ ++ brk (isS b) (prt b) else brk (isS a) (prt a) ++ ⟨#[32, 42, 32]⟩ ++ brk (isS b || isP b) (prt b) := rfl
theorem brk_size (b : Bool) (s : ByteArray) : (brk b s).size ≤ s.size + 2 := by
  unfold brk
  split
  · rw [ByteArray.size_append, ByteArray.size_append]
    have e1 : (⟨#[40]⟩ : ByteArray).size = 1 := rfl
    have e2 : (⟨#[41]⟩ : ByteArray).size = 1 := rfl
    omega
  · omega
theorem prt_size : ∀ {T : Tr} {w : Int × Int}, typT T = some w → (prt T).size ≤ 20 * (flat T).length
  | .leaf n, w, h => by
    have := wd_size (typ_leaf h).1
    show (wd n).size ≤ 20 * 1
    omega
  | .node k a b, w, h => by
    obtain ⟨hk, x, y, h1, h2, h3⟩ := typ_node h
    have ha := prt_size h1
    have hb := prt_size h2
    have hlen : (flat (.node k a b)).length = (flat a).length + (flat b).length + 1 := by simp [flat]; omega
    have e1 : (⟨#[32, 59, 32]⟩ : ByteArray).size = 3 := rfl
    have e2 : (⟨#[32, 42, 32]⟩ : ByteArray).size = 3 := rfl
    have b1 := brk_size (isS b) (prt b)
    have b2 := brk_size (isS b || isP b) (prt b)
    have b3 := brk_size (isS a) (prt a)
    rw [prt_node]
    split
    · rw [ByteArray.size_append, ByteArray.size_append]; omega
    · rw [ByteArray.size_append, ByteArray.size_append]; omega
theorem bracketed_ (b : Bool) {s : ByteArray} (h : s.size ≤ 100000) : F_impl_bracketed s b = some (brk b s) := by
  have e1 : (⟨#[40]⟩ : ByteArray).size = 1 := rfl
  have e2 : (⟨#[41]⟩ : ByteArray).size = 1 := rfl
  unfold brk
  cases b with
  | false => rfl
  | true => exact cTW rfl (bnd (catO_b (by omega)) (bnd (catO_b (by rw [ByteArray.size_append]; omega)) rfl))
theorem isSq_tree (T : Tr) : isSq (toTree T) = isS T := by
  cases T with
  | leaf n => rfl
  | node k a b =>
    rw [toTree_node]
    show isSq _ = (decide (k = 15))
    by_cases h : k = 15
    · rw [if_pos h, dT h]; rfl
    · rw [if_neg h, dF h]; rfl
theorem isPr_tree (T : Tr) : isPr (toTree T) = isP T := by
  cases T with
  | leaf n => rfl
  | node k a b =>
    rw [toTree_node]
    show isPr _ = (!decide (k = 15))
    by_cases h : k = 15
    · rw [if_pos h, dT h]; rfl
    · rw [if_neg h, dF h]; rfl
theorem printed_ : ∀ (fuel : Nat) {T : Tr} {w : Int × Int}, typT T = some w → (flat T).length ≤ 400 → (flat T).length ≤ fuel → F_impl_printed_n fuel (toTree T) false = some (prt T)
  | 0, T, _, _, _, hf => by have := flat_pos T; omega
  | fuel + 1, .leaf n, w, h, hl, hf => stp (cFW rfl (stp (cFW rfl (stp (cTW rfl (bnd (leafText_ (typ_leaf h).1) rfl))))))
  | fuel + 1, .node k a b, w, h, hl, hf => by
    obtain ⟨hk, x, y, h1, h2, h3⟩ := typ_node h
    have hpa := flat_pos a
    have hpb := flat_pos b
    have hlen : (flat (.node k a b)).length = (flat a).length + (flat b).length + 1 := by simp [flat]; omega
    have ia := printed_ fuel h1 (by omega) (by omega)
    have ib := printed_ fuel h2 (by omega) (by omega)
    have sa := prt_size h1
    have sb := prt_size h2
    have e1 : (⟨#[32, 59, 32]⟩ : ByteArray).size = 3 := rfl
    have e2 : (⟨#[32, 42, 32]⟩ : ByteArray).size = 3 := rfl
    have b1 := brk_size (isS b) (prt b)
    have b2 := brk_size (isS b || isP b) (prt b)
    have b3 := brk_size (isS a) (prt a)
    have qS : ∀ T, F_impl_isSeq (toTree T) = some (isS T) := fun T => congrArg some (isSq_tree T)
    have qP : ∀ T, F_impl_isPar (toTree T) = some (isP T) := fun T => congrArg some (isPr_tree T)
    rw [prt_node, toTree_node]
    by_cases h15 : k = 15
    · rw [if_pos h15, if_pos h15]
      refine stp (cTW rfl (bnd (a := (false, prt a)) (bnd ia (cFW rfl (bnd (bracketed_ false (by omega)) rfl))) (bnd (a := brk (isS b) (prt b)) (bnd ib (bnd (qS b) ?_)) (bnd (catO_b (by dsimp only; omega)) (bnd (catO_b (by rw [ByteArray.size_append]; dsimp only; omega)) rfl)))))
      cases isS b with
      | true => exact cTW rfl (bnd (bracketed_ true (by omega)) rfl)
      | false => exact cFW rfl (cFW rfl (bnd (bracketed_ false (by omega)) rfl))
    · rw [if_neg h15, if_neg h15]
      refine stp (cFW rfl (stp (cTW rfl (bnd (a := (false, brk (isS a) (prt a))) (bnd ia (bnd (qS a) ?_)) (bnd (a := brk (isS b || isP b) (prt b)) (bnd ib (bnd (qS b) ?_)) (bnd (catO_b (by dsimp only; omega)) (bnd (catO_b (by rw [ByteArray.size_append]; dsimp only; omega)) rfl)))))))
      · cases isS a with
        | true => exact cTW rfl (bnd (bracketed_ true (by omega)) rfl)
        | false => exact cFW rfl (cFW rfl (bnd (bracketed_ false (by omega)) rfl))
      · cases isS b with
        | true => exact cTW rfl (bnd (bracketed_ true (by omega)) rfl)
        | false => exact cFW rfl (bnd (qP b) (bnd (bracketed_ (isP b) (by omega)) rfl))

/-! ### the reference's stack -/
def topK : Tr → Int
  | .leaf n => n.1
  | .node k _ _ => k
noncomputable def xStep (t_ : List Nod) (k5 : Nat) (s1488 : Bool × List ByteArray × List Int) : Option (Bool × List ByteArray × List Int) :=
  ((idxO t_ ((k5 : Nat) : Int)).bind fun a1874 =>
    ((some (!decide (a1874.1 = 15))).bind fun a1894 =>
      cond a1894
      ((some (!decide (a1874.1 = 16))).bind fun a1898 =>
        some a1898)
      (some false)).bind fun (s1888 : Bool) =>
    cond s1888
    ((F_spec_sxWord (a1874.1, a1874.2.1, a1874.2.2)).bind fun y2208 =>
      (appO s1488.2.1 [y2208]).bind fun a2214 =>
      (appO s1488.2.2 [a1874.1]).bind fun a2222 =>
      some (s1488.1, a2214, a2222))
    ((subO ((s1488.2.1.length : Nat) : Int) 2).bind fun a1903 =>
      (idxO s1488.2.1 a1903).bind fun a1912 =>
      (addO a1903 1).bind fun a1914 =>
      (idxO s1488.2.1 a1914).bind fun a1922 =>
      (idxO s1488.2.2 a1903).bind fun a1931 =>
      (idxO s1488.2.2 a1903).bind fun a1939 =>
      (some (decide (a1931 = 15))).bind fun a1941 =>
      (some (decide (a1939 = 16))).bind fun a1943 =>
      ((cond s1488.1
          (cond a1941
            (some (true, true))
            (cond a1943
              (some (true, true))
              ((some (decide (a1874.1 = 16))).bind fun a2021 =>
                cond a2021
                (some (true, false))
                (some (true, false)))))
          ((some (decide (a1874.1 = 16))).bind fun a2014 =>
            cond a2014
            (some (false, a1941))
            (some (false, false)))).bind fun (s2007 : Bool × Bool) =>
        cond s2007.2
        ((catO ⟨#[40]⟩ a1912).bind fun a2031 =>
          (catO a2031 ⟨#[41]⟩).bind fun a2033 =>
          some (s2007.1, a2033))
        (some (s2007.1, a1912))).bind fun (s1987 : Bool × ByteArray) =>
      (addO a1903 1).bind fun a2038 =>
      (idxO s1488.2.2 a2038).bind fun a2046 =>
      (addO a1903 1).bind fun a2048 =>
      (idxO s1488.2.2 a2048).bind fun a2056 =>
      (some (decide (a2046 = 15))).bind fun a2058 =>
      (some (decide (a2056 = 16))).bind fun a2060 =>
      ((cond s1987.1
          (cond a2058
            (some (true, true))
            (cond a2060
              (some (true, true))
              ((some (decide (a1874.1 = 16))).bind fun a2146 =>
                cond a2146
                (some (true, false))
                (some (true, false)))))
          (cond a2058
            (some (false, true))
            ((some (decide (a1874.1 = 16))).bind fun a2138 =>
              cond a2138
              (some (false, a2060))
              (some (false, false))))).bind fun (s2130 : Bool × Bool) =>
        cond s2130.2
        ((catO ⟨#[40]⟩ a1922).bind fun a2156 =>
          (catO a2156 ⟨#[41]⟩).bind fun a2158 =>
          some (s2130.1, a2158))
        (some (s2130.1, a1922))).bind fun (s2108 : Bool × ByteArray) =>
      ((some (decide (a1874.1 = 16))).bind fun a2172 =>
        cond a2172
        (some ⟨#[32, 42, 32]⟩)
        (some ⟨#[32, 59, 32]⟩)).bind fun (s2166 : ByteArray) =>
      (sliceO s1488.2.1 0 a1903).bind fun a2178 =>
      (catO s1987.2 s2166).bind fun a2182 =>
      (catO a2182 s2108.2).bind fun a2184 =>
      (appO a2178 [a2184]).bind fun a2189 =>
      (sliceO s1488.2.2 0 a1903).bind fun a2195 =>
      (appO a2195 [a1874.1]).bind fun a2202 =>
      some (s2108.1, a2189, a2202))).bind fun (s1860 : Bool × List ByteArray × List Int) =>
  some (s1860.1, s1860.2.1, s1860.2.2)
theorem xStep_leaf {t : List Nod} {j : Nat} {n : Nod} {s : List ByteArray} {u : List Int} (ht : t[j]? = some n) (hn : lfB n = true) (hs : s.length ≤ 1000) (hu : u.length ≤ 1000) : xStep t j (false, s, u) = some (false, s ++ [wd n], u ++ [n.1]) := by
  have hm : maxN = 1099511627776 := rfl
  have hk := lfB_k hn
  exact bnd (bnd (idxO_of ht) (bnd (a := true) (stp (cTW (nF (dF (by omega))) (stp (congrArg some (nF (dF (by omega))))))) (cTW rfl (bnd (sxWord_ hn) (bnd (appO_of (by simp; omega)) (bnd (appO_of (by simp; omega)) rfl)))))) rfl
theorem top15 {T : Tr} {w : Int × Int} (h : typT T = some w) : decide (topK T = 15) = isS T ∧ decide (topK T = 16) = isP T := by
  cases T with
  | leaf n =>
    have hk := lfB_k (typ_leaf h).1
    exact ⟨dF (by show ¬ n.1 = 15; omega), dF (by show ¬ n.1 = 16; omega)⟩
  | node k a b =>
    obtain ⟨hk, _⟩ := typ_node h
    refine ⟨rfl, ?_⟩
    show decide (k = 16) = !decide (k = 15)
    rcases hk with rfl | rfl <;> rfl
theorem xStep_node {t : List Nod} {j : Nat} {k : Int} {s : List ByteArray} {u : List Int} {a b : Tr} {wa wb : Int × Int} (ht : t[j]? = some (k, 0, .empty)) (hk : k = 15 ∨ k = 16) (hs : s.length ≤ 1000) (hu : u.length = s.length)
    (ha : typT a = some wa) (hb : typT b = some wb) (sa : (prt a).size ≤ 100000) (sb : (prt b).size ≤ 100000) :
    xStep t j (false, s ++ [prt a] ++ [prt b], u ++ [topK a] ++ [topK b]) = some (false, s ++ [prt (.node k a b)], u ++ [k]) := by
  have hm : maxN = 1099511627776 := rfl
  have hlen : (s ++ [prt a] ++ [prt b]).length = s.length + 2 := by simp
  have hlen2 : (u ++ [topK a] ++ [topK b]).length = s.length + 2 := by simp [hu]
  have e1 : subO (((s ++ [prt a] ++ [prt b]).length : Nat) : Int) 2 = some ((s.length : Nat) : Int) := by rw [hlen, subO_of (by omega) (by omega)]; congr 1; omega
  have e2 : addO ((s.length : Nat) : Int) 1 = some ((s.length + 1 : Nat) : Int) := by rw [addO_of (by omega) (by omega)]; congr 1
  have i1 : (s ++ [prt a] ++ [prt b])[s.length]? = some (prt a) := by rw [List.append_assoc, List.getElem?_append_right (Nat.le_refl _), Nat.sub_self]; rfl
  have i2 : (s ++ [prt a] ++ [prt b])[s.length + 1]? = some (prt b) := by rw [List.append_assoc, List.getElem?_append_right (by omega), Nat.add_sub_cancel_left]; rfl
  have j1 : (u ++ [topK a] ++ [topK b])[s.length]? = some (topK a) := by rw [← hu, List.append_assoc, List.getElem?_append_right (Nat.le_refl _), Nat.sub_self]; rfl
  have j2 : (u ++ [topK a] ++ [topK b])[s.length + 1]? = some (topK b) := by rw [← hu, List.append_assoc, List.getElem?_append_right (by omega), Nat.add_sub_cancel_left]; rfl
  have sl : sliceO (s ++ [prt a] ++ [prt b]) 0 ((s.length : Nat) : Int) = some s := by
    unfold sliceO; rw [if_pos ⟨by omega, by omega, by rw [hlen]; omega⟩, List.append_assoc]
    simp
  have sl2 : sliceO (u ++ [topK a] ++ [topK b]) 0 ((s.length : Nat) : Int) = some u := by
    unfold sliceO; rw [if_pos ⟨by omega, by omega, by rw [hlen2]; omega⟩, List.append_assoc]
    simp [← hu]
  have c1 : (⟨#[40]⟩ : ByteArray).size = 1 := rfl
  have c2 : (⟨#[41]⟩ : ByteArray).size = 1 := rfl
  have c3 : (⟨#[32, 59, 32]⟩ : ByteArray).size = 3 := rfl
  have c4 : (⟨#[32, 42, 32]⟩ : ByteArray).size = 3 := rfl
  have ta := top15 ha
  have tb := top15 hb
  have b1 := brk_size (isS b) (prt b)
  have b2 := brk_size (isS b || isP b) (prt b)
  have b3 := brk_size (isS a) (prt a)
  have hA : ∀ (c : Bool) (z : Bool) (s : ByteArray), s.size ≤ 100000 → (cond c ((catO ⟨#[40]⟩ s).bind fun a2031 => (catO a2031 ⟨#[41]⟩).bind fun a2033 => some (z, a2033)) (some (z, s))) = some (z, brk c s) := by
    intro c z s h
    unfold brk
    cases c with
    | false => rfl
    | true => exact cTW rfl (bnd (catO_b (by omega)) (bnd (catO_b (by rw [ByteArray.size_append]; omega)) rfl))
  refine bnd (a := (false, s ++ [prt (.node k a b)], u ++ [k])) ?_ rfl
  refine bnd (idxO_of ht) (bnd (a := false) ?_ (cFW rfl ?_))
  · rcases hk with rfl | rfl
    · exact stp (cFW rfl rfl)
    · exact stp (cTW rfl rfl)
  refine bnd e1 (bnd (idxO_of i1) (bnd e2 (bnd (idxO_of i2) (bnd (idxO_of j1) (bnd (idxO_of j1) (stp (stp ?_)))))))
  rw [ta.1, ta.2]
  refine bnd (a := (false, brk (if k = 15 then false else isS a) (prt a))) ?_ (bnd e2 (bnd (idxO_of j2) (bnd e2 (bnd (idxO_of j2) (stp (stp ?_))))))
  · refine bnd (a := (false, if k = 15 then false else isS a)) (cFW rfl (stp ?_)) (hA _ _ _ sa)
    rcases hk with rfl | rfl
    · exact cFW rfl rfl
    · exact cTW rfl rfl
  rw [tb.1, tb.2]
  refine bnd (a := (false, brk (if k = 15 then isS b else isS b || isP b) (prt b))) ?_ ?_
  · refine bnd (a := (false, if k = 15 then isS b else isS b || isP b)) (cFW rfl ?_) (hA _ _ _ sb)
    cases isS b with
    | true => exact cTW rfl (by split <;> rfl)
    | false =>
      refine cFW rfl (stp ?_)
      rcases hk with rfl | rfl
      · exact cFW rfl rfl
      · exact cTW rfl rfl
  have fin : ∀ (A B S : ByteArray), A.size ≤ 200000 → B.size ≤ 200000 → S.size ≤ 3 → prt (.node k a b) = A ++ S ++ B →
      ((sliceO (s ++ [prt a] ++ [prt b]) 0 ((s.length : Nat) : Int)).bind fun a2178 =>
          (catO A S).bind fun a2182 =>
          (catO a2182 B).bind fun a2184 =>
          (appO a2178 [a2184]).bind fun a2189 =>
          (sliceO (u ++ [topK a] ++ [topK b]) 0 ((s.length : Nat) : Int)).bind fun a2195 =>
          (appO a2195 [k]).bind fun a2202 =>
          some (false, a2189, a2202)) = some (false, s ++ [prt (.node k a b)], u ++ [k]) := by
    intro A B S hA hB hS hp
    rw [hp]
    exact bnd sl (bnd (catO_b (by omega)) (bnd (catO_b (by rw [ByteArray.size_append]; omega)) (bnd (appO_of (by simp; omega)) (bnd sl2 (bnd (appO_of (by simp; omega)) rfl)))))
  rcases hk with rfl | rfl
  · refine bnd (a := ⟨#[32, 59, 32]⟩) (stp (cFW rfl rfl)) ?_
    exact fin _ _ _ (by show (brk false (prt a)).size ≤ _; have := brk_size false (prt a); omega) (by show (brk (isS b) (prt b)).size ≤ _; omega) (by omega) (by rw [prt_node, if_pos rfl]; rfl)
  · refine bnd (a := ⟨#[32, 42, 32]⟩) (stp (cTW rfl rfl)) ?_
    exact fin _ _ _ (by show (brk (isS a) (prt a)).size ≤ _; omega) (by show (brk (isS b || isP b) (prt b)).size ≤ _; omega) (by omega) (by rw [prt_node, if_neg (by decide)]; rfl)
theorem text_loop {t : List Nod} (ht : t.length ≤ 400) : ∀ {T : Tr} {w : Int × Int}, typT T = some w → ∀ (p q : List Nod) (r : List ByteArray) (v : List Int), t = p ++ (flat T ++ q) → r.length ≤ p.length → v.length = r.length →
    forS (xStep t) ((flat T).length + q.length) p.length (false, r, v) = forS (xStep t) q.length (p.length + (flat T).length) (false, r ++ [prt T], v ++ [topK T])
  | .leaf n, w, h, p, q, r, v, e, hr, hv => by
    obtain ⟨h1, rfl⟩ := typ_leaf h
    have hlt : p.length < t.length := by rw [e]; simp [flat]
    have hn : t[p.length]? = some n := by rw [e, List.getElem?_append_right (Nat.le_refl _), Nat.sub_self]; rfl
    rw [show (flat (.leaf n)).length + q.length = q.length + 1 by simp [flat]; omega, forS_step1 (xStep_leaf hn h1 (by omega) (by omega))]
    rfl
  | .node k a b, w, h, p, q, r, v, e, hr, hv => by
    obtain ⟨hk, x, y, h1, h2, h3⟩ := typ_node h
    have hlen : (flat (.node k a b)).length = (flat a).length + (flat b).length + 1 := by simp [flat]; omega
    have htl : t.length = p.length + ((flat a).length + (flat b).length + 1 + q.length) := by rw [e, List.length_append, List.length_append, hlen]
    have ea : t = p ++ (flat a ++ (flat b ++ ([((k, (0 : Int), ByteArray.empty) : Nod)] ++ q))) := by rw [e]; simp [flat]
    have eb : t = (p ++ flat a) ++ (flat b ++ ([((k, (0 : Int), ByteArray.empty) : Nod)] ++ q)) := by rw [ea]; simp
    have hpa := flat_pos a
    have sa := prt_size h1
    have sb := prt_size h2
    have la := text_loop ht h1 p (flat b ++ ([((k, (0 : Int), ByteArray.empty) : Nod)] ++ q)) r v ea hr hv
    rw [show (flat (.node k a b)).length + q.length = (flat a).length + (flat b ++ ([((k, (0 : Int), ByteArray.empty) : Nod)] ++ q)).length by rw [hlen]; simp; omega, la]
    have lb := text_loop ht h2 (p ++ flat a) ([((k, (0 : Int), ByteArray.empty) : Nod)] ++ q) (r ++ [prt a]) (v ++ [topK a]) eb (by simp; omega) (by simp [hv])
    rw [show (p ++ flat a).length = p.length + (flat a).length from List.length_append] at lb
    rw [show (flat b ++ ([((k, (0 : Int), ByteArray.empty) : Nod)] ++ q)).length = (flat b).length + ([((k, (0 : Int), ByteArray.empty) : Nod)] ++ q).length from List.length_append, lb]
    have hn : t[p.length + (flat a).length + (flat b).length]? = some (k, 0, .empty) := by
      rw [show t = (p ++ flat a ++ flat b) ++ ([((k, (0 : Int), ByteArray.empty) : Nod)] ++ q) by rw [ea]; simp, List.getElem?_append_right (by simp; omega)]
      simp [Nat.add_assoc]
    rw [show ([((k, (0 : Int), ByteArray.empty) : Nod)] ++ q).length = q.length + 1 by simp, forS_step1 (xStep_node (s := r) hn hk (by omega) hv h1 h2 (by omega) (by omega)), hlen,
      show p.length + ((flat a).length + (flat b).length + 1) = p.length + (flat a).length + (flat b).length + 1 by omega]
    rfl
theorem sxPrint_ {T : Tr} {w : Int × Int} (h : typT T = some w) (hl : (flat T).length ≤ 400) : F_spec_sxPrint (flat T) false = some (prt T) := by
  have loop := text_loop hl h [] [] [] [] (by simp) (by simp) rfl
  rw [List.length_nil, Nat.add_zero, Nat.zero_add, List.nil_append, List.nil_append] at loop
  exact bnd (m := forS (xStep (flat T)) (flat T).length 0 (false, [], [])) (a := (false, [prt T], [topK T])) (by rw [loop]; rfl) (bnd (a := prt T) rfl rfl)

/-! ### the law -/
theorem nmB_size {s : ByteArray} (h : nmB s = true) : s.size ≤ 8 := by
  unfold nmB at h
  rw [Bool.and_eq_true] at h
  have := rng_true.1 h.1
  omega
noncomputable def wPrintRule (r : Rul) : ByteArray × Bool := if ruleB r = true then (r.1 ++ ⟨#[32, 58, 32]⟩ ++ prt (trOf r.2.1) ++ ⟨#[32, 61, 32]⟩ ++ prt (trOf r.2.2), true) else (.empty, false)
theorem prS_ {t : List Nod} (h : validB t = true) : F_spec_sxPrint t false = some (prt (trOf t)) ∧ (F_impl_treeOf t).bind (fun y => F_impl_printed y false) = some (prt (trOf t)) ∧ (prt (trOf t)).size ≤ 8000 ∧ ∃ y, F_impl_treeOf t = some y ∧ F_impl_printed y false = some (prt (trOf t)) := by
  obtain ⟨w, h1, h2, h3⟩ := trOf_eq h
  have hl : (flat (trOf t)).length ≤ 400 := by rw [← h1]; exact h3
  have a1 := sxPrint_ h2 hl
  have a2 := treeOf_ h2 hl
  have a3 := printed_ 1000000 h2 hl (by omega)
  have a4 := prt_size h2
  rw [← h1] at a1 a2
  exact ⟨a1, bnd a2 a3, by omega, _, a2, a3⟩
theorem specPrintRule (r : Rul) (h : nRule r ≤ 1048576) : F_spec_PrintRule r = some (wPrintRule r) := by
  refine bnd (rwIs_ r) (stp ?_)
  unfold wPrintRule
  cases hr : ruleB r with
  | false => rfl
  | true =>
    obtain ⟨h0, h1, h2⟩ := ruleB_valid hr
    obtain ⟨a1, _, a3, _⟩ := prS_ h1
    obtain ⟨b1, _, b3, _⟩ := prS_ h2
    have hn := nmB_size h0
    have c1 : (⟨#[32, 58, 32]⟩ : ByteArray).size = 3 := rfl
    have c2 : (⟨#[32, 61, 32]⟩ : ByteArray).size = 3 := rfl
    refine cFW rfl (bnd (bnd (bnd (catO_b (by dsimp only; omega)) (bnd a1 (bnd (catO_b (by simp only [ByteArray.size_append]; omega)) (bnd (catO_b (by simp only [ByteArray.size_append]; omega)) (bnd b1 (bnd (catO_b (by simp only [ByteArray.size_append]; omega)) rfl)))))) rfl) rfl)
theorem implPrintRule (r : Rul) (h : nRule r ≤ 1048576) : F_impl_PrintRule r = some (wPrintRule r) := by
  refine bnd (isRule_ r) (stp ?_)
  unfold wPrintRule
  cases hr : ruleB r with
  | false => rfl
  | true =>
    obtain ⟨h0, h1, h2⟩ := ruleB_valid hr
    obtain ⟨_, _, a3, ya, a4, a5⟩ := prS_ h1
    obtain ⟨_, _, b3, yb, b4, b5⟩ := prS_ h2
    have hn := nmB_size h0
    have c1 : (⟨#[32, 58, 32]⟩ : ByteArray).size = 3 := rfl
    have c2 : (⟨#[32, 61, 32]⟩ : ByteArray).size = 3 := rfl
    refine cFW rfl (bnd (bnd (catO_b (by omega)) (bnd a4 (bnd a5 (bnd (catO_b (by simp only [ByteArray.size_append]; omega)) (bnd (catO_b (by simp only [ByteArray.size_append]; omega)) (bnd b4 (bnd b5 (bnd (catO_b (by simp only [ByteArray.size_append]; omega)) rfl)))))))) rfl)
end Go.Proofs.YteimaohaeodbkaaGreatDoor
namespace Go.Proofs.YteimaohaeodbkaaGreatDoor
set_option linter.unusedVariables false
theorem lawN_PrintRule (a0 : TyRule) (i0 : Nice.ok a0) : F_laws_FnExactPrintRule a0 = some true := by
  have hbig : bigN = 4611686018427387904 := rfl
  refine bnd (z_Rule a0 1048576 (by omega) (by rw [hbig]; omega) (niceLensRule i0)) (stp ?_)
  by_cases gaR : (nRule a0 : Int) ≤ 1048576
  case neg => rw [if_neg gaR]; exact cTW (dT (by omega)) rfl
  rw [if_pos gaR]
  refine cFW (dF (by omega)) ?_
  have haR : nRule a0 ≤ 1048576 := by omega
  first
  | refine bnd (t_Rule a0 haR) (bnd (specPrintRule a0 haR) ?_)
  | refine bnd (bnd (t_Rule a0 haR) (bnd (specPrintRule a0 haR) rfl)) ?_
  refine bnd (t_Rule a0 haR) ?_
  refine bnd (implPrintRule a0 haR) ?_
  refine bnd (a := false) (stp (cFW (nT (dT rfl)) (stp (congrArg some (nT (dT rfl)))))) (cFW rfl ?_)
  refine bnd (t_Rule _ haR) (bnd (e_Rule _ haR) (stp (cFW rfl ?_)))
  rfl
end Go.Proofs.YteimaohaeodbkaaGreatDoor
