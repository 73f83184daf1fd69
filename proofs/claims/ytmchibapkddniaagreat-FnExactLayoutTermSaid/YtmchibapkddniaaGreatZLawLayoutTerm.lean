/-
  Plain laws: the order of edges of a graph whose edges stand in an order. No program in sight. No condition.
-/
import Derived.Test.YtmchibapkddniaaGreatZP87
import Derived.Test.YtmchibapkddniaaGreatZText
namespace Go.Proofs.YtmchibapkddniaaGreat
set_option linter.unusedVariables false

theorem topL_lt : ∀ {E : List Edg} {av : List Int}, topL av E → (av ++ (E.map edO).flatten).Nodup → ∀ (i j : Nat) (e f : Edg), E[i]? = some e → E[j]? = some f → ∀ w, w ∈ edO e → w ∈ edI f → i < j
  | [], _, _, _, i, j, e, f, h, _, _, _, _ => by simp at h
  | c :: E, av, ht, hn, i, j, e, f, hi, hj, w, h1, h2 => by
    rw [List.map_cons, List.flatten_cons] at hn
    cases j with
    | zero =>
      simp only [List.getElem?_cons_zero, Option.some.injEq] at hj
      subst hj
      have hw := ht.1 w h2
      have hm : w ∈ edO c ++ (E.map edO).flatten := by
        cases i with
        | zero =>
          simp only [List.getElem?_cons_zero, Option.some.injEq] at hi
          subst hi; exact List.mem_append_left _ h1
        | succ i =>
          rw [List.getElem?_cons_succ] at hi
          exact List.mem_append_right _ (List.mem_flatten.2 ⟨edO e, List.mem_map.2 ⟨e, List.mem_of_getElem? hi, rfl⟩, h1⟩)
      exact absurd rfl ((List.nodup_append.1 hn).2.2 w hw w hm)
    | succ j =>
      cases i with
      | zero => omega
      | succ i =>
        rw [List.getElem?_cons_succ] at hi hj
        have := topL_lt ht.2 (by rw [List.append_assoc]; exact hn) i j e f hi hj w h1 h2
        omega
/-- an edge needs only edges ahead of it -/
def ordE (E : List Edg) : Prop := ∀ (i j : Nat) (e f : Edg), E[i]? = some e → E[j]? = some f → ∀ w, w ∈ edO e → w ∈ edI f → i < j
theorem hgMeetsT_ (a b : List Int) (hb : b.length ≤ 1048576) : F_spec_hgMeets a b = some (a.any fun x => decide (x ∈ b)) := by
  have hN : (maxN : Nat) = 1099511627776 := rfl
  have hh : ∀ x : Int, F_spec_l1Has b x = some (decide (x ∈ b)) := fun x => l1Has_ b x
  have := forO_all (f := fun (k3 : Nat) (_ : Unit) =>
      (idxO a ((k3 : Nat) : Int)).bind fun a34 =>
      (F_spec_l1Has b a34).bind fun y36 =>
      cond y36
      (some (.inr true))
      (some (.inl ()))) (t := true) (fun x => !decide (x ∈ b)) a 0 (fun j x hx => by
    rw [Nat.zero_add]
    refine bnd (idxO_of hx) (bnd (hh x) ?_)
    by_cases h : x ∈ b
    · rw [dT h]; rfl
    · rw [dF h]; rfl)
  refine sqW this ?_
  by_cases h : (a.any fun x => decide (x ∈ b)) = true
  · rw [h, if_neg]
    · rfl
    · intro h2
      rw [List.any_eq_true] at h
      rw [List.all_eq_true] at h2
      obtain ⟨x, hx, hb⟩ := h
      have := h2 x hx
      rw [hb] at this; cases this
  · rw [Bool.not_eq_true] at h
    rw [h, if_pos]
    · rfl
    · rw [List.all_eq_true]
      intro x hx
      rw [List.any_eq_false] at h
      have := h x hx
      simpa using this
theorem hgOrder_ {g : Gra} (hm : g.2.1.length ≤ 60) (hi : ∀ e ∈ g.2.1, (edI e).length ≤ 1048576) (ho : ordE g.2.1) : F_spec_hgOrder g = some (ugL g.2.1.length) := by
  have hN : (maxN : Nat) = 1099511627776 := rfl
  obtain ⟨w0, E, I, O⟩ := g
  dsimp only at hm hi ho ⊢
  refine bnd (tabl_make (n := E.length) _ (by omega)) ?_
  refine (show _ = _ from ?_ : whileO _ (tabl E.length (fun k => decide (k < 0)), ugL 0) = _)
  refine whileO_is (fun k => (tabl E.length (fun t => decide (t < k)), ugL k)) E.length (fun k hk => ?_) ?_
  all_goals dsimp only
  · refine bnd (a := (k : Int)) (Eq.trans (forS_is (n := E.length) (fun f => if f ≤ k then (-1 : Int) else (k : Int)) (fun f hf => ?_)) ?_) (stp (cFW (dF (by omega)) (bnd (tabl_setO _ _ hk) (bnd (a := ugL (k + 1)) ?_ ?_))))
    · refine bnd (a := if f + 1 ≤ k then (-1 : Int) else (k : Int)) ?_ rfl
      rcases Nat.lt_trichotomy f k with h | h | h
      · refine bnd (a := true) (bnd (tabl_idx _ hf) ?_) ?_
        · rw [dT h]; rfl
        · rw [if_pos (by omega), if_pos (by omega)]; rfl
      · refine bnd (a := false) (bnd (tabl_idx _ hf) ?_) ?_
        · rw [dF (by omega), if_pos (by omega)]; rfl
        · refine cFW rfl (bnd (a := true) ?_ ?_)
          · refine forS_is (n := E.length) (fun _ => true) (fun e he => ?_)
            refine cTW rfl (bnd (tabl_idx _ he) ?_)
            by_cases hek : e < k
            · rw [dT hek]; rfl
            · rw [dF hek]
              refine cFW rfl (bnd (idxO_of (List.getElem?_eq_getElem he)) (bnd (idxO_of (List.getElem?_eq_getElem hf)) (bnd (hgMeetsT_ _ _ (hi _ (List.getElem_mem hf))) (stp ?_))))
              congr 1
              rw [Bool.not_eq_true', List.any_eq_false]
              intro x hx
              rw [decide_eq_true_eq]
              intro hx2
              have := ho e f _ _ (List.getElem?_eq_getElem he) (List.getElem?_eq_getElem hf) x hx hx2
              omega
          · subst h
            rw [show (if f + 1 ≤ f then (-1 : Int) else (f : Int)) = (f : Int) from if_neg (by omega)]; rfl
      · refine bnd (a := true) (bnd (tabl_idx _ hf) ?_) ?_
        · rw [dF (by omega), if_neg (by omega)]
          refine cFW rfl (stp ?_)
          rw [dT (by omega)]
        · rw [if_neg (by omega), if_neg (by omega)]; rfl
    · rw [if_neg (by omega)]
    · rw [appO_of (by rw [ugL_len]; show k + 1 ≤ _; omega), ugL_succ]
    · congr 2
      rw [Prod.mk.injEq]
      refine ⟨tabl_ext fun t ht => ?_, rfl⟩
      by_cases htk : t = k
      · rw [if_pos htk, dT (by omega)]
      · rw [if_neg htk, decide_eq_decide]; omega
  · refine bnd (a := (-1 : Int)) (Eq.trans (forS_is (n := E.length) (fun f => (-1 : Int)) (fun f hf => ?_)) rfl) (stp (cTW rfl rfl))
    refine bnd (a := (-1 : Int)) (bnd (a := true) (bnd (tabl_idx _ hf) ?_) rfl) rfl
    rw [dT hf]; rfl

/-! ### the program's -/
theorem idxF_none {xs : List Int} {F : Nat → Unit → Option (Unit ⊕ Int)} (h : ∀ j x, xs[j]? = some x → F j () = some (.inl ())) : seqO (forO F xs.length 0 ()) (fun (_ : Unit) => some (-1)) = some (-1) := by
  refine sqW (forO_is (n := xs.length) (fun _ => ()) (fun j hj => h j _ (List.getElem?_eq_getElem hj))) rfl
theorem needsCF_ {xs : List Int} {d : Edg} : ∃ b, F_slices_ContainsFunc_int_int_impl_Graph_needs_1 xs d = some b ∧ (b = true → ∃ x ∈ xs, x ∈ edO d) := by
  have hc : ∀ x : Int, F_impl_Graph_needs_1 x d = some (decide (x ∈ edO d)) := fun x => bnd (contains_ (edO d) x) rfl
  by_cases h : ∃ x ∈ xs, x ∈ edO d
  · rcases forO_rel (n := xs.length) (s := ()) (f := fun (k5 : Nat) (_ : Unit) =>
      (idxO xs ((k5 : Nat) : Int)).bind fun a36 =>
      (F_impl_Graph_needs_1 a36 (d.1, d.2.1, d.2.2.1, d.2.2.2)).bind fun y38 =>
      cond y38
      (some (.inr ((k5 : Nat) : Int)))
      (some (.inl ()))) (fun _ _ => True) (fun _ => True) trivial (fun j _ hj _ => by
        by_cases hx : xs[j] ∈ edO d
        · exact .inr ⟨_, bnd (idxO_of (List.getElem?_eq_getElem hj)) (bnd (hc _) (cTW (dT hx) rfl)), trivial⟩
        · exact .inl ⟨(), bnd (idxO_of (List.getElem?_eq_getElem hj)) (bnd (hc _) (cFW (dF hx) rfl)), trivial⟩) with ⟨r, h1, _⟩ | ⟨t, h1, _⟩
    · exact ⟨_, bnd (sqW h1 rfl) (stp rfl), fun _ => h⟩
    · exact ⟨_, bnd (sqW h1 rfl) (stp rfl), fun _ => h⟩
  · refine ⟨false, bnd (idxF_none fun j x hx => ?_) rfl, fun h => by cases h⟩
    exact bnd (idxO_of hx) (bnd (hc _) (cFW (dF fun hm => h ⟨x, mem_of_get hx, hm⟩) rfl))
theorem needs_ {g : Gra} (hm : g.2.1.length ≤ 60) (ho : ordE g.2.1) : ∃ N : List (List Int), F_impl_Graph_needs g = some N ∧ N.length = g.2.1.length ∧ ∀ (t : Nat) (row : List Int), N[t]? = some row → ∀ x ∈ row, 0 ≤ x ∧ x < (t : Int) := by
  have hN : (maxN : Nat) = 1099511627776 := rfl
  obtain ⟨w0, E, I, O⟩ := g
  dsimp only at hm ho ⊢
  have step : ∀ i (s : List (List Int)), i < E.length → s.length = E.length → (s[i]? = some []) → ∃ s', forS (fun (k416 : Nat) (s521 : List (List Int)) =>
          (idxO E ((k416 : Nat) : Int)).bind fun a536 =>
          (F_slices_ContainsFunc_int_int_impl_Graph_needs_1 (edI (E.getD i (0, 0, [], []))) (a536.1, a536.2.1, a536.2.2.1, a536.2.2.2)).bind fun y548 =>
          cond y548
          ((idxO s521 ((i : Nat) : Int)).bind fun a559 =>
            (appO a559 [((k416 : Nat) : Int)]).bind fun a566 =>
            (setO s521 ((i : Nat) : Int) a566).bind fun a578 =>
            some a578)
          (some s521)) E.length 0 s = some s' ∧ s'.length = E.length ∧ (∀ t : Nat, t ≠ i → s'[t]? = s[t]?) ∧ ∃ row, s'[i]? = some row ∧ ∀ x ∈ row, 0 ≤ x ∧ x < (i : Int) := by
    intro i s hi hs h0
    have ei : E.getD i (0, 0, [], []) = E[i] := by rw [List.getD_eq_getElem?_getD, List.getElem?_eq_getElem hi]; rfl
    rw [ei]
    obtain ⟨s', h1, h2, h3, row, h4, _, h5⟩ := forS_rel (n := E.length) (s := s) (f := (fun (k416 : Nat) (s521 : List (List Int)) =>
          (idxO E ((k416 : Nat) : Int)).bind fun a536 =>
          (F_slices_ContainsFunc_int_int_impl_Graph_needs_1 (edI E[i]) (a536.1, a536.2.1, a536.2.2.1, a536.2.2.2)).bind fun y548 =>
          cond y548
          ((idxO s521 ((i : Nat) : Int)).bind fun a559 =>
            (appO a559 [((k416 : Nat) : Int)]).bind fun a566 =>
            (setO s521 ((i : Nat) : Int) a566).bind fun a578 =>
            some a578)
          (some s521))) (fun k s' => s'.length = E.length ∧ (∀ t : Nat, t ≠ i → s'[t]? = s[t]?) ∧ ∃ row, s'[i]? = some row ∧ row.length ≤ k ∧ ∀ x ∈ row, 0 ≤ x ∧ x < (i : Int)) ⟨hs, fun _ _ => rfl, [], h0, Nat.le_refl _, fun _ h => nomatch h⟩ (by
      rintro k z hk ⟨z1, z2, row, z3, z4, z5⟩
      obtain ⟨b, hb, hbt⟩ := needsCF_ (xs := edI E[i]) (d := E[k])
      cases b with
      | false => exact ⟨z, bnd (idxO_of (List.getElem?_eq_getElem hk)) (bnd hb rfl), z1, z2, row, z3, by omega, z5⟩
      | true =>
        obtain ⟨x, hx1, hx2⟩ := hbt rfl
        have hlt := ho k i _ _ (List.getElem?_eq_getElem hk) (List.getElem?_eq_getElem hi) x hx2 hx1
        refine ⟨z.set i (row ++ [(k : Int)]), bnd (idxO_of (List.getElem?_eq_getElem hk)) (bnd hb (cTW rfl (bnd (idxO_of z3) (bnd (appO_of (by show row.length + 1 ≤ _; omega)) (bnd (setO_of _ (by omega)) rfl))))), by rw [List.length_set]; exact z1, fun t ht => ?_, row ++ [(k : Int)], ?_, by rw [List.length_append]; show row.length + 1 ≤ _; omega, fun y hy => ?_⟩
        · rw [List.getElem?_set, if_neg (fun h => ht h.symm)]; exact z2 t ht
        · rw [List.getElem?_set, if_pos rfl, if_pos (by omega)]
        · rcases List.mem_append.1 hy with h | h
          · exact z5 y h
          · rw [List.mem_singleton] at h; omega)
    exact ⟨s', h1, h2, h3, row, h4, h5⟩
  obtain ⟨N, h1, h2, h3, _⟩ := forS_rel (n := E.length) (s := List.replicate E.length ([] : List Int)) (f := (fun (k12 : Nat) (s389 : List (List Int)) =>
      (idxO E ((k12 : Nat) : Int)).bind fun a404 =>
      (forS (fun (k416 : Nat) (s521 : List (List Int)) =>
          (idxO E ((k416 : Nat) : Int)).bind fun a536 =>
          (F_slices_ContainsFunc_int_int_impl_Graph_needs_1 a404.2.2.1 (a536.1, a536.2.1, a536.2.2.1, a536.2.2.2)).bind fun y548 =>
          cond y548
          ((idxO s521 ((k12 : Nat) : Int)).bind fun a559 =>
            (appO a559 [((k416 : Nat) : Int)]).bind fun a566 =>
            (setO s521 ((k12 : Nat) : Int) a566).bind fun a578 =>
            some a578)
          (some s521)) E.length 0 s389).bind fun (s582 : List (List Int)) =>
      some s582)) (fun i s => s.length = E.length ∧ (∀ (t : Nat) (row : List Int), s[t]? = some row → ∀ x ∈ row, 0 ≤ x ∧ x < (t : Int)) ∧ ∀ t : Nat, i ≤ t → t < E.length → s[t]? = some []) ⟨by simp, (fun t row ht x hx => by
        rw [List.getElem?_replicate] at ht
        split at ht
        · obtain rfl := Option.some.inj ht; cases hx
        · cases ht), fun t _ ht => by rw [List.getElem?_replicate, if_pos ht]⟩ (by
    rintro i s hi ⟨s1, s2, s3⟩
    obtain ⟨s', a1, a2, a3, row, a4, a5⟩ := step i s hi s1 (s3 i (Nat.le_refl _) hi)
    have ei : E.getD i (0, 0, [], []) = E[i] := by rw [List.getD_eq_getElem?_getD, List.getElem?_eq_getElem hi]; rfl
    rw [ei] at a1
    refine ⟨s', bnd (idxO_of (List.getElem?_eq_getElem hi)) (bnd a1 rfl), a2, fun t r ht x hx => ?_, fun t h1 h2 => ?_⟩
    · by_cases hti : t = i
      · subst hti
        rw [a4] at ht
        obtain rfl := Option.some.inj ht
        exact a5 x hx
      · rw [a3 t hti] at ht; exact s2 t r ht x hx
    · rw [a3 t (by omega)]; exact s3 t (by omega) h2)
  exact ⟨N, bnd (makeO_of (n := E.length) _ (by omega)) (bnd h1 rfl), h2, h3⟩
theorem edgeOrder_ {g : Gra} (hm : g.2.1.length ≤ 60) (ho : ordE g.2.1) : F_impl_Graph_edgeOrder g = some (ugL g.2.1.length) := by
  have hN : (maxN : Nat) = 1099511627776 := rfl
  obtain ⟨N, h1, h2, h3⟩ := needs_ hm ho
  generalize hM : g.2.1.length = m at hm h2
  refine bnd h1 (bnd (a := tabl m fun k => decide (k < 0)) (by rw [h2]; exact tabl_make _ (by omega)) ?_)
  rw [h2]
  refine sqW (r := some (.inl (tabl m fun k => decide (k < m), ugL m))) (whileO_is (fun k => (tabl m (fun t => decide (t < k)), ugL k)) m (fun k hk => ?_) ?_) rfl
  all_goals dsimp only
  · have hidx : F_slices_IndexFunc_int_int_impl_Graph_edgeOrder_1 (ugL m) (tabl m fun t => decide (t < k)) N = some (k : Int) := by
      have hg : ∀ t, t < m → (ugL m)[t]? = some ((t : Nat) : Int) := fun t ht => tabl_get _ ht
      refine sqW (forO_stop (n := (ugL m).length) (fun _ => ()) (t := (k : Int)) k (by rw [ugL_len]; exact hk) (fun j hj => ?_) ?_) rfl
      · refine bnd (idxO_of (hg j (by omega))) (bnd (a := false) (bnd (a := false) (bnd (tabl_idx _ (by omega)) (stp ?_)) rfl) rfl)
        rw [dT hj]; rfl
      · refine bnd (idxO_of (hg k hk)) (bnd (a := true) (bnd (a := true) (bnd (tabl_idx _ hk) (stp ?_)) rfl) rfl)
        rw [dF (by omega)]
        refine cTW rfl (bnd (idxO_of (List.getElem?_eq_getElem (by omega : k < N.length))) (bnd (a := false) (bnd (idxF_none fun j x hx => ?_) rfl) rfl))
        have hr := h3 k _ (List.getElem?_eq_getElem (by omega : k < N.length)) x (mem_of_get hx)
        refine bnd (idxO_of hx) (bnd (a := false) ?_ rfl)
        obtain ⟨q, rfl⟩ : ∃ q : Nat, x = (q : Int) := ⟨x.toNat, by omega⟩
        refine bnd (tabl_idx _ (by omega)) (stp ?_)
        rw [dT (by omega)]; rfl
    refine stp (cTW (dT (by rw [ugL_len]; omega)) (bnd (ugTo_ (by omega)) (bnd hidx (stp (cFW (dF (by omega)) (bnd (tabl_setO _ _ hk) (bnd (a := ugL (k + 1)) ?_ ?_)))))))
    · rw [appO_of (by rw [ugL_len]; show k + 1 ≤ _; omega), ugL_succ]
    · congr 2
      rw [Prod.mk.injEq]
      refine ⟨tabl_ext fun t ht => ?_, rfl⟩
      by_cases htk : t = k
      · rw [if_pos htk, dT (by omega)]
      · rw [if_neg htk, decide_eq_decide]; omega
  · exact stp (cFW (dF (by rw [ugL_len]; omega)) rfl)

end Go.Proofs.YtmchibapkddniaaGreat
namespace Go.Proofs.YtmchibapkddniaaGreat

/-! ### names -/
instance (s : ByteArray) (l : List ByteArray) : Decidable (s ∈ l) := decidable_of_iff (l.any (fun a => decide (a = s)) = true) (by simp [List.any_eq_true])

/-! ### rules -/
end Go.Proofs.YtmchibapkddniaaGreat
namespace Go.Proofs.YtmchibapkddniaaGreat
set_option linter.unusedVariables false

abbrev TyNode := Int × Int × ByteArray
def nNode (a : TyNode) : Nat := a.2.2.size
def lensNode (a : TyNode) : Prop := (a.2.2.size : Int) ≤ 9223372036854775807
theorem z_Node (a : TyNode) (left : Int) (h0 : 0 ≤ left) (h1 : left ≤ bigN) (hl : lensNode a) : F_laws_szNode a left = some (if (nNode a : Int) ≤ left then left - nNode a else -1) := by
  unfold bigN at h1
  have l0 := hl
  unfold lensNode at l0
  unfold nNode
  refine bnd (subO_of (by omega) (by omega)) (stp ?_)
  by_cases g0 : (a.2.2.size : Int) ≤ left
  case neg =>
    rw [if_neg (by omega)]
    exact cTW (dT (by omega)) rfl
  rw [if_pos (by omega)]
  refine cFW (dF (by omega)) ?_
  congr 1; try omega
theorem niceLensNode {a : TyNode} (h : Nice.ok a) : lensNode a := by
  obtain ⟨h0, h1, h2⟩ := h
  exact h2
theorem t_Node (a : TyNode) (h : nNode a ≤ 1048576) : F_laws_toNode a = some a := by
  unfold nNode at h
  exact rfl
theorem e_Node (a : TyNode) (h : nNode a ≤ 1048576) : F_laws_eqNode a a = some true := by
  unfold nNode at h
  exact stp (cFW (nT (dT rfl)) (stp (cFW (nT (dT rfl)) (stp (cFW (nT (dT rfl)) (rfl))))))
abbrev TyNodeS := List TyNode
def nNodeS (a : TyNodeS) : Nat := a.length + tot nNode a
def lensNodeS (a : TyNodeS) : Prop := lenOk a ∧ ∀ x ∈ a, lensNode x
theorem z_NodeS (a : TyNodeS) (left : Int) (h0 : 0 ≤ left) (h1 : left ≤ bigN) (hl : lensNodeS a) : F_laws_szNodeS a left = some (if (nNodeS a : Int) ≤ left then left - nNodeS a else -1) := by
  have hl1 := hl.1; unfold lenOk at hl1; unfold bigN at h1
  unfold nNodeS
  refine bnd (subO_of (by omega) (by omega)) (stp ?_)
  by_cases h : (a.length : Int) ≤ left
  · refine cFW (dF (by omega)) (sqW (sz_loop nNode a (left - a.length) ?_ ?_ a [] _ rfl ?_ (Int.le_refl _)) ?_)
    · intro j r s hj hjl hs hsB
      dsimp only
      refine stp (cTW (dT (by omega)) (bnd (idxO_of hj) (bnd (z_Node r s hs (by unfold bigN; omega) (hl.2 r (mem_of_get hj))) (stp ?_))))
      by_cases h2 : (nNode r : Int) ≤ s
      · rw [if_pos h2, if_pos h2]; exact cFW (dF (by omega)) (bnd (addO_of (by omega) (by omega)) rfl)
      · rw [if_neg h2, if_neg h2]; exact cTW (dT (by omega)) rfl
    · intro s; dsimp only; exact stp (cFW (dF (by omega)) rfl)
    · omega
    · by_cases h2 : (tot nNode a : Int) ≤ left - a.length
      · rw [if_pos h2, if_pos (by omega), seqO_l]; congr 1; omega
      · rw [if_neg h2, if_neg (by omega), seqO_r]
  · rw [if_neg (by omega)]; exact cTW (dT (by omega)) rfl
theorem niceLensNodeS {a : TyNodeS} (h : Nice.ok a) : lensNodeS a := ⟨h.1, fun x hx => niceLensNode (h.2 x hx)⟩
theorem t_NodeS (a : TyNodeS) (h : nNodeS a ≤ 1048576) : F_laws_toNodeS a = some a := by
  have hm : maxN = 1099511627776 := rfl
  unfold nNodeS at h
  refine bnd (makeO_of _ (by omega)) (bnd (to_loop _ a ?_ ?_ a [] rfl) rfl)
  · intro j x s hj hjl hs
    dsimp only
    exact stp (cTW (dT (by omega)) (bnd (idxO_of hj) (bnd (t_Node x (by have := tot_mem (n := nNode) (mem_of_get hj); omega)) (bnd (setO_of _ (by omega)) (bnd (addO_of (by omega) (by omega)) rfl)))))
  · intro s hs; dsimp only; exact stp (cFW (dF (by omega)) rfl)
theorem e_NodeS (a : TyNodeS) (h : nNodeS a ≤ 1048576) : F_laws_eqNodeS a a = some true := by
  unfold nNodeS at h
  refine stp (cFW (nT (dT rfl)) (sqW (whileO_is (fun j => (j : Int)) (t := .inl ()) a.length ?_ ?_) ?_))
  · intro j hj
    exact stp (cTW (dT (by omega)) (bnd (idxO_of (List.getElem?_eq_getElem hj)) (bnd (idxO_of (List.getElem?_eq_getElem hj)) (bnd (e_Node a[j] (by have := tot_mem (n := nNode) (List.getElem_mem hj); omega)) (stp (cFW rfl (bnd (addO_of (by omega) (by omega)) rfl)))))))
  · exact stp (cFW (dF (by omega)) rfl)
  · rfl
def mkE_Node (x : TyNode) (q : Int) : TyNode × Int := ((q, (q + 1), mText ((q + 1) + 1)), (((q + 1) + 1) + 1))
def cE_Node (x : TyNode) : Nat := 3
theorem mkE_Node_snd (x : TyNode) (q : Int) : (mkE_Node x q).2 = q + cE_Node x := by
  unfold mkE_Node cE_Node
  dsimp only
  omega
theorem cE_Node_le (x : TyNode) : cE_Node x ≤ 8 * (1 + nNode x) := by
  unfold cE_Node nNode
  omega
def mk_NodeS : TyNodeS → Int → TyNodeS × Int := mkL mkE_Node
def cNodeS (a : TyNodeS) : Nat := tot cE_Node a
theorem cNodeS_le (a : TyNodeS) : cNodeS a ≤ 8 * nNodeS a := by
  have := totLe2 cE_Node_le a
  rw [nE_sum] at this
  exact this
theorem mk_NodeS_snd (a : TyNodeS) (k : Int) : (mk_NodeS a k).2 = k + cNodeS a := mkL_snd mkE_Node cE_Node mkE_Node_snd a k
theorem m_NodeS (a : TyNodeS) (k : Int) (h0 : 0 ≤ k) (h : k + 8 * nNodeS a ≤ 1125899906842624) : F_laws_markNodeS a k = some (mk_NodeS a k) := by
  have hsum := nE_sum nNode a
  unfold nNodeS at h
  refine bnd (mark_loop2 mkE_Node cE_Node (fun x => 8 * (1 + nNode x)) mkE_Node_snd cE_Node_le a.length 1125899906842624 ?_ ?_ a [] k (by simp) h0 (by rw [hsum]; omega)) rfl
  · intro j x s q hj hs hjl hq hB
    dsimp only at hB ⊢
    unfold nNode at hB
    refine stp (cTW (dT (by omega)) ?_)
    refine bnd (idxO_of hj) ?_
    refine bnd (setO_of _ (by omega)) ?_
    refine bnd (addO_of (by omega) (by omega)) ?_
    refine bnd (idxO_of (a := (q, x.2.1, x.2.2)) (by rw [List.getElem?_set_self (by omega)])) ?_
    refine bnd (setO_of _ (by simp only [List.length_set]; omega)) ?_
    refine bnd (addO_of (by omega) (by omega)) ?_
    refine bnd (markText_ _ (by omega) (by omega)) ?_
    refine bnd (idxO_of (a := (q, (q + 1), x.2.2)) (by rw [List.getElem?_set_self (by simp only [List.length_set]; omega)])) ?_
    refine bnd (setO_of _ (by simp only [List.length_set]; omega)) ?_
    refine bnd (addO_of (by omega) (by omega)) ?_
    refine bnd (addO_of (by omega) (by omega)) ?_
    simp only [List.set_set]; rfl
  · intro s q hs; dsimp only; exact stp (cFW (dF (by omega)) rfl)
theorem h_NodeS (a : TyNodeS) (k : Int) (h0 : 0 ≤ k) (h : k + 8 * nNodeS a ≤ 1125899906842624) : F_laws_heldNodeS (mk_NodeS a k).1 k = some (k + cNodeS a) := by
  have hsum := nE_sum nNode a
  unfold nNodeS at h
  refine sqW (held_loop2 mkE_Node cE_Node (fun x => 8 * (1 + nNode x)) mkE_Node_snd cE_Node_le (mk_NodeS a k).1 1125899906842624 ?_ ?_ a [] k rfl h0 (by rw [hsum]; omega)) ?_
  · intro j x q hj hjl hq hB
    dsimp only at hB ⊢
    unfold nNode at hB
    have hlen : (mk_NodeS a k).1.length = a.length := mkL_len mkE_Node a k
    refine stp (cTW (dT (by omega)) ?_)
    refine bnd (idxO_of hj) ?_
    refine stp (cFW (nT (dT (by rfl))) ?_)
    refine bnd (addO_of (by omega) (by omega)) ?_
    refine bnd (idxO_of hj) ?_
    refine stp (cFW (nT (dT (by rfl))) ?_)
    refine bnd (addO_of (by omega) (by omega)) ?_
    refine bnd (idxO_of hj) ?_
    refine bnd (markText_ _ (by omega) (by omega)) ?_
    refine stp (cFW (nT (dT (by rfl))) ?_)
    refine bnd (addO_of (by omega) (by omega)) ?_
    refine bnd (addO_of (by omega) (by omega)) ?_
    refine congrArg some (congrArg Sum.inl (Prod.ext ?_ rfl))
    unfold cE_Node; dsimp only; push_cast; omega
  · intro q; dsimp only; exact stp (cFW (dF (by omega)) rfl)
  · rfl
abbrev TyTerm := List (Int × Int × ByteArray)
def nTerm (a : TyTerm) : Nat := nNodeS a
def lensTerm (a : TyTerm) : Prop := lensNodeS a
theorem z_Term (a : TyTerm) (left : Int) (h0 : 0 ≤ left) (h1 : left ≤ bigN) (hl : lensTerm a) : F_laws_szTerm a left = some (if (nTerm a : Int) ≤ left then left - nTerm a else -1) := by
  unfold bigN at h1
  have l0 := hl
  unfold lensTerm at l0
  unfold nTerm
  refine bnd (z_NodeS a (left) (by omega) (by unfold bigN; omega) l0) (stp ?_)
  by_cases g0 : (nNodeS a : Int) ≤ left
  case neg =>
    rw [if_neg g0]; try rw [if_neg (by omega)]
    exact cTW (dT (by omega)) rfl
  rw [if_pos g0]
  try rw [if_pos (by omega)]
  refine cFW (dF (by omega)) ?_
  congr 1; try omega
theorem niceLensTerm {a : TyTerm} (h : Nice.ok a) : lensTerm a := by
  have h0 := h
  exact niceLensNodeS h0
theorem t_Term (a : TyTerm) (h : nTerm a ≤ 1048576) : F_laws_toTerm a = some a := by
  unfold nTerm at h
  exact bnd (t_NodeS a (by omega)) (rfl)
theorem e_Term (a : TyTerm) (h : nTerm a ≤ 1048576) : F_laws_eqTerm a a = some true := by
  unfold nTerm at h
  exact bnd (e_NodeS a (by omega)) (stp (cFW rfl (rfl)))
def mk_Term (a : TyTerm) (k : Int) : TyTerm × Int := ((mk_NodeS a k).1, (mk_NodeS a k).2)
def cTerm (a : TyTerm) : Nat := cNodeS a
theorem cTerm_le (a : TyTerm) : cTerm a ≤ 8 * nTerm a := by
  unfold cTerm nTerm
  have hc0 := cNodeS_le a
  omega
theorem mk_Term_snd (a : TyTerm) (k : Int) : (mk_Term a k).2 = k + cTerm a := by
  unfold mk_Term cTerm
  simp only [mk_NodeS_snd]
  try omega
theorem m_Term (a : TyTerm) (k : Int) (h0 : 0 ≤ k) (h : k + 8 * nTerm a ≤ 1125899906842624) : F_laws_markTerm a k = some (mk_Term a k) := by
  unfold nTerm at h
  have hc0 := cNodeS_le a
  exact bnd (m_NodeS _ _ h0 (by omega)) (rfl)
theorem h_Term (a : TyTerm) (k : Int) (h0 : 0 ≤ k) (h : k + 8 * nTerm a ≤ 1125899906842624) : F_laws_heldTerm (mk_Term a k).1 k = some (k + cTerm a) := by
  unfold nTerm at h
  have hc0 := cNodeS_le a
  have e0 : F_laws_heldNodeS (mk_NodeS a k).1 k = some (k + cNodeS a) := h_NodeS _ _ h0 (by omega)
  unfold cTerm mk_Term
  refine bnd e0 (stp (cFW (dF (by omega)) ?_))
  refine congrArg some ?_
  try simp only [mk_NodeS_snd]
  try omega
end Go.Proofs.YtmchibapkddniaaGreat
namespace Go.Proofs.YtmchibapkddniaaGreat
set_option linter.unusedVariables false

end Go.Proofs.YtmchibapkddniaaGreat
namespace Go.Proofs.YtmchibapkddniaaGreat
end Go.Proofs.YtmchibapkddniaaGreat
namespace Go.Proofs.YtmchibapkddniaaGreat

end Go.Proofs.YtmchibapkddniaaGreat
namespace Go.Proofs.YtmchibapkddniaaGreat

abbrev Rows := List (List Int)
def el (r : List Int) (c : Nat) : Int := r.getD c 0
theorem el_get {r : List Int} {c : Nat} (h : c < r.length) : r[c]? = some (el r c) := by unfold el; rw [List.getD_eq_getElem?_getD, List.getElem?_eq_getElem h]; rfl
theorem idx_el {r : List Int} {c : Nat} (h : c < r.length) : idxO r (c : Int) = some (el r c) := idxO_of (el_get h)

/-! ### one row -/

/-! ### the reference's and the program's steps -/
end Go.Proofs.YtmchibapkddniaaGreat
namespace Go.Proofs.YtmchibapkddniaaGreat

/-! ### lists changed at every place -/

/-! ### the steps -/

/-! ### the reference -/
end Go.Proofs.YtmchibapkddniaaGreat
namespace Go.Proofs.YtmchibapkddniaaGreat

/-! ### the whole -/
end Go.Proofs.YtmchibapkddniaaGreat
namespace Go.Proofs.YtmchibapkddniaaGreat

/-! ### leads -/

/-! ### rows by their elements -/

/-! ### reduced lists -/

/-! ### valid spaces -/
end Go.Proofs.YtmchibapkddniaaGreat
namespace Go.Proofs.YtmchibapkddniaaGreat

/-! ### sums -/

/-! ### combinations -/

/-! ### coordinates -/

/-! ### has a vector -/

/-! ### relations -/

/-! ### the first choice -/
end Go.Proofs.YtmchibapkddniaaGreat
namespace Go.Proofs.YtmchibapkddniaaGreat
set_option linter.unusedVariables false

/-! ### sums -/

/-! ### spans -/

/-! ### a step of the reduction -/

/-! ### independent rows -/

/-! ### reduced lists are determined -/
end Go.Proofs.YtmchibapkddniaaGreat
namespace Go.Proofs.YtmchibapkddniaaGreat

/-! ### lists of matrices in the law -/

/-! ### matrices and responses -/
end Go.Proofs.YtmchibapkddniaaGreat
namespace Go.Proofs.YtmchibapkddniaaGreat

end Go.Proofs.YtmchibapkddniaaGreat
namespace Go.Proofs.YtmchibapkddniaaGreat

theorem tot_le {α : Type} {n : α → Nat} {c : Nat} {l : List α} (h : ∀ a ∈ l, n a ≤ c) : tot n l ≤ l.length * c := by
  induction l with
  | nil => simp [tot]
  | cons a l ih =>
    rw [tot_cons, List.length_cons, Nat.succ_mul]
    have := ih (fun x hx => h x (List.mem_cons_of_mem _ hx))
    have := h a (List.mem_cons_self ..)
    omega

end Go.Proofs.YtmchibapkddniaaGreat
namespace Go.Proofs.YtmchibapkddniaaGreat

end Go.Proofs.YtmchibapkddniaaGreat
namespace Go.Proofs.YtmchibapkddniaaGreat
set_option linter.unusedVariables false

/-! ### rows after rows -/

/-! ### the states that are reached -/
section
variable {p : Int} {n : Nat} {A B : Rows}
end

/-! ### realizations -/
end Go.Proofs.YtmchibapkddniaaGreat
namespace Go.Proofs.YtmchibapkddniaaGreat

/-! ### inclusion -/

/-! ### ports that are never inputs -/
end Go.Proofs.YtmchibapkddniaaGreat
namespace Go.Proofs.YtmchibapkddniaaGreat
set_option linter.unusedVariables false

/-! ### identity matrices -/

/-! ### linear equations -/
end Go.Proofs.YtmchibapkddniaaGreat
namespace Go.Proofs.YtmchibapkddniaaGreat
set_option linter.unusedVariables false

/-! ### lists of ports -/

/-! ### the other ports -/

/-! ### rows at ports -/

/-! ### ports that are always inputs -/
end Go.Proofs.YtmchibapkddniaaGreat
namespace Go.Proofs.YtmchibapkddniaaGreat
set_option linter.unusedVariables false

/-! ### rows beside rows -/

/-! ### choices -/
end Go.Proofs.YtmchibapkddniaaGreat
namespace Go.Proofs.YtmchibapkddniaaGreat
set_option linter.unusedVariables false

/-! ### sums and functionals -/

/-! ### by the steps of a reduction -/
end Go.Proofs.YtmchibapkddniaaGreat
namespace Go.Proofs.YtmchibapkddniaaGreat
set_option linter.unusedVariables false

/-! ### by the leading indices -/
end Go.Proofs.YtmchibapkddniaaGreat
namespace Go.Proofs.YtmchibapkddniaaGreat
set_option linter.unusedVariables false

/-! ### rows and columns exchanged -/

/-! ### products with zero -/

/-! ### the states that are hidden -/
section
variable {p : Int} {n o : Nat} {A C : Rows}
end
section
variable {p : Int} {n : Nat} {A B : Rows}
end
section
variable {p : Int} {n o : Nat} {A C : Rows}
end
end Go.Proofs.YtmchibapkddniaaGreat
namespace Go.Proofs.YtmchibapkddniaaGreat

/-! ### composition -/
end Go.Proofs.YtmchibapkddniaaGreat
namespace Go.Proofs.YtmchibapkddniaaGreat

end Go.Proofs.YtmchibapkddniaaGreat
namespace Go.Proofs.YtmchibapkddniaaGreat

/-! ### spans of chosen columns -/

/-! ### the relation of a leaf -/
end Go.Proofs.YtmchibapkddniaaGreat
namespace Go.Proofs.YtmchibapkddniaaGreat
section
variable {p v : Int} (hp : 2 ≤ p ∧ p ≤ 97) (hv : 0 ≤ v ∧ v < p)
include hp
include hv
end

/-! ### a generator's relation, the reference's way -/
end Go.Proofs.YtmchibapkddniaaGreat
namespace Go.Proofs.YtmchibapkddniaaGreat

/-! ### crossings and identities -/
end Go.Proofs.YtmchibapkddniaaGreat
namespace Go.Proofs.YtmchibapkddniaaGreat
end Go.Proofs.YtmchibapkddniaaGreat
namespace Go.Proofs.YtmchibapkddniaaGreat
theorem forS_step1 {σ : Type} {f : Nat → σ → Option σ} {n k : Nat} {s s' : σ} (h : f k s = some s') : forS f (n + 1) k s = forS f n (k + 1) s' := by
  show (f k s).bind _ = _
  rw [h]; rfl

/-! ### the reference's loop -/
end Go.Proofs.YtmchibapkddniaaGreat
namespace Go.Proofs.YtmchibapkddniaaGreat

/-! ### a term's tree -/

/-! ### its mirror image -/
theorem concat2_ {a b : List Nod} (h : a.length + b.length ≤ 1000000) : F_slices_Concat_impl_Node_impl_Node [a, b] = some (a ++ b) := by
  have hm : maxN = 1099511627776 := rfl
  have g : F_slices_Grow_impl_Node_impl_Node (((a.length + b.length : Nat) : Int)) = some [] := if_pos (by omega)
  refine bnd (a := ((a.length + b.length : Nat) : Int)) ?_ (bnd g (bnd (a := a ++ b) ?_ rfl))
  · refine (forS_step1 (s' := ((a.length : Nat) : Int)) ?_).trans ((forS_step1 (s' := ((a.length + b.length : Nat) : Int)) ?_).trans rfl)
    · exact bnd (a := a) rfl (bnd (addO_of (by omega) (by omega)) (stp (cFW (dF (by omega)) (congrArg some (by omega)))))
    · exact bnd (a := b) rfl (bnd (addO_of (by omega) (by omega)) (stp (cFW (dF (by omega)) (congrArg some (by omega)))))
  · refine (forS_step1 (s' := a) ?_).trans ((forS_step1 (s' := a ++ b) ?_).trans rfl)
    · exact bnd (a := a) rfl (bnd (appO_of (by simp; omega)) rfl)
    · exact bnd (a := b) rfl (bnd (appO_of (by omega)) rfl)
theorem joinNodes_ {k : Int} {a b : List Nod} (h : a.length + b.length ≤ 1000000) : F_impl_joinNodes k a b = some (a ++ b ++ [(k, 0, .empty)]) := by
  have hm : maxN = 1099511627776 := rfl
  exact bnd (concat2_ h) (bnd (appO_of (by simp; omega)) rfl)
theorem tmJoin_ {k : Int} {a b : List Nod} (h : a.length + b.length ≤ 1000000000) : F_spec_tmJoin a b k = some (a ++ b ++ [(k, 0, .empty)]) := by
  have hm : maxN = 1099511627776 := rfl
  exact bnd (a := a) (appO_of (by simp; omega)) (bnd (appO_of (by omega)) (bnd (appO_of (by simp; omega)) rfl))

/-! ### the law -/
end Go.Proofs.YtmchibapkddniaaGreat
namespace Go.Proofs.YtmchibapkddniaaGreat
set_option linter.unusedVariables false

def inv : List Int → Nat
  | [] => 0
  | a :: l => l.countP (fun b => decide (b < a)) + inv l
theorem inv_le : ∀ l : List Int, inv l ≤ l.length * l.length
  | [] => Nat.le_refl _
  | a :: l => by
    have h1 := inv_le l
    have h2 := List.countP_le_length (p := fun b => decide (b < a)) (l := l)
    show _ + _ ≤ (l.length + 1) * (l.length + 1)
    have : (l.length + 1) * (l.length + 1) = l.length * l.length + l.length + l.length + 1 := by rw [Nat.add_mul, Nat.mul_add]; omega
    omega
theorem inv_swap : ∀ (p q : List Int) (a b : Int), b < a → inv (p ++ b :: a :: q) + 1 = inv (p ++ a :: b :: q)
  | [], q, a, b, h => by
    show (a :: q).countP (fun x => decide (x < b)) + (q.countP (fun x => decide (x < a)) + inv q) + 1 = (b :: q).countP (fun x => decide (x < a)) + (q.countP (fun x => decide (x < b)) + inv q)
    rw [List.countP_cons, List.countP_cons, dF (show ¬ a < b by omega), dT h]
    simp only [Bool.false_eq_true, if_false, if_true]
    omega
  | c :: p, q, a, b, h => by
    have ih := inv_swap p q a b h
    show (p ++ b :: a :: q).countP (fun x => decide (x < c)) + inv (p ++ b :: a :: q) + 1 = (p ++ a :: b :: q).countP (fun x => decide (x < c)) + inv (p ++ a :: b :: q)
    have : (p ++ b :: a :: q).countP (fun x => decide (x < c)) = (p ++ a :: b :: q).countP (fun x => decide (x < c)) :=
      List.Perm.countP_eq _ (List.Perm.append_left _ (List.Perm.swap a b q))
    omega
def swp (l : List Int) (i : Nat) : List Int := (l.set i (el l (i + 1))).set (i + 1) (el l i)
theorem swp_form {l : List Int} {i : Nat} (h : i + 1 < l.length) : ∃ p q a b, l = p ++ a :: b :: q ∧ p.length = i ∧ a = el l i ∧ b = el l (i + 1) ∧ swp l i = p ++ b :: a :: q := by
  have e1 : l = l.take i ++ el l i :: el l (i + 1) :: l.drop (i + 2) := by
    have h1 : l.drop i = el l i :: l.drop (i + 1) := by
      rw [List.drop_eq_getElem_cons (by omega)]
      congr 1
      have := el_get (r := l) (c := i) (by omega)
      rw [List.getElem?_eq_getElem (by omega)] at this
      exact Option.some.inj this
    have h2 : l.drop (i + 1) = el l (i + 1) :: l.drop (i + 2) := by
      rw [List.drop_eq_getElem_cons (by omega)]
      congr 1
      have := el_get (r := l) (c := i + 1) (by omega)
      rw [List.getElem?_eq_getElem (by omega)] at this
      exact Option.some.inj this
    rw [← h2, ← h1, List.take_append_drop]
  have hl : (l.take i).length = i := by rw [List.length_take]; omega
  refine ⟨l.take i, l.drop (i + 2), el l i, el l (i + 1), e1, hl, rfl, rfl, ?_⟩
  unfold swp
  refine List.ext_getElem? fun j => ?_
  rw [List.getElem?_set, List.getElem?_set, List.length_set]
  by_cases h1 : i + 1 = j
  · subst h1
    rw [if_pos rfl, if_pos h, List.getElem?_append_right (by omega), hl, show i + 1 - i = 1 by omega]; rfl
  · rw [if_neg h1]
    by_cases h2 : i = j
    · subst h2
      rw [if_pos rfl, if_pos (by omega), List.getElem?_append_right (by omega), hl, Nat.sub_self]; rfl
    · rw [if_neg h2]
      conv => lhs; rw [e1]
      by_cases h3 : j < i
      · rw [List.getElem?_append_left (by omega), List.getElem?_append_left (by omega)]
      · rw [List.getElem?_append_right (by omega), List.getElem?_append_right (by omega), hl]
        obtain ⟨d, hd⟩ : ∃ d, j - i = d + 2 := ⟨j - i - 2, by omega⟩
        rw [hd]; rfl
theorem swp_len (l : List Int) (i : Nat) : (swp l i).length = l.length := by unfold swp; rw [List.length_set, List.length_set]
theorem swp_perm {l : List Int} {i : Nat} (h : i + 1 < l.length) : (swp l i).Perm l := by
  obtain ⟨p, q, a, b, e, _, _, _, e2⟩ := swp_form h
  rw [e2]
  conv => rhs; rw [e]
  exact List.Perm.append_left _ (List.Perm.swap a b q)
theorem swp_inv {l : List Int} {i : Nat} (h : i + 1 < l.length) (hd : el l (i + 1) < el l i) : inv (swp l i) + 1 = inv l := by
  obtain ⟨p, q, a, b, e, _, ea, eb, e2⟩ := swp_form h
  rw [e2]
  conv => rhs; rw [e]
  exact inv_swap p q a b (by omega)
/-- two elements changed -/
def layL (n i : Nat) : List Nod :=
  (if 0 < i then [(1, (i : Int), .empty), (2, 0, .empty), (16, 0, .empty)] else [(2, 0, .empty)]) ++ (if i + 2 < n then [(1, ((n - 2 - i : Nat) : Int), .empty), (16, 0, .empty)] else [])
theorem layL_len (n i : Nat) : 0 < (layL n i).length ∧ (layL n i).length ≤ 5 := by
  unfold layL
  split <;> split <;> simp
def addN (out f : List Nod) : List Nod := if out = [] then f else out ++ f ++ [(15, 0, .empty)]
inductive Bub (n : Nat) : List Int → List Nod → List Nod → Prop where
  | done {l : List Int} {out : List Nod} (h : ∀ i, i + 1 < n → el l i < el l (i + 1)) : Bub n l out out
  | step {l : List Int} {out r : List Nod} (i : Nat) (hi : i + 1 < n) (hp : ∀ j, j < i → el l j < el l (j + 1)) (hd : el l (i + 1) < el l i) (h : Bub n (swp l i) (addN out (layL n i)) r) : Bub n l out r
theorem first_desc (l : List Int) (n : Nat) (hn : l.Nodup) (hl : l.length = n) : (∀ i, i + 1 < n → el l i < el l (i + 1)) ∨ ∃ i, i + 1 < n ∧ (∀ j, j < i → el l j < el l (j + 1)) ∧ el l (i + 1) < el l i := by
  have key : ∀ k, k + 1 ≤ n → (∀ i, i < k → el l i < el l (i + 1)) ∨ ∃ i, i + 1 < n ∧ (∀ j, j < i → el l j < el l (j + 1)) ∧ el l (i + 1) < el l i := by
    intro k
    induction k with
    | zero => intro _; exact .inl fun i hi => by omega
    | succ k ih =>
      intro hk
      rcases ih (by omega) with h | h
      · by_cases hd : el l k < el l (k + 1)
        · refine .inl fun i hi => ?_
          by_cases hik : i < k
          · exact h i hik
          · rw [show i = k by omega]; exact hd
        · refine .inr ⟨k, by omega, h, ?_⟩
          have hne : el l k ≠ el l (k + 1) := by
            intro e
            have h1 := el_get (r := l) (c := k) (by omega)
            have h2 := el_get (r := l) (c := k + 1) (by omega)
            rw [e, ← h2] at h1
            have := (List.getElem?_inj (by omega) hn).1 h1
            omega
          omega
      · exact .inr h
  by_cases h0 : n = 0
  · exact .inl fun i hi => by omega
  · rcases key (n - 1) (by omega) with h | h
    · exact .inl fun i hi => h i (by omega)
    · exact .inr h
theorem addN_len (out f : List Nod) : (addN out f).length ≤ out.length + f.length + 1 := by
  unfold addN
  split
  · omega
  · rw [List.length_append, List.length_append]; show out.length + f.length + 1 ≤ _; omega
theorem addN_pos {out f : List Nod} (h : 0 < f.length) : 0 < (addN out f).length := by
  unfold addN
  split
  · exact h
  · rw [List.length_append, List.length_append]; show 0 < out.length + f.length + 1; omega
theorem bub_ex : ∀ (k : Nat) (l : List Int) (out : List Nod), inv l = k → l.Nodup → ∃ r, Bub l.length l out r ∧ r.length ≤ out.length + 6 * k
  | k, l, out, hk, hn => by
    rcases first_desc l l.length hn rfl with h | ⟨i, h1, h2, h3⟩
    · exact ⟨out, .done h, by omega⟩
    · have hi := swp_inv h1 h3
      obtain ⟨r, h4, h5⟩ := bub_ex (k - 1) (swp l i) (addN out (layL l.length i)) (by omega) ((swp_perm h1).nodup_iff.2 hn)
      rw [swp_len] at h4
      have := addN_len out (layL l.length i)
      have := (layL_len l.length i).2
      exact ⟨r, .step i h1 h2 h3 h4, by omega⟩
termination_by k => k
decreasing_by omega

theorem layer_ {n i : Nat} (h : i + 1 < n) (hn : n ≤ 1000) : F_impl_layer (n : Int) (i : Int) = some (layL n i) := by
  unfold layL
  refine bnd (a := (2, 0, .empty)) rfl (bnd (a := if 0 < i then [(1, (i : Int), .empty), (2, 0, .empty), (16, 0, .empty)] else [(2, 0, .empty)]) (stp ?_) ?_)
  · by_cases h0 : 0 < i
    · rw [if_pos h0, dT (by omega)]
      exact cTW rfl (bnd rfl (bnd (joinNodes_ (by simp)) rfl))
    · rw [if_neg h0, dF (by omega)]; rfl
  · refine bnd (subO_of (by omega) (by omega)) (bnd (subO_of (by omega) (by omega)) (stp ?_))
    by_cases h2 : i + 2 < n
    · rw [if_pos h2, dT (by omega)]
      refine cTW rfl (bnd rfl (bnd (joinNodes_ (by split <;> simp)) ?_))
      rw [show (n : Int) - 2 - (i : Int) = ((n - 2 - i : Nat) : Int) by omega, List.append_assoc]; rfl
    · rw [if_neg h2, dF (by omega), List.append_nil]; rfl
theorem tmLayer_ {n i : Nat} (h : i + 1 < n) (hn : n ≤ 1000) : F_spec_tmLayer (i : Int) [(2, 0, .empty)] ((n : Int) - 2 - (i : Int)) = some (layL n i) := by
  unfold layL
  refine bnd (a := if 0 < i then [(1, (i : Int), .empty), (2, 0, .empty), (16, 0, .empty)] else [(2, 0, .empty)]) (stp ?_) (bnd (a := (if 0 < i then [(1, (i : Int), .empty), (2, 0, .empty), (16, 0, .empty)] else [(2, 0, .empty)]) ++ (if i + 2 < n then [(1, ((n - 2 - i : Nat) : Int), .empty), (16, 0, .empty)] else [])) (stp ?_) rfl)
  · by_cases h0 : 0 < i
    · rw [if_pos h0, dT (by omega)]
      exact cTW rfl (bnd rfl (bnd (bnd (tmJoin_ (by simp)) rfl) rfl))
    · rw [if_neg h0, dF (by omega)]; rfl
  · by_cases h2 : i + 2 < n
    · rw [if_pos h2, dT (by omega)]
      refine cTW rfl (bnd rfl (bnd (bnd (tmJoin_ (by split <;> simp)) rfl) ?_))
      rw [show (n : Int) - 2 - (i : Int) = ((n - 2 - i : Nat) : Int) by omega, List.append_assoc]; rfl
    · rw [if_neg h2, dF (by omega), List.append_nil]; rfl
/-- the program's loop -/
theorem bub_impl {n : Nat} (hn : n ≤ 100) : ∀ {l : List Int} {out r : List Nod}, Bub n l out r → l.length = n → r.length ≤ 900000 → (∃ l', l'.length = n ∧ whileO (fun (s458 : List Int × (List (Int × Int × ByteArray)) × Int) =>
      (addO s458.2.2 1).bind fun a468 =>
      (some (decide (a468 < ((s458.1.length : Nat) : Int)))).bind fun a470 =>
      cond a470
      ((idxO s458.1 s458.2.2).bind fun a482 =>
        (addO s458.2.2 1).bind fun a484 =>
        (idxO s458.1 a484).bind fun a492 =>
        (some (decide (a482 < a492))).bind fun a494 =>
        cond a494
        ((addO s458.2.2 1).bind fun a551 =>
          some (.inl (s458.1, s458.2.1, a551)))
        ((addO s458.2.2 1).bind fun a498 =>
          (addO s458.2.2 1).bind fun a500 =>
          (idxO s458.1 a500).bind fun a508 =>
          (idxO s458.1 s458.2.2).bind fun a516 =>
          (setO s458.1 s458.2.2 a508).bind fun a524 =>
          (setO a524 a498 a516).bind fun a533 =>
          (F_impl_layer ((a533.length : Nat) : Int) s458.2.2).bind fun y536 =>
          (some (decide ((0 : Int) < ((s458.2.1.length : Nat) : Int)))).bind fun a541 =>
          cond a541
          ((F_impl_joinNodes 15 s458.2.1 y536).bind fun y545 =>
            some (.inl (a533, y545, 0)))
          (some (.inl (a533, y536, 0)))))
      (some (.inr (s458.1, s458.2.1)))) (l, out, 0) = some (l', r)) ∧ out.length ≤ r.length
  | l, out, _, .done h, hl, hr => by
    refine ⟨⟨l, hl, ?_⟩, Nat.le_refl _⟩
    by_cases h0 : n = 0
    · refine whileO_end (stp (a := 1) (stp (cFW (dF (by dsimp only; omega)) rfl)))
    · refine whileO_is (fun i => (l, out, (i : Int))) (n - 1) (fun i hi => ?_) ?_
      · refine bnd (addO_of (by dsimp only; omega) (by dsimp only; omega)) (stp (cTW (dT (by dsimp only; omega)) (bnd (idx_el (by dsimp only; omega)) (bnd (a := ((i + 1 : Nat) : Int)) ?_ (bnd (idx_el (by dsimp only; omega)) (stp (cTW (dT (h i (by omega))) (bnd (addO_of (by dsimp only; omega) (by dsimp only; omega)) rfl))))))))
        dsimp only; rw [addO_of (by omega) (by omega)]; congr 1
      · exact bnd (addO_of (by dsimp only; omega) (by dsimp only; omega)) (stp (cFW (dF (by dsimp only; omega)) rfl))
  | l, out, r, .step i hi hp hd h, hl, hr => by
    obtain ⟨⟨l', hl', hw⟩, hlen⟩ := bub_impl hn h (by rw [swp_len]; exact hl) hr
    have hll := layL_len n i
    have ho : out.length ≤ (addN out (layL n i)).length := by
      unfold addN
      split
      · rename_i h0; rw [h0]; exact Nat.zero_le _
      · rw [List.length_append, List.length_append]; omega
    refine ⟨⟨l', hl', ?_⟩, by omega⟩
    rw [← hw]
    -- up to the first descent
    have pre : ∀ (f : List Int × List Nod × Int → Option ((List Int × List Nod × Int) ⊕ (List Int × List Nod))), (∀ j, j < i → f (l, out, (j : Int)) = some (.inl (l, out, ((j + 1 : Nat) : Int)))) → f (l, out, (i : Int)) = some (.inl (swp l i, addN out (layL n i), 0)) → whileO f (l, out, 0) = whileO f (swp l i, addN out (layL n i), 0) := by
      intro f h1 h2
      have k : ∀ d j, j + d = i → whileO f (l, out, (j : Int)) = whileO f (swp l i, addN out (layL n i), 0) := by
        intro d
        induction d with
        | zero => intro j hj; rw [show j = i by omega]; exact whileO_step h2
        | succ d ih => intro j hj; rw [whileO_step (h1 j (by omega))]; exact ih (j + 1) (by omega)
      exact k i 0 (by omega)
    refine pre _ (fun j hj => ?_) ?_
    · refine bnd (addO_of (by dsimp only; omega) (by dsimp only; omega)) (stp (cTW (dT (by dsimp only; omega)) (bnd (idx_el (by dsimp only; omega)) (bnd (a := ((j + 1 : Nat) : Int)) ?_ (bnd (idx_el (by dsimp only; omega)) (stp (cTW (dT (hp j hj)) (bnd (addO_of (by dsimp only; omega) (by dsimp only; omega)) rfl))))))))
      dsimp only; rw [addO_of (by omega) (by omega)]; congr 1
    · have a1 : addO ((i : Nat) : Int) 1 = some ((i + 1 : Nat) : Int) := by rw [addO_of (by omega) (by omega)]; congr 1
      refine bnd a1 (stp (cTW (dT (by dsimp only; omega)) (bnd (idx_el (by dsimp only; omega)) (bnd a1 (bnd (idx_el (by dsimp only; omega)) (stp (cFW (dF (by dsimp only; omega)) (bnd a1 (bnd a1 (bnd (idx_el (by dsimp only; omega)) (bnd (idx_el (by dsimp only; omega)) (bnd (setO_of _ (by dsimp only; omega)) (bnd (setO_of _ (by dsimp only; rw [List.length_set]; omega)) (bnd (a := layL n i) ?_ (stp ?_)))))))))))))))
      · dsimp only
        rw [List.length_set, List.length_set, hl]; exact layer_ hi (by omega)
      · dsimp only
        unfold addN
        by_cases h0 : out = []
        · rw [if_pos h0, h0]; rfl
        · have : 0 < out.length := by cases out with
            | nil => exact absurd rfl h0
            | cons _ _ => simp
          rw [if_neg h0, dT (by omega)]
          exact cTW rfl (bnd (joinNodes_ (by omega)) rfl)
/-- the reference's loop -/
theorem bub_spec {n : Nat} (hn : n ≤ 100) : ∀ {l : List Int} {out r : List Nod}, Bub n l out r → l.length = n → r.length ≤ 900000 → ∀ (so : List Nod) (c : Nat), (c = 0 ∧ out = [] ∨ 0 < c ∧ so = out ∧ out ≠ []) → c + (r.length - out.length) ≤ 1000000 → out.length ≤ r.length ∧ whileO (fun (s1044 : (List (Int × Int × ByteArray)) × List Int × Int) =>
    (whileO (fun (s1408 : Int) =>
        ((addO s1408 1).bind fun a1451 =>
          (some (decide (a1451 < (n : Int)))).bind fun a1453 =>
          cond a1453
          ((idxO s1044.2.1 s1408).bind fun a1463 =>
            (addO s1408 1).bind fun a1465 =>
            (idxO s1044.2.1 a1465).bind fun a1473 =>
            (some (decide (a1463 ≤ a1473))).bind fun a1475 =>
            some a1475)
          (some false)).bind fun (s1444 : Bool) =>
        cond s1444
        ((addO s1408 1).bind fun a1482 =>
          some (.inl a1482))
        (some (.inr s1408))) 0).bind fun (s1266 : Int) =>
    (addO s1266 1).bind fun a1486 =>
    (some (decide ((n : Int) ≤ a1486))).bind fun a1488 =>
    cond a1488
    (some (.inr s1044.1))
    ((idxO s1044.2.1 s1266).bind fun a1497 =>
      (addO s1266 1).bind fun a1499 =>
      (idxO s1044.2.1 a1499).bind fun a1507 =>
      (setO s1044.2.1 s1266 a1507).bind fun a1515 =>
      (addO s1266 1).bind fun a1518 =>
      (setO a1515 a1518 a1497).bind fun a1526 =>
      (F_spec_tmOne 2 0).bind fun y1529 =>
      (subO (n : Int) 2).bind fun a1534 =>
      (subO a1534 s1266).bind fun a1536 =>
      (F_spec_tmLayer s1266 y1529 a1536).bind fun y1538 =>
      (some (decide (s1044.2.2 = 0))).bind fun a1547 =>
      cond a1547
      ((addO s1044.2.2 1).bind fun a1560 =>
        some (.inl (y1538, a1526, a1560)))
      ((F_spec_tmSeq s1044.1 y1538).bind fun y1550 =>
        (addO s1044.2.2 1).bind fun a1556 =>
        some (.inl (y1550, a1526, a1556))))) (so, l, (c : Int)) = some (if r = [] then so else r)
  | l, out, _, .done h, hl, hr, so, c, hc, hcb => by
    refine ⟨Nat.le_refl _, ?_⟩
    have e : (if out = [] then so else out) = so := by
      rcases hc with ⟨_, h1⟩ | ⟨_, h1, h2⟩
      · rw [if_pos h1]
      · rw [if_neg h2, h1]
    rw [e]
    by_cases h0 : n = 0
    · refine whileO_end (bnd (a := 0) (whileO_end (bnd (a := false) (stp (a := 1) (stp (cFW (dF (by omega)) rfl))) rfl)) (stp (a := 1) (stp (cTW (dT (by omega)) rfl))))
    · refine whileO_end (bnd (a := ((n - 1 : Nat) : Int)) (whileO_is (fun i => (i : Int)) (n - 1) (fun i hi => ?_) ?_) (bnd (addO_of (by omega) (by omega)) (stp (cTW (dT (by omega)) rfl))))
      · have a1 : addO ((i : Nat) : Int) 1 = some ((i + 1 : Nat) : Int) := by rw [addO_of (by omega) (by omega)]; congr 1
        have := h i (by omega)
        exact bnd (a := true) (bnd a1 (stp (cTW (dT (by omega)) (bnd (idx_el (by dsimp only; omega)) (bnd a1 (bnd (idx_el (by dsimp only; omega)) (stp (congrArg some (dT (by dsimp only; omega)))))))))) (cTW rfl (bnd a1 rfl))
      · have a1 : addO ((n - 1 : Nat) : Int) 1 = some (n : Int) := by rw [addO_of (by omega) (by omega)]; congr 1; omega
        exact bnd (a := false) (bnd a1 (stp (cFW (dF (by omega)) rfl))) rfl
  | l, out, r, .step i hi hp hd h, hl, hr, so, c, hc, hcb => by
    have hll := layL_len n i
    have ho : out.length + 1 ≤ (addN out (layL n i)).length := by
      unfold addN
      split
      · rename_i h0; rw [h0]; exact hll.1
      · rw [List.length_append, List.length_append]; show _ ≤ out.length + (layL n i).length + 1; omega
    have hne : addN out (layL n i) ≠ [] := by
      intro h0; rw [h0] at ho; simp at ho
    -- sizes
    have hsz : (addN out (layL n i)).length ≤ r.length := (bub_impl hn h (by rw [swp_len]; exact hl) hr).2
    obtain ⟨h1, h2⟩ := bub_spec hn h (by rw [swp_len]; exact hl) hr (addN out (layL n i)) (c + 1) (.inr ⟨by omega, rfl, hne⟩) (by omega)
    refine ⟨by omega, ?_⟩
    have hrn : r ≠ [] := by intro h0; rw [h0] at hsz; simp at hsz; exact hne hsz
    rw [if_neg hrn] at h2 ⊢
    rw [← h2]
    refine whileO_step (bnd (a := (i : Int)) (whileO_is (fun j => (j : Int)) i (fun j hj => ?_) ?_) ?_)
    · have a1 : addO ((j : Nat) : Int) 1 = some ((j + 1 : Nat) : Int) := by rw [addO_of (by omega) (by omega)]; congr 1
      have := hp j hj
      exact bnd (a := true) (bnd a1 (stp (cTW (dT (by omega)) (bnd (idx_el (by dsimp only; omega)) (bnd a1 (bnd (idx_el (by dsimp only; omega)) (stp (congrArg some (dT (by dsimp only; omega)))))))))) (cTW rfl (bnd a1 rfl))
    · have a1 : addO ((i : Nat) : Int) 1 = some ((i + 1 : Nat) : Int) := by rw [addO_of (by omega) (by omega)]; congr 1
      exact bnd (a := false) (bnd a1 (stp (cTW (dT (by omega)) (bnd (idx_el (by dsimp only; omega)) (bnd a1 (bnd (idx_el (by dsimp only; omega)) (stp (congrArg some (dF (by dsimp only; omega)))))))))) rfl
    · have a1 : addO ((i : Nat) : Int) 1 = some ((i + 1 : Nat) : Int) := by rw [addO_of (by omega) (by omega)]; congr 1
      refine bnd a1 (stp (cFW (dF (by omega)) (bnd (idx_el (by dsimp only; omega)) (bnd a1 (bnd (idx_el (by dsimp only; omega)) (bnd (setO_of _ (by dsimp only; omega)) (bnd a1 (bnd (setO_of _ (by dsimp only; rw [List.length_set]; omega)) (bnd (a := [(2, 0, .empty)]) rfl (bnd (a := (n : Int) - 2) (subO_of (by omega) (by omega)) (bnd (a := (n : Int) - 2 - (i : Int)) (subO_of (by omega) (by omega)) (bnd (a := layL n i) (tmLayer_ hi (by omega)) (stp ?_)))))))))))))
      rcases hc with ⟨hc0, h0⟩ | ⟨hc0, h0, h00⟩
      · refine cTW (dT (by dsimp only; omega)) (bnd (a := ((c + 1 : Nat) : Int)) (by dsimp only; rw [addO_of (by omega) (by omega)]; congr 1) ?_)
        unfold addN
        rw [if_pos h0]; rfl
      · refine cFW (dF (by dsimp only; omega)) (bnd (a := addN out (layL n i)) ?_ (bnd (a := ((c + 1 : Nat) : Int)) (by dsimp only; rw [addO_of (by omega) (by omega)]; congr 1) rfl))
        unfold addN
        rw [if_neg h00, ← h0]
        have : so.length ≤ 900000 := by rw [h0]; omega
        exact bnd (tmJoin_ (by dsimp only; omega)) rfl
/-- both programs' term of a permutation -/
theorem perm_ {l : List Int} (hn : l.Nodup) (hl : l.length ≤ 100) : ∃ R : List Nod, F_spec_tmPerm l = some R ∧ F_impl_permutationNodes l = some R ∧ 0 < R.length ∧ R.length ≤ 1 + 6 * (l.length * l.length) := by
  have hN : (maxN : Nat) = 1099511627776 := rfl
  obtain ⟨r, h1, h2⟩ := bub_ex (inv l) l [] rfl hn
  have h3 := inv_le l
  have h4 : l.length * l.length ≤ 100 * 100 := Nat.mul_le_mul hl hl
  rw [List.length_nil] at h2
  refine ⟨if r = [] then [(1, (l.length : Int), .empty)] else r, ?_, ?_, ?_, ?_⟩
  · refine bnd (own_ (by omega)) (bnd (a := [(1, (l.length : Int), .empty)]) rfl ?_)
    exact (bub_spec hl h1 rfl (by omega) [(1, (l.length : Int), .empty)] 0 (.inl ⟨rfl, rfl⟩) (by omega)).2
  · obtain ⟨⟨l', hl', hw⟩, _⟩ := bub_impl hl h1 rfl (by omega)
    refine bnd (clone_ (by omega)) (bnd hw (stp ?_))
    dsimp only
    cases r with
    | nil => rw [hl']; rfl
    | cons a r => rfl
  · cases r with
    | nil => simp
    | cons a r => simp
  · cases r with
    | nil => simp
    | cons a r => rw [if_neg (by simp)]; omega
end Go.Proofs.YtmchibapkddniaaGreat
namespace Go.Proofs.YtmchibapkddniaaGreat
set_option linter.unusedVariables false

theorem slEqL (a b : List Int) : F_slices_Equal_int_int a b = some (decide (a = b)) := l1Same_ a b
noncomputable def permT (l : List Int) : List Nod := (F_spec_tmPerm l).getD []
theorem permT_ {l : List Int} (hn : l.Nodup) (hl : l.length ≤ 100) : F_spec_tmPerm l = some (permT l) ∧ F_impl_permutationNodes l = some (permT l) ∧ 0 < (permT l).length ∧ (permT l).length ≤ 1 + 6 * (l.length * l.length) := by
  obtain ⟨R, h1, h2, h3, h4⟩ := perm_ hn hl
  have e : permT l = R := by unfold permT; rw [h1]; rfl
  rw [e]; exact ⟨h1, h2, h3, h4⟩
def plI (to : List Int) (w : Int) : Int := match to.findIdx? (fun a => decide (w = a)) with | some k => (k : Int) | none => -1
def plc (fr to : List Int) : List Int := fr.map (plI to)
theorem plI_of {to : List Int} {w : Int} (h : w ∈ to) : ∃ k : Nat, plI to w = (k : Int) ∧ to[k]? = some w ∧ ∀ j, j < k → to[j]? ≠ some w := by
  unfold plI
  have h1 : (to.findIdx? (fun a => decide (w = a))).isSome = true := by rw [findIdx_mem]; exact dT h
  cases hf : to.findIdx? (fun a => decide (w = a)) with
  | none => rw [hf] at h1; cases h1
  | some k =>
    rw [List.findIdx?_eq_some_iff_getElem] at hf
    obtain ⟨hk, h2, h3⟩ := hf
    refine ⟨k, rfl, ?_, fun j hj e => ?_⟩
    · rw [List.getElem?_eq_getElem hk, of_decide_eq_true h2]
    · have h4 := h3 j hj
      rw [List.getElem?_eq_getElem (by omega)] at e
      have e := Option.some.inj e
      rw [e] at h4
      simp at h4
theorem plc_nd {fr to : List Int} (hn : fr.Nodup) (h : ∀ w ∈ fr, w ∈ to) : (plc fr to).Nodup := by
  induction fr with
  | nil => exact List.nodup_nil
  | cons a fr ih =>
    rw [List.nodup_cons] at hn
    show (plI to a :: plc fr to).Nodup
    rw [List.nodup_cons]
    refine ⟨fun hm => ?_, ih hn.2 fun w hw => h w (List.mem_cons_of_mem _ hw)⟩
    obtain ⟨b, hb, e⟩ := List.mem_map.1 hm
    obtain ⟨k, k1, k2, _⟩ := plI_of (h a (List.mem_cons_self))
    obtain ⟨q, q1, q2, _⟩ := plI_of (h b (List.mem_cons_of_mem _ hb))
    rw [k1, q1] at e
    have : k = q := by omega
    subst this
    rw [k2] at q2
    rw [Option.some.inj q2] at hn
    exact hn.1 hb
theorem placesIn_ {fr to : List Int} (h : fr.length ≤ 1000) : F_impl_placesIn fr to = some (plc fr to) := by
  have hN : (maxN : Nat) = 1099511627776 := rfl
  refine bnd ((forS_map (plI to) fr [] (by simp only [List.length_nil]; omega) ?_).trans (by rw [List.nil_append]; rfl)) rfl
  intro j a s hj hs
  have : j < fr.length := (List.getElem?_eq_some_iff.1 hj).1
  rw [List.length_nil] at hs
  exact bnd (idxO_of hj) (bnd index_ (bnd (appO_of (by rw [hs]; show 0 + j + 1 ≤ _; omega)) rfl))
noncomputable def mvL (fr to : List Int) : List (List Nod) := if fr = to then [] else [permT (plc fr to)]
theorem rbMove_ {fr to : List Int} (hn : fr.Nodup) (h : ∀ w ∈ fr, w ∈ to) (hl : fr.length ≤ 100) (hlt : to.length ≤ 1000) : F_spec_rbMove fr to = some (mvL fr to) := by
  have hN : (maxN : Nat) = 1099511627776 := rfl
  unfold mvL
  refine bnd (l1Same_ fr to) ?_
  by_cases he : fr = to
  · rw [if_pos he]; exact cTW (dT he) rfl
  · rw [if_neg he]
    have hp := permT_ (plc_nd hn h) (by unfold plc; rw [List.length_map]; exact hl)
    refine cFW (dF he) (bnd (a := plc fr to) ?_ (bnd hp.1 rfl))
    refine (forS_map (plI to) fr [] (by simp only [List.length_nil]; omega) ?_).trans (by rw [List.nil_append]; rfl)
    intro j a s hj hs
    have hjl : j < fr.length := (List.getElem?_eq_some_iff.1 hj).1
    obtain ⟨k, k1, k2, k3⟩ := plI_of (h a (mem_of_get hj))
    have hk : k < to.length := (List.getElem?_eq_some_iff.1 k2).1
    rw [List.length_nil] at hs
    rw [k1]
    refine bnd (idxO_of hj) (bnd (whileO_is (fun q => (q : Int)) (t := (k : Int)) k (fun q hq => ?_) ?_) (bnd (appO_of (by rw [hs]; show 0 + j + 1 ≤ _; omega)) rfl))
    · have hqt : to[q]? = some to[q] := List.getElem?_eq_getElem (by omega)
      refine bnd (idxO_of hqt) (stp (cTW (nF (dF fun e => ?_)) (bnd (addO_of (by omega) (by omega)) rfl)))
      exact k3 q hq (by rw [hqt, e])
    · exact bnd (idxO_of k2) (stp (cFW (nT (dT rfl)) rfl))
def rstL (cut ins : List Int) : List Int := cut.filter fun w => !decide (w ∈ ins)
theorem rest_loop {cut ins : List Int} (hl : cut.length ≤ 1000) {f : Nat → List Int → Option (List Int)} (hf : ∀ (j : Nat) (s : List Int) (a : Int), cut[j]? = some a → s.length ≤ 1000 → f j s = some (if a ∈ ins then s else s ++ [a])) : forS f cut.length 0 [] = some (rstL cut ins) := by
  refine (forS_is (fun j => rstL (cut.take j) ins) (fun j hj => ?_)).trans (by rw [List.take_length])
  have hle : (rstL (cut.take j) ins).length ≤ 1000 := by
    have := List.length_filter_le (fun w => !decide (w ∈ ins)) (cut.take j)
    rw [List.length_take] at this
    unfold rstL; omega
  rw [hf j _ _ (List.getElem?_eq_getElem hj) hle, List.take_add_one, List.getElem?_eq_getElem hj]
  unfold rstL
  rw [List.filter_append]
  simp only [Option.toList_some]
  by_cases h : cut[j] ∈ ins
  · rw [if_pos h]; simp [h]
  · rw [if_neg h]; simp [h]
theorem rbRest_ {cut ins : List Int} (hl : cut.length ≤ 1000) : F_spec_rbRest cut ins = some (rstL cut ins) := by
  have hN : (maxN : Nat) = 1099511627776 := rfl
  refine bnd (rest_loop hl fun j s a ha hs => ?_) rfl
  refine bnd (idxO_of ha) (bnd (l1Has_ ins a) (stp ?_))
  by_cases h : a ∈ ins
  · rw [if_pos h]; exact cFW (nT (dT h)) rfl
  · rw [if_neg h]; exact cTW (nF (dF h)) (bnd (appO_of (by show s.length + 1 ≤ _; omega)) rfl)
theorem othersR_ {cut ins : List Int} (hl : cut.length ≤ 1000) : F_impl_others cut ins = some (rstL cut ins) := by
  have hN : (maxN : Nat) = 1099511627776 := rfl
  refine bnd (rest_loop hl fun j s a ha hs => ?_) rfl
  refine bnd (idxO_of ha) (bnd (contains_ ins a) (stp ?_))
  by_cases h : a ∈ ins
  · rw [if_pos h]; exact cFW (nT (dT h)) rfl
  · rw [if_neg h]; exact cTW (nF (dF h)) (bnd (appO_of (by show s.length + 1 ≤ _; omega)) rfl)
/-- an edge beside wires -/
def layE (e : Edg) (r : Nat) : List Nod := if 0 < r then [(e.1, e.2.1, .empty), (1, (r : Int), .empty), (16, 0, .empty)] else [(e.1, e.2.1, .empty)]
theorem layE_pos (e : Edg) (r : Nat) : 0 < (layE e r).length ∧ (layE e r).length ≤ 3 := by unfold layE; split <;> simp
theorem tmLayE_ (e : Edg) {r : Nat} (hr : r ≤ 1000) : F_spec_tmLayer 0 [(e.1, e.2.1, .empty)] (r : Int) = some (layE e r) := by
  unfold layE
  refine bnd (a := [(e.1, e.2.1, .empty)]) rfl (bnd (a := if 0 < r then [(e.1, e.2.1, .empty), (1, (r : Int), .empty), (16, 0, .empty)] else [(e.1, e.2.1, .empty)]) (stp ?_) rfl)
  by_cases h : 0 < r
  · rw [if_pos h, dT (by omega)]
    exact cTW rfl (bnd rfl (bnd (bnd (tmJoin_ (by simp)) rfl) rfl))
  · rw [if_neg h, dF (by omega)]; rfl
noncomputable def chn (fs : List (List Nod)) : List Nod := fs.foldl addN []
theorem chn_app (fs gs : List (List Nod)) : chn (fs ++ gs) = gs.foldl addN (chn fs) := List.foldl_append
theorem chn_snoc (fs : List (List Nod)) (f : List Nod) : chn (fs ++ [f]) = addN (chn fs) f := by rw [chn_app]; rfl
theorem addN_pre (o f : List Nod) : ∃ s, addN o f = o ++ s := by
  unfold addN
  by_cases h : o = []
  · rw [if_pos h, h]; exact ⟨f, rfl⟩
  · rw [if_neg h, List.append_assoc]; exact ⟨_, rfl⟩
theorem fold_pre : ∀ (gs : List (List Nod)) (o : List Nod), ∃ s, gs.foldl addN o = o ++ s
  | [], o => ⟨[], by simp⟩
  | g :: gs, o => by
    obtain ⟨s, h⟩ := addN_pre o g
    obtain ⟨t, h2⟩ := fold_pre gs (addN o g)
    exact ⟨s ++ t, by show gs.foldl addN (addN o g) = _; rw [h2, h, List.append_assoc]⟩
theorem chn_pre (fs gs : List (List Nod)) : ∃ s, chn (fs ++ gs) = chn fs ++ s := by rw [chn_app]; exact fold_pre gs _
theorem addN_mid (o f : List Nod) : ∃ p q, addN o f = p ++ f ++ q := by
  unfold addN
  by_cases h : o = []
  · rw [if_pos h]; exact ⟨[], [], by simp⟩
  · rw [if_neg h]; exact ⟨o, [(15, 0, .empty)], rfl⟩
theorem chn_mid (fs gs : List (List Nod)) (f : List Nod) : ∃ p q, chn (fs ++ [f] ++ gs) = p ++ f ++ q := by
  obtain ⟨s, h⟩ := chn_pre (fs ++ [f]) gs
  obtain ⟨p, q, h2⟩ := addN_mid (chn fs) f
  refine ⟨p, q ++ s, ?_⟩
  rw [h, chn_snoc, h2]; simp
theorem chn_len (M : Nat) : ∀ (gs : List (List Nod)) (o : List Nod), (∀ f ∈ gs, f.length ≤ M) → (gs.foldl addN o).length ≤ o.length + gs.length * (M + 1)
  | [], o, _ => by simp
  | g :: gs, o, h => by
    have h1 := chn_len M gs (addN o g) fun f hf => h f (List.mem_cons_of_mem _ hf)
    have h2 := addN_len o g
    have h3 := h g (List.mem_cons_self)
    show (gs.foldl addN (addN o g)).length ≤ _
    rw [List.length_cons, Nat.add_mul]
    omega
theorem chn_nil {fs : List (List Nod)} (h : ∀ f ∈ fs, 0 < f.length) : chn fs = [] ↔ fs = [] := by
  constructor
  · intro hc
    cases fs with
    | nil => rfl
    | cons f fs =>
      obtain ⟨s, e⟩ := fold_pre fs (addN [] f)
      have h1 := h f (List.mem_cons_self)
      have : chn (f :: fs) = addN [] f ++ s := e
      rw [hc] at this
      have h2 := congrArg List.length this
      rw [List.length_append] at h2
      have h3 : (addN [] f).length = f.length := by unfold addN; rw [if_pos rfl]
      simp only [List.length_nil] at h2
      omega
  · rintro rfl; rfl
theorem tmChain_ {fs : List (List Nod)} (h : ∀ f ∈ fs, 0 < f.length ∧ f.length ≤ 70000) (hn : fs ≠ []) (hl : fs.length ≤ 1000) : F_spec_tmChain fs 15 = some (chn fs) := by
  have hN : (maxN : Nat) = 1099511627776 := rfl
  cases fs with
  | nil => exact absurd rfl hn
  | cons f fs =>
    have e0 : sliceO (f :: fs) 1 (((f :: fs).length : Nat) : Int) = some fs := by
      unfold sliceO
      rw [if_pos ⟨by omega, by rw [List.length_cons]; omega, by omega⟩, Int.toNat_natCast, List.length_cons]
      show some (List.take (fs.length + 1 - 1) fs) = _
      rw [Nat.add_sub_cancel, List.take_length]
    have hf0 := h f (List.mem_cons_self)
    refine bnd (a := f) (idxO_of (k := 0) rfl) (bnd e0 (bnd (a := chn (f :: fs)) ?_ rfl))
    have e1 : ∀ (gs : List (List Nod)) (o : List Nod), 0 < o.length → (∀ g ∈ gs, 0 < g.length ∧ g.length ≤ 70000) → o.length + gs.length * 70001 ≤ 900000000 → ∀ k (F : Nat → List Nod → Option (List Nod)), (∀ j g s, gs[j]? = some g → s.length + g.length ≤ 1000000000 → F (k + j) s = some (s ++ g ++ [(15, 0, .empty)])) → forS F gs.length k o = some (gs.foldl addN o) := by
      intro gs
      induction gs with
      | nil => intro o _ _ _ k F _; rfl
      | cons g gs ih =>
        intro o ho hg hb k F hF
        have hg0 := hg g (List.mem_cons_self)
        rw [List.length_cons, Nat.add_mul] at hb
        have ea : addN o g = o ++ g ++ [(15, 0, .empty)] := by
          unfold addN
          rw [if_neg (fun h => by rw [h] at ho; simp at ho)]
        show (F k o).bind _ = _
        have := hF 0 g o rfl (by omega)
        rw [Nat.add_zero] at this
        rw [this, ← ea]
        show forS F gs.length (k + 1) (addN o g) = _
        have hal := addN_len o g
        refine ih (addN o g) (addN_pos hg0.1) (fun x hx => hg x (List.mem_cons_of_mem _ hx)) (by omega) (k + 1) F fun j x s hx hs => ?_
        have := hF (j + 1) x s (by simpa using hx) hs
        rw [show k + (j + 1) = k + 1 + j by omega] at this
        exact this
    have ec : chn (f :: fs) = fs.foldl addN f := by
      show fs.foldl addN (addN [] f) = _
      unfold addN
      rw [if_pos rfl]
    rw [ec]
    rw [List.length_cons] at hl
    have hmul : fs.length * 70001 ≤ 999 * 70001 := Nat.mul_le_mul_right _ (by omega)
    refine e1 fs f hf0.1 (fun g hg => h g (List.mem_cons_of_mem _ hg)) (by omega) 0 _ fun j g s hg hs => ?_
    rw [Nat.zero_add]
    exact bnd (idxO_of hg) (bnd (tmJoin_ hs) rfl)
theorem add1_ {f o : List Nod} (h : o.length + f.length ≤ 1000000) : F_impl_Graph_termByOrder_1 f o = some (addN o f) := by
  unfold addN
  refine bnd (a := if o = [] then f else o ++ f ++ [(15, 0, .empty)]) (stp ?_) rfl
  by_cases h0 : o = []
  · rw [if_pos h0, h0]; rfl
  · have : 0 < o.length := List.length_pos_iff.2 h0
    rw [if_neg h0, dT (by omega)]
    exact cTW rfl (bnd (joinNodes_ (by omega)) rfl)
theorem turn_ {fr to : List Int} {o : List Nod} (hn : fr.Nodup) (h : ∀ w ∈ fr, w ∈ to) (hl : fr.length ≤ 100) (ho : o.length ≤ 5000) : F_impl_Graph_termByOrder_2 fr to o = some ((mvL fr to).foldl addN o) := by
  unfold mvL
  refine bnd (slEqL fr to) (stp ?_)
  by_cases he : fr = to
  · rw [if_pos he, dT he]; rfl
  · rw [if_neg he, dF he]
    have hpl : (plc fr to).length = fr.length := by unfold plc; rw [List.length_map]
    have hp := permT_ (plc_nd hn h) (by rw [hpl]; exact hl)
    have hm : fr.length * fr.length ≤ 100 * 100 := Nat.mul_le_mul hl hl
    rw [hpl] at hp
    exact cTW rfl (bnd (placesIn_ (by omega)) (bnd hp.2.1 (bnd (add1_ (by omega)) rfl)))
theorem layE_impl (e : Edg) {r : Nat} (hr : r ≤ 1000) : ((some (decide ((0 : Int) < (r : Int)))).bind fun a424 =>
          cond a424
          ((F_impl_leafOf 1 (r : Int)).bind fun y428 =>
            (F_impl_joinNodes 16 [(e.1, e.2.1, .empty)] [(y428.1, y428.2.1, y428.2.2)]).bind fun y439 =>
            some y439)
          (some [(e.1, e.2.1, .empty)])) = some (layE e r) := by
  unfold layE
  refine stp ?_
  by_cases h : 0 < r
  · rw [if_pos h, dT (by omega)]
    exact cTW rfl (bnd rfl (bnd (joinNodes_ (by simp)) rfl))
  · rw [if_neg h, dF (by omega)]; rfl
/-- an edge that is too wide makes a term invalid -/
theorem wide_none {e : Edg} {r : Nat} (ha : arB e = true) (hw : 12 < (edI e).length + r) (p q : List Nod) : validB (p ++ layE e r ++ q) = false := by
  have hl := (arB_len ha).1
  have hr : 0 < r := by omega
  have hg : genB e.1 e.2.1 = true ∧ ((edI e).length : Int) = (kd e.1).1 := by
    unfold arB at ha
    simp only [Bool.and_eq_true, decide_eq_true_eq] at ha
    exact ⟨ha.1, ha.2.1⟩
  have hk : rng e.1 3 14 = true := by
    have := hg.1
    unfold genB at this
    rw [Bool.and_eq_true] at this; exact this.1
  have hk := rng_true.1 hk
  have none_ : ∀ S, runT (layE e r) S = none := by
    intro S
    unfold layE
    rw [if_pos hr]
    show (stepT S (e.1, e.2.1, .empty)).bind _ = none
    have s1 : stepT S (e.1, e.2.1, .empty) = if lfB (e.1, e.2.1, .empty) = true then some ((.leaf (e.1, e.2.1, .empty), lfT (e.1, e.2.1, .empty)) :: S) else none := by
      unfold stepT
      rw [if_neg (by dsimp only; omega)]
    rw [s1]
    by_cases h1 : lfB (e.1, e.2.1, .empty) = true
    · rw [if_pos h1]
      show (stepT _ (1, (r : Int), .empty)).bind _ = none
      have s2 : ∀ S', stepT S' (1, (r : Int), .empty) = if lfB (1, (r : Int), .empty) = true then some ((.leaf (1, (r : Int), .empty), ((r : Int), (r : Int))) :: S') else none := by
        intro S'
        unfold stepT
        rw [if_neg (by dsimp only; omega)]
        rfl
      rw [s2]
      by_cases h2 : lfB (1, (r : Int), .empty) = true
      · rw [if_pos h2]
        show (stepT _ (16, 0, .empty)).bind _ = none
        have et : lfT (e.1, e.2.1, ByteArray.empty) = kd e.1 := by
          unfold lfT; rw [if_neg (by dsimp only; omega)]
        have s3 : stepT ((.leaf (1, (r : Int), .empty), ((r : Int), (r : Int))) :: (.leaf (e.1, e.2.1, .empty), lfT (e.1, e.2.1, .empty)) :: S) (16, 0, .empty) = (jn 16 (lfT (e.1, e.2.1, .empty)) ((r : Int), (r : Int))).map fun w => (.node 16 (.leaf (e.1, e.2.1, .empty)) (.leaf (1, (r : Int), .empty)), w) :: S := by
          unfold stepT
          rw [if_pos (by decide), if_pos (by decide)]
        rw [s3, et]
        unfold jn
        rw [if_neg (by decide), if_neg (by dsimp only; omega)]; rfl
      · rw [if_neg h2]; rfl
    · rw [if_neg h1]; rfl
  unfold validB
  rw [runT_app, runT_app]
  have e0 : ((runT p []).bind fun S' => runT (layE e r) S') = none := by
    cases runT p [] with
    | none => rfl
    | some S => exact none_ S
  rw [e0]
  exact Bool.and_false _
end Go.Proofs.YtmchibapkddniaaGreat
namespace Go.Proofs.YtmchibapkddniaaGreat
set_option linter.unusedVariables false

def edD : Edg := (0, 0, [], [])
noncomputable def stepS (E : List Edg) (s : List (List Nod) × List Int) (j : Nat) : List (List Nod) × List Int :=
  (s.1 ++ mvL s.2 (edI (E.getD j edD) ++ rstL s.2 (edI (E.getD j edD))) ++ [layE (E.getD j edD) (rstL s.2 (edI (E.getD j edD))).length], edO (E.getD j edD) ++ rstL s.2 (edI (E.getD j edD)))
noncomputable def stN (E : List Edg) (I : List Int) : Nat → List (List Nod) × List Int
  | 0 => ([], I)
  | j + 1 => stepS E (stN E I j) j
theorem topL_sub : ∀ {R : List Edg} {av av' : List Int}, (∀ w ∈ av, w ∈ av' ∨ w ∉ (R.map edI).flatten) → topL av R → topL av' R
  | [], _, _, _, _ => trivial
  | e :: R, av, av', h, ht => by
    rw [List.map_cons, List.flatten_cons] at h
    refine ⟨fun w hw => ?_, topL_sub (fun w hw => ?_) ht.2⟩
    · rcases h w (ht.1 w hw) with h1 | h1
      · exact h1
      · exact absurd (List.mem_append_left _ hw) h1
    · rcases List.mem_append.1 hw with h1 | h1
      · rcases h w h1 with h2 | h2
        · exact .inl (List.mem_append_left _ h2)
        · exact .inr fun h3 => h2 (List.mem_append_right _ h3)
      · exact .inl (List.mem_append_right _ h1)
structure Cut (n : Nat) (O : List Int) (R : List Edg) (cut : List Int) : Prop where
  nd : (cut ++ (R.map edO).flatten).Nodup
  ni : (R.map edI).flatten.Nodup
  top : topL cut R
  out : ∀ w ∈ cut ++ (R.map edO).flatten, w ∈ O ∨ w ∈ (R.map edI).flatten
  rg : inRg n (cut ++ (R.map edO).flatten)
theorem mem_rst {cut ins : List Int} {w : Int} : w ∈ rstL cut ins ↔ w ∈ cut ∧ w ∉ ins := by
  unfold rstL
  rw [List.mem_filter]
  simp
theorem Cut.step {n : Nat} {O cut : List Int} {e : Edg} {R : List Edg} (h : Cut n O (e :: R) cut) : Cut n O R (edO e ++ rstL cut (edI e)) := by
  obtain ⟨h1, h2, h3, h4, h5⟩ := h
  rw [List.map_cons, List.flatten_cons] at h1 h2 h4 h5
  have sub : (rstL cut (edI e)).Sublist cut := List.filter_sublist
  have pm : (edO e ++ rstL cut (edI e) ++ (R.map edO).flatten).Perm (rstL cut (edI e) ++ (edO e ++ (R.map edO).flatten)) := by
    rw [← List.append_assoc (rstL cut (edI e))]
    exact List.Perm.append_right _ List.perm_append_comm
  have sl : (rstL cut (edI e) ++ (edO e ++ (R.map edO).flatten)).Sublist (cut ++ (edO e ++ (R.map edO).flatten)) := List.Sublist.append_right sub _
  have mem : ∀ w ∈ edO e ++ rstL cut (edI e) ++ (R.map edO).flatten, w ∈ cut ++ (edO e ++ (R.map edO).flatten) := fun w hw => sl.subset (pm.mem_iff.1 hw)
  have no : ∀ w ∈ edO e ++ rstL cut (edI e) ++ (R.map edO).flatten, w ∉ edI e := by
    intro w hw hi
    rcases List.mem_append.1 (pm.mem_iff.1 hw) with k | k
    · exact (mem_rst.1 k).2 hi
    · exact (List.nodup_append.1 h1).2.2 w (h3.1 w hi) w k rfl
  refine ⟨pm.nodup_iff.2 (h1.sublist sl), (List.nodup_append.1 h2).2.1, ?_, fun w hw => ?_, fun w hw => h5 w (mem w hw)⟩
  · refine topL_sub (fun w hw => ?_) h3.2
    rcases List.mem_append.1 hw with k | k
    · by_cases hi : w ∈ edI e
      · exact .inr fun h6 => (List.nodup_append.1 h2).2.2 w hi w h6 rfl
      · exact .inl (List.mem_append_right _ (mem_rst.2 ⟨k, hi⟩))
    · exact .inl (List.mem_append_left _ k)
  · rcases h4 w (mem w hw) with k | k
    · exact .inl k
    · rcases List.mem_append.1 k with k | k
      · exact absurd k (no w hw)
      · exact .inr k
theorem nd_len {n : Nat} {l : List Int} (h : l.Nodup) (hr : inRg n l) : l.length ≤ n := by
  rw [← seenN_nodup hr h]; exact seenN_le n l
theorem Cut.facts {n : Nat} {O cut : List Int} {R : List Edg} (h : Cut n O R cut) : cut.Nodup ∧ cut.length ≤ n := by
  have h1 := (List.nodup_append.1 h.nd).1
  exact ⟨h1, nd_len h1 fun x hx => h.rg x (List.mem_append_left _ hx)⟩
theorem Cut.move {n : Nat} {O cut : List Int} {e : Edg} {R : List Edg} (h : Cut n O (e :: R) cut) : (∀ w ∈ cut, w ∈ edI e ++ rstL cut (edI e)) ∧ (edI e ++ rstL cut (edI e)).length = cut.length := by
  have h1 := (List.nodup_append.1 h.nd).1
  have h2 := h.ni
  rw [List.map_cons, List.flatten_cons] at h2
  have ni := (List.nodup_append.1 h2).1
  have hm : ∀ w, w ∈ cut ↔ w ∈ edI e ++ rstL cut (edI e) := by
    intro w
    rw [List.mem_append, mem_rst]
    constructor
    · intro hw
      by_cases hi : w ∈ edI e
      · exact .inl hi
      · exact .inr ⟨hw, hi⟩
    · rintro (hi | hi)
      · exact h.top.1 w hi
      · exact hi.1
  refine ⟨fun w hw => (hm w).1 hw, ?_⟩
  have nd2 : (edI e ++ rstL cut (edI e)).Nodup := List.nodup_append.2 ⟨ni, h1.sublist List.filter_sublist, fun x hx y hy e' => by
    rw [← e'] at hy; exact (mem_rst.1 hy).2 hx⟩
  have : (edI e ++ rstL cut (edI e)).Perm cut := (List.perm_ext_iff_of_nodup nd2 h1).2 fun w => (hm w).symm
  exact this.length_eq
theorem drop_cons {E : List Edg} {j : Nat} (h : j < E.length) : E.drop j = E.getD j edD :: E.drop (j + 1) := by
  rw [List.drop_eq_getElem_cons h, List.getD_eq_getElem?_getD, List.getElem?_eq_getElem h]; rfl
theorem stN_cut {n : Nat} {O I : List Int} {E : List Edg} (h : Cut n O E I) : ∀ j, j ≤ E.length → Cut n O (E.drop j) (stN E I j).2
  | 0, _ => h
  | j + 1, hj => by
    have ih := stN_cut h j (by omega)
    rw [drop_cons (by omega)] at ih
    exact ih.step
theorem stN_fs (E : List Edg) (I : List Int) : ∀ d j, ∃ gs, (stN E I (j + d)).1 = (stN E I j).1 ++ gs
  | 0, j => ⟨[], by simp⟩
  | d + 1, j => by
    obtain ⟨gs, h⟩ := stN_fs E I d j
    show ∃ gs', (stepS E (stN E I (j + d)) (j + d)).1 = (stN E I j).1 ++ gs'
    unfold stepS
    rw [h]
    simp only [List.append_assoc]
    exact ⟨_, rfl⟩
theorem stN_fine {n : Nat} {O I : List Int} {E : List Edg} (hn : n ≤ 100) (h : Cut n O E I) : ∀ j, j ≤ E.length → (∀ f ∈ (stN E I j).1, 0 < f.length ∧ f.length ≤ 60001) ∧ (stN E I j).1.length ≤ 2 * j
  | 0, _ => ⟨fun f hf => (nomatch hf), Nat.le_refl _⟩
  | j + 1, hj => by
    obtain ⟨h1, h2⟩ := stN_fine hn h j (by omega)
    have hc := stN_cut h j (by omega)
    rw [drop_cons (by omega)] at hc
    have hcf := hc.facts
    have hcm := hc.move
    show (∀ f ∈ (stepS E (stN E I j) j).1, _) ∧ (stepS E (stN E I j) j).1.length ≤ _
    unfold stepS
    dsimp only
    have hmv : (∀ f ∈ mvL (stN E I j).2 (edI (E.getD j edD) ++ rstL (stN E I j).2 (edI (E.getD j edD))), 0 < f.length ∧ f.length ≤ 60001) ∧ (mvL (stN E I j).2 (edI (E.getD j edD) ++ rstL (stN E I j).2 (edI (E.getD j edD)))).length ≤ 1 := by
      unfold mvL
      split
      · exact ⟨fun f hf => (nomatch hf), by simp⟩
      · have hl : (plc (stN E I j).2 (edI (E.getD j edD) ++ rstL (stN E I j).2 (edI (E.getD j edD)))).length ≤ 100 := by unfold plc; rw [List.length_map]; omega
        have hp := permT_ (plc_nd hcf.1 hcm.1) hl
        have hq := Nat.mul_le_mul hl hl
        refine ⟨fun f hf => ?_, by simp⟩
        rw [List.mem_singleton] at hf
        rw [hf]; omega
    refine ⟨fun f hf => ?_, ?_⟩
    · rcases List.mem_append.1 hf with k | k
      · rcases List.mem_append.1 k with k | k
        · exact h1 f k
        · exact hmv.1 f k
      · rw [List.mem_singleton] at k
        have := layE_pos (E.getD j edD) (rstL (stN E I j).2 (edI (E.getD j edD))).length
        rw [k]; omega
    · rw [List.length_append, List.length_append]
      show _ + _ + 1 ≤ _
      have := hmv.2
      omega
noncomputable def totF (E : List Edg) (I O : List Int) : List (List Nod) := (stN E I E.length).1 ++ mvL (stN E I E.length).2 O
noncomputable def totT (E : List Edg) (I O : List Int) : List Nod := if totF E I O = [] then [(1, (I.length : Int), .empty)] else chn (totF E I O)
theorem Cut.fin {n : Nat} {O cut : List Int} (h : Cut n O [] cut) : ∀ w ∈ cut, w ∈ O := fun w hw => by
  rcases h.out w (List.mem_append_left _ hw) with k | k
  · exact k
  · exact absurd k (by simp)
theorem rbTerm_ {n : Nat} {w0 : Int} {E : List Edg} {I O : List Int} (hn : n ≤ 100) (hm : E.length ≤ 60) (ho : O.length ≤ 1000) (har : E.all arB = true) (h : Cut n O E I) : F_spec_rbTerm (w0, E, I, O) (ugL E.length) = some (totT E I O) := by
  have hN : (maxN : Nat) = 1099511627776 := rfl
  have hI := h.facts
  have hfin := stN_cut h E.length (Nat.le_refl _)
  have hfine := stN_fine hn h E.length (Nat.le_refl _)
  rw [List.drop_length] at hfin
  have hff := hfin.facts
  have hmvb : (mvL (stN E I E.length).2 O).length ≤ 1 ∧ ∀ f ∈ mvL (stN E I E.length).2 O, 0 < f.length ∧ f.length ≤ 60001 := by
    unfold mvL
    split
    · exact ⟨by simp, fun f hf => (nomatch hf)⟩
    · have hl : (plc (stN E I E.length).2 O).length ≤ 100 := by unfold plc; rw [List.length_map]; omega
      have hp := permT_ (plc_nd hff.1 hfin.fin) hl
      have hq := Nat.mul_le_mul hl hl
      refine ⟨by simp, fun f hf => ?_⟩
      rw [List.mem_singleton] at hf
      rw [hf]; omega
  refine bnd (own_ (by dsimp only; omega)) (bnd (a := stN E I E.length) ?_ ?_)
  · rw [ugL_len]
    refine forS_is (fun j => stN E I j) fun j hj => ?_
    have hc := stN_cut h j (by omega)
    have hfi := stN_fine hn h j (by omega)
    rw [drop_cons hj] at hc
    have hcf := hc.facts
    have hcm := hc.move
    have heg : E[j]? = some (E.getD j edD) := by rw [List.getD_eq_getElem?_getD, List.getElem?_eq_getElem hj]; rfl
    have hae := List.all_eq_true.1 har _ (mem_of_get heg)
    have hl2 := arB_len hae
    show _ = some (stepS E (stN E I j) j)
    generalize hst : stN E I j = st at hc hfi hcf hcm
    obtain ⟨fs, cut⟩ := st
    generalize he : E.getD j edD = e at heg hc hcm hae hl2
    have er : (rstL cut (edI e)).length ≤ 100 := by
      have := List.length_filter_le (fun w => !decide (w ∈ edI e)) cut
      unfold rstL
      dsimp only at hcf
      omega
    dsimp only at hc hfi hcf hcm
    unfold stepS
    rw [he]
    dsimp only
    have hmvl : (mvL cut (edI e ++ rstL cut (edI e))).length ≤ 1 := by unfold mvL; split <;> simp
    have hto : (edI e ++ rstL cut (edI e)).length ≤ 1000 := by rw [hcm.2]; omega
    have r0 := rbRest_ (cut := cut) (ins := edI e) (by omega)
    have r1 := own_ (l := edI e) (by omega)
    have r2 : appO (edI e) (rstL cut (edI e)) = some (edI e ++ rstL cut (edI e)) := appO_of (by omega)
    have r3 := rbMove_ hcf.1 hcm.1 (by omega) hto
    have r4 : appO fs (mvL cut (edI e ++ rstL cut (edI e))) = some (fs ++ mvL cut (edI e ++ rstL cut (edI e))) := appO_of (by omega)
    have r5 := tmLayE_ e (r := (rstL cut (edI e)).length) (by omega)
    have r6 : appO (fs ++ mvL cut (edI e ++ rstL cut (edI e))) [layE e (rstL cut (edI e)).length] = some (fs ++ mvL cut (edI e ++ rstL cut (edI e)) ++ [layE e (rstL cut (edI e)).length]) := appO_of (by rw [List.length_append]; show _ + 1 ≤ _; omega)
    have r7 := own_ (l := edO e) (by omega)
    have r8 : appO (edO e) (rstL cut (edI e)) = some (edO e ++ rstL cut (edI e)) := appO_of (by omega)
    have r9 : F_spec_tmOne e.1 e.2.1 = some [(e.1, e.2.1, ByteArray.empty)] := rfl
    exact bnd (idxO_of (tabl_get _ hj)) (bnd (idxO_of heg) (bnd r0 (bnd r1 (bnd r2 (bnd r3 (bnd r4 (bnd r9 (bnd r5 (bnd r6 (bnd r7 (bnd r8 rfl)))))))))))
  · have ra : appO (stN E I E.length).1 (mvL (stN E I E.length).2 O) = some (totF E I O) := appO_of (by omega)
    refine bnd (rbMove_ hff.1 hfin.fin (by omega) ho) (bnd ra (stp ?_))
    show cond (decide (((totF E I O).length : Int) = 0)) _ _ = _
    have hal : ∀ f ∈ totF E I O, 0 < f.length ∧ f.length ≤ 70000 := fun f hf => by
      rcases List.mem_append.1 hf with k | k
      · have := hfine.1 f k; omega
      · have := hmvb.2 f k; omega
    unfold totT
    by_cases h0 : totF E I O = []
    · rw [if_pos h0, dT (by rw [h0]; rfl)]; rfl
    · have : 0 < (totF E I O).length := List.length_pos_iff.2 h0
      rw [if_neg h0, dF (by omega)]
      have hlt : (totF E I O).length ≤ 1000 := by unfold totF; rw [List.length_append]; omega
      exact cFW rfl (bnd (tmChain_ hal h0 hlt) rfl)
theorem totT_bad {n : Nat} {E : List Edg} {I O : List Int} (hn : n ≤ 100) (hm : E.length ≤ 60) (har : E.all arB = true) (h : Cut n O E I) {j : Nat} (hj : j < E.length) (hb : 12 < (stN E I j).2.length ∨ 400 < (chn (stN E I j).1).length) : validB (totT E I O) = false := by
  obtain ⟨gs, hg⟩ := stN_fs E I (E.length - (j + 1)) (j + 1)
  rw [show j + 1 + (E.length - (j + 1)) = E.length by omega] at hg
  have hc := stN_cut h j (by omega)
  rw [drop_cons hj] at hc
  have hcm := hc.move
  have heg : E[j]? = some (E.getD j edD) := by rw [List.getD_eq_getElem?_getD, List.getElem?_eq_getElem hj]; rfl
  have hae := List.all_eq_true.1 har _ (mem_of_get heg)
  have e1 : (stN E I (j + 1)).1 = (stN E I j).1 ++ mvL (stN E I j).2 (edI (E.getD j edD) ++ rstL (stN E I j).2 (edI (E.getD j edD))) ++ [layE (E.getD j edD) (rstL (stN E I j).2 (edI (E.getD j edD))).length] := rfl
  have hne : totF E I O ≠ [] := by
    unfold totF
    rw [hg, e1]; simp
  unfold totT
  rw [if_neg hne]
  rcases hb with hb | hb
  · have e2 : totF E I O = ((stN E I j).1 ++ mvL (stN E I j).2 (edI (E.getD j edD) ++ rstL (stN E I j).2 (edI (E.getD j edD)))) ++ [layE (E.getD j edD) (rstL (stN E I j).2 (edI (E.getD j edD))).length] ++ (gs ++ mvL (stN E I E.length).2 O) := by
      unfold totF
      rw [hg, e1]; simp only [List.append_assoc]
    obtain ⟨p, q, e3⟩ := chn_mid ((stN E I j).1 ++ mvL (stN E I j).2 (edI (E.getD j edD) ++ rstL (stN E I j).2 (edI (E.getD j edD)))) (gs ++ mvL (stN E I E.length).2 O) (layE (E.getD j edD) (rstL (stN E I j).2 (edI (E.getD j edD))).length)
    rw [e2, e3]
    have := hcm.2
    rw [List.length_append] at this
    exact wide_none hae (by omega) p q
  · have e2 : ∃ X, totF E I O = (stN E I j).1 ++ X := by
      unfold totF
      rw [hg, e1]
      simp only [List.append_assoc]
      exact ⟨_, rfl⟩
    obtain ⟨X, e2⟩ := e2
    obtain ⟨s, e3⟩ := chn_pre (stN E I j).1 X
    rw [e2, e3]
    unfold validB
    have : rng (((chn (stN E I j).1 ++ s).length : Nat) : Int) 1 400 = false := by
      unfold rng
      rw [List.length_append, show decide ((((chn (stN E I j).1).length + s.length : Nat) : Int) ≤ 400) = false from dF (by omega)]
      exact Bool.and_false _
    rw [this]; rfl
theorem termByOrder_ {n : Nat} {w0 : Int} {E : List Edg} {I O : List Int} (hn : n ≤ 100) (hm : E.length ≤ 60) (hi : I.length ≤ 12) (ho : O.length ≤ 1000) (har : E.all arB = true) (h : Cut n O E I) : F_impl_Graph_termByOrder (w0, E, I, O) (ugL E.length) = some (if validB (totT E I O) = true then (totT E I O, true) else ([], false)) := by
  have hN : (maxN : Nat) = 1099511627776 := rfl
  have hI := h.facts
  have hfin := stN_cut h E.length (Nat.le_refl _)
  rw [List.drop_length] at hfin
  have hff := hfin.facts
  rcases forO_rel (n := (ugL E.length).length) (s := (([] : List Nod), I)) (τ := List Nod × Bool) (fun j s => s = (chn (stN E I j).1, (stN E I j).2) ∧ (chn (stN E I j).1).length ≤ 1300) (fun t => t = ([], false) ∧ ∃ j, j < E.length ∧ (12 < (stN E I j).2.length ∨ 400 < (chn (stN E I j).1).length)) ⟨rfl, by simp [stN, chn]⟩ (f := fun (k22 : Nat) (s307 : (List (Int × Int × ByteArray)) × List Int) =>
      (idxO (ugL E.length) ((k22 : Nat) : Int)).bind fun a325 =>
      (idxO E a325).bind fun a333 =>
      (F_impl_others s307.2 a333.2.2.1).bind fun y345 =>
      ((some (decide ((12 : Int) < ((s307.2.length : Nat) : Int)))).bind fun a362 =>
        cond a362
        (some true)
        ((some (decide ((400 : Int) < ((s307.1.length : Nat) : Int)))).bind fun a365 =>
          some a365)).bind fun (s356 : Bool) =>
      cond s356
      (some (.inr ([], false)))
      ((F_impl_joined [a333.2.2.1, y345]).bind fun y376 =>
        (F_impl_Graph_termByOrder_2 s307.2 y376 s307.1).bind fun y381 =>
        (F_impl_leafOf a333.1 a333.2.1).bind fun y386 =>
        ((some (decide ((0 : Int) < ((y345.length : Nat) : Int)))).bind fun a424 =>
          cond a424
          ((F_impl_leafOf 1 ((y345.length : Nat) : Int)).bind fun y428 =>
            (F_impl_joinNodes 16 [(y386.1, y386.2.1, y386.2.2)] [(y428.1, y428.2.1, y428.2.2)]).bind fun y439 =>
            some y439)
          (some [(y386.1, y386.2.1, y386.2.2)])).bind fun (s417 : List (Int × Int × ByteArray)) =>
        (F_impl_Graph_termByOrder_1 s417 y381).bind fun y446 =>
        (F_impl_cutBehind s307.2 (a333.1, a333.2.1, a333.2.2.1, a333.2.2.2)).bind fun y451 =>
        some (.inl (y446, y451)))) (by
    rintro j s hj ⟨rfl, hlen⟩
    rw [ugL_len] at hj
    have hc := stN_cut h j (by omega)
    rw [drop_cons hj] at hc
    have hcf := hc.facts
    have hcm := hc.move
    have heg : E[j]? = some (E.getD j edD) := by rw [List.getD_eq_getElem?_getD, List.getElem?_eq_getElem hj]; rfl
    have hae := List.all_eq_true.1 har _ (mem_of_get heg)
    have hl2 := arB_len hae
    have estep : stN E I (j + 1) = stepS E (stN E I j) j := rfl
    rw [estep]
    generalize hst : stN E I j = st at hc hlen hcf hcm
    obtain ⟨fs, cut⟩ := st
    generalize he : E.getD j edD = e at heg hc hcm hae hl2
    have er : (rstL cut (edI e)).length ≤ 100 := by
      have := List.length_filter_le (fun w => !decide (w ∈ edI e)) cut
      unfold rstL
      dsimp only at hcf
      omega
    dsimp only at hc hlen hcf hcm
    unfold stepS
    rw [he]
    dsimp only
    by_cases hbad : 12 < cut.length ∨ 400 < (chn fs).length
    · right
      refine ⟨([], false), bnd (idxO_of (tabl_get _ hj)) (bnd (idxO_of heg) (bnd (othersR_ (by omega)) (bnd (a := true) (stp ?_) (cTW rfl rfl)))), rfl, j, hj, by rw [hst]; exact hbad⟩
      by_cases h1 : 12 < cut.length
      · exact cTW (dT (by omega)) rfl
      · exact cFW (dF (by omega)) (stp (congrArg some (dT (by omega))))
    · left
      have eo : chn (fs ++ mvL cut (edI e ++ rstL cut (edI e)) ++ [layE e (rstL cut (edI e)).length]) = addN ((mvL cut (edI e ++ rstL cut (edI e))).foldl addN (chn fs)) (layE e (rstL cut (edI e)).length) := by
        rw [chn_snoc, chn_app]
      have hmv : ∀ f ∈ mvL cut (edI e ++ rstL cut (edI e)), f.length ≤ 865 := by
        intro f hf
        unfold mvL at hf
        split at hf
        · exact nomatch hf
        · rw [List.mem_singleton] at hf
          have hl : (plc cut (edI e ++ rstL cut (edI e))).length ≤ 12 := by unfold plc; rw [List.length_map]; omega
          have hp := permT_ (plc_nd hcf.1 hcm.1) (by omega)
          have hq := Nat.mul_le_mul hl hl
          rw [hf]; omega
      have hmvl : (mvL cut (edI e ++ rstL cut (edI e))).length ≤ 1 := by unfold mvL; split <;> simp
      have hf1 := chn_len 865 (mvL cut (edI e ++ rstL cut (edI e))) (chn fs) hmv
      have hq2 := Nat.mul_le_mul_right (865 + 1) hmvl
      have hly := layE_pos e (rstL cut (edI e)).length
      have hf2 := addN_len ((mvL cut (edI e ++ rstL cut (edI e))).foldl addN (chn fs)) (layE e (rstL cut (edI e)).length)
      have r0 := othersR_ (cut := cut) (ins := edI e) (by omega)
      have r1 := joined2_ (a := edI e) (b := rstL cut (edI e)) (by omega)
      have r2 := turn_ (o := chn fs) hcf.1 hcm.1 (by omega) (by omega)
      have r3 := layE_impl e (r := (rstL cut (edI e)).length) (by omega)
      have r4 := add1_ (o := (mvL cut (edI e ++ rstL cut (edI e))).foldl addN (chn fs)) (f := layE e (rstL cut (edI e)).length) (by omega)
      have r5 := joined2_ (a := edO e) (b := rstL cut (edI e)) (by omega)
      have r6 : F_impl_cutBehind cut e = some (edO e ++ rstL cut (edI e)) := bnd r0 (bnd r5 rfl)
      have r7 : F_impl_leafOf e.1 e.2.1 = some (e.1, e.2.1, ByteArray.empty) := rfl
      refine ⟨(addN ((mvL cut (edI e ++ rstL cut (edI e))).foldl addN (chn fs)) (layE e (rstL cut (edI e)).length), edO e ++ rstL cut (edI e)), ?_, by rw [eo], by rw [eo]; omega⟩
      exact bnd (idxO_of (tabl_get _ hj)) (bnd (idxO_of heg) (bnd r0 (bnd (a := false) (stp (cFW (dF (by omega)) (stp (congrArg some (dF (by omega)))))) (cFW rfl (bnd r1 (bnd r2 (bnd r7 (bnd r3 (bnd r4 (bnd r6 rfl))))))))))) with ⟨r, h1, rfl, h2⟩ | ⟨t, h1, rfl, j, hj, hb⟩
  · rw [ugL_len] at h2
    refine sqW h1 ?_
    rw [ugL_len]
    show (F_impl_Graph_termByOrder_2 (stN E I E.length).2 O (chn (stN E I E.length).1)).bind _ = _
    refine bnd (turn_ hff.1 hfin.fin (by omega) (by omega)) ?_
    have ec : (mvL (stN E I E.length).2 O).foldl addN (chn (stN E I E.length).1) = chn (totF E I O) := by unfold totF; rw [chn_app]
    rw [ec]
    have hfine := stN_fine hn h E.length (Nat.le_refl _)
    have hpos : ∀ f ∈ totF E I O, 0 < f.length := fun f hf => by
      rcases List.mem_append.1 hf with k | k
      · exact (hfine.1 f k).1
      · unfold mvL at k
        split at k
        · exact nomatch k
        · rw [List.mem_singleton] at k
          have hl : (plc (stN E I E.length).2 O).length ≤ 100 := by unfold plc; rw [List.length_map]; omega
          rw [k]; exact (permT_ (plc_nd hff.1 hfin.fin) hl).2.2.1
    refine bnd (a := totT E I O) (stp ?_) ?_
    · unfold totT
      by_cases h0 : totF E I O = []
      · rw [if_pos h0, (chn_nil hpos).2 h0]; rfl
      · have hc0 : chn (totF E I O) ≠ [] := fun hc => h0 ((chn_nil hpos).1 hc)
        have : 0 < (chn (totF E I O)).length := List.length_pos_iff.2 hc0
        rw [if_neg h0, dF (by omega)]; rfl
    · refine bnd (a := if validB (totT E I O) = true then (totT E I O, true) else ([], false)) ?_ rfl
      refine bnd (isValid_ (totT E I O)) (stp ?_)
      by_cases hv : validB (totT E I O) = true
      · rw [if_pos hv, hv]; rfl
      · rw [if_neg hv]
        rw [Bool.not_eq_true] at hv
        rw [hv]; rfl
  · refine sqW h1 ?_
    rw [totT_bad hn hm har h hj hb]; rfl
theorem mono_cut {g : Gra} {n : Nat} (hg : GOk g n) (hm : Mono g) : Cut n g.2.2.2 g.2.1 g.2.2.1 := by
  refine ⟨hm.on, (List.nodup_append.1 hm.en).2.1, hm.top, fun w hw => ?_, hg.org⟩
  rcases List.mem_append.1 ((hm.oe w).1 hw) with k | k
  · exact .inl k
  · exact .inr k
theorem mono_one {g : Gra} {n : Nat} (hg : GOk g n) (hm : Mono g) : permP n (origins g) ∧ permP n (ends g) := by
  have cov : ∀ k : Nat, k < n → (k : Int) ∈ origins g := by
    intro k hk
    have h := mem_allW.1 (hg.cov k hk)
    have : (k : Int) ∈ origins g ∨ (k : Int) ∈ ends g := by
      rcases h with h | h | ⟨e, he, h | h⟩
      · exact .inl (List.mem_append_left _ h)
      · exact .inr (List.mem_append_left _ h)
      · exact .inr (List.mem_append_right _ (List.mem_flatten.2 ⟨_, List.mem_map.2 ⟨e, he, rfl⟩, h⟩))
      · exact .inl (List.mem_append_right _ (List.mem_flatten.2 ⟨_, List.mem_map.2 ⟨e, he, rfl⟩, h⟩))
    rcases this with h | h
    · exact h
    · exact (hm.oe _).2 h
  have one : ∀ L : List Int, inRg n L → L.Nodup → (∀ k : Nat, k < n → (k : Int) ∈ L) → permP n L := by
    intro L h1 h2 h3
    refine ⟨?_, h1, h2⟩
    rw [← seenN_nodup h1 h2]
    exact seenN_full.2 h3
  exact ⟨one _ hg.org hm.on cov, one _ hg.ends hm.en fun k hk => (hm.oe _).1 (cov k hk)⟩
theorem flat_names : ∀ {T : Tr} {w : Int × Int}, typT T = some w → ∀ n ∈ flat T, n.2.2 = ByteArray.empty
  | .leaf n, w, h, x, hx => by
    have h1 := (typ_leaf h).1
    unfold lfB at h1
    rw [Bool.and_eq_true, decide_eq_true_eq] at h1
    obtain rfl : x = n := by simpa [flat] using hx
    exact h1.1
  | .node k a b, w, h, x, hx => by
    obtain ⟨_, u, v, h1, h2, _⟩ := typ_node h
    have hx : x ∈ flat a ++ flat b ++ [(k, 0, ByteArray.empty)] := by simpa [flat] using hx
    rcases List.mem_append.1 hx with k1 | k1
    · rcases List.mem_append.1 k1 with k1 | k1
      · exact flat_names h1 x k1
      · exact flat_names h2 x k1
    · rw [List.mem_singleton] at k1; rw [k1]
theorem nTerm_le {t : List Nod} (h : validB t = true) : nTerm t ≤ 1048576 := by
  obtain ⟨T, w, rfl, hT, hl⟩ := validB_tree h
  have h1 : tot nNode (flat T) ≤ (flat T).length * 0 := tot_le fun n hn => by
    unfold nNode
    rw [flat_names hT n hn]; exact Nat.le_refl _
  unfold nTerm nNodeS
  omega
theorem layout_main (t : List Nod) : ∃ W : List Nod × Bool, F_spec_LayoutTerm t = some W ∧ F_impl_LayoutTerm t = some W ∧ nTerm W.1 ≤ 1048576 := by
  have hN : (maxN : Nat) = 1099511627776 := rfl
  cases hw : (wGraphOf t).2 with
  | false =>
    refine ⟨([], false), bnd (specGraphOf t) (stp ?_), bnd (implGraphOf t) (stp ?_), by decide⟩
    · rw [hw]; rfl
    · rw [hw]; rfl
  | true =>
    have hv : validB t = true := by
      refine Decidable.byContradiction fun h => ?_
      unfold wGraphOf at hw
      rw [dif_neg h] at hw; cases hw
    obtain ⟨T, w, rfl, hT, hl, hg⟩ := wGraphOf_eq hv
    rw [hg] at hw
    obtain ⟨g1, g2⟩ := made_ok hT hw
    have hm := made_mono hT hw
    obtain ⟨n, hG⟩ := gOk_facts g1
    have hcut := mono_cut hG hm
    have hord : ordE (made T).1.2.1 := topL_lt hm.top hm.on
    have heo := edgeOrder_ hG.e60 hord
    have hho := hgOrder_ hG.e60 (fun e he => by have := (arB_len (List.all_eq_true.1 hG.ar e he)).1; omega) hord
    have hi12 := hG.i12; have ho12 := hG.o12; have hn := hG.n100; have he60 := hG.e60; have har := hG.ar
    generalize hgg : (made T).1 = g at g1 hG hcut heo hho hi12 ho12 hn he60 har
    obtain ⟨w0, E, I, O⟩ := g
    dsimp only at hcut heo hho hi12 ho12 he60 har
    have e1 := rbTerm_ (w0 := w0) hn he60 (by omega) har hcut
    have e2 := termByOrder_ (w0 := w0) hn he60 hi12 (by omega) har hcut
    have hmono : F_spec_hgMono (w0, E, I, O) = some true := by
      have hmn := mono_one hG (by rw [← hgg]; exact hm)
      obtain rfl : w0 = (n : Int) := hG.w
      have ti := hG.ti; have to := hG.to
      dsimp only at ti to
      refine bnd (hgCounts_ (E := E) (I := I) (O := O) (by omega) hG.i hG.o hG.e (by omega)) (bnd (a := true) ?_ rfl)
      have x1 : (fun k : Nat => ((I.count (k : Int) + cntE E edO k : Nat) : Int)) = fun k : Nat => (((origins ((n : Int), E, I, O)).count (k : Int) : Nat) : Int) := by
        funext k; unfold origins cntE; rw [List.count_append]
      have x2 : (fun k : Nat => ((O.count (k : Int) + cntE E edI k : Nat) : Int)) = fun k : Nat => (((ends ((n : Int), E, I, O)).count (k : Int) : Nat) : Int) := by
        funext k; unfold ends cntE; rw [List.count_append]
      rw [x1, x2]
      have y1 : ∀ L, inRg n L → permP n L → ((tabl n fun k => ((L.count (k : Int) : Nat) : Int)).all fun x => rng x 1 1) = true := by
        intro L h1 h2
        rw [ones_perm h1]
        unfold diffB
        rw [dT h2.1, wOk_of h2.2.1, dT h2.2.2]; rfl
      refine bnd (l1All _ _ _) ?_
      rw [y1 _ hG.org hmn.1]
      refine cTW rfl (bnd (l1All _ _ _) ?_)
      rw [y1 _ hG.ends hmn.2]
    have hval : F_spec_hgValid (w0, E, I, O) = some true := (hgValid_ _).trans (by rw [g1])
    have hplain : F_spec_rbPlain (w0, E, I, O) = some true := by
      refine bnd (a := true) (bnd (a := true) (bnd (a := true) (bnd hval (cTW rfl (bnd (a := true) (bnd hho (stp ?_)) rfl))) rfl) (cTW rfl (bnd hmono rfl))) rfl
      rw [ugL_len, dT rfl]
    refine ⟨if validB (totT E I O) = true then (totT E I O, true) else ([], false), ?_, ?_, ?_⟩
    · refine bnd (specGraphOf (flat T)) (stp ?_)
      rw [hg, hw]
      refine cFW rfl ?_
      rw [hgg]
      obtain ⟨x, hx, _⟩ := lbScan_ (totT E I O)
      refine bnd (bnd hplain (stp (cFW rfl (bnd hho (bnd e1 (bnd (a := if validB (totT E I O) = true then (totT E I O, true) else ([], false)) (bnd (tmScan_eq hx) (stp ?_)) rfl)))))) rfl
      by_cases hb : validB (totT E I O) = true
      · rw [if_pos hb, hb]; rfl
      · rw [if_neg hb]
        rw [Bool.not_eq_true] at hb
        rw [hb]; rfl
    · refine bnd (implGraphOf (flat T)) (stp ?_)
      rw [hg, hw]
      refine cFW rfl ?_
      rw [hgg]
      exact bnd heo (bnd e2 rfl)
    · by_cases hb : validB (totT E I O) = true
      · rw [if_pos hb]
        exact nTerm_le hb
      · rw [if_neg hb]; decide
noncomputable def wLayoutTerm (t : List Nod) : List Nod × Bool := (F_spec_LayoutTerm t).getD ([], false)
theorem specLayoutTerm (t : List Nod) : F_spec_LayoutTerm t = some (wLayoutTerm t) := by
  obtain ⟨W, h1, _, _⟩ := layout_main t
  unfold wLayoutTerm; rw [h1]; rfl
theorem implLayoutTerm (t : List Nod) : F_impl_LayoutTerm t = some (wLayoutTerm t) := by
  obtain ⟨W, h1, h2, _⟩ := layout_main t
  unfold wLayoutTerm; rw [h1, h2]; rfl
theorem boundLayoutTerm_0 (t : List Nod) : nTerm (wLayoutTerm t).1 ≤ 1048576 := by
  obtain ⟨W, h1, _, h3⟩ := layout_main t
  unfold wLayoutTerm; rw [h1]; exact h3
end Go.Proofs.YtmchibapkddniaaGreat
namespace Go.Proofs.YtmchibapkddniaaGreat
set_option linter.unusedVariables false
theorem lawN_LayoutTerm (a0 : TyTerm) (i0 : Nice.ok a0) : F_laws_FnExactLayoutTerm a0 = some true := by
  have hbig : bigN = 4611686018427387904 := rfl
  refine bnd (z_Term a0 1048576 (by omega) (by rw [hbig]; omega) (niceLensTerm i0)) (stp ?_)
  by_cases gaT : (nTerm a0 : Int) ≤ 1048576
  case neg => rw [if_neg gaT]; exact cTW (dT (by omega)) rfl
  rw [if_pos gaT]
  refine cFW (dF (by omega)) ?_
  have haT : nTerm a0 ≤ 1048576 := by omega
  first
  | refine bnd (t_Term a0 haT) (bnd (specLayoutTerm a0) ?_)
  | refine bnd (bnd (t_Term a0 haT) (bnd (specLayoutTerm a0) rfl)) ?_
  refine bnd (t_Term a0 haT) ?_
  refine bnd (implLayoutTerm a0) ?_
  have b0 : nTerm (wLayoutTerm a0).1 ≤ 1048576 := boundLayoutTerm_0 a0
  have cb0 := cTerm_le (wLayoutTerm a0).1
  refine bnd (a := false) (bnd (e_Term _ b0) (stp (cFW rfl (stp (congrArg some (nT (dT rfl))))))) (cFW rfl ?_)
  refine bnd (t_Term _ haT) (bnd (e_Term _ haT) (stp (cFW rfl ?_)))
  have caT := cTerm_le a0
  refine bnd (m_Term a0 _ (by omega) (by omega)) ?_
  refine bnd (a := false) (stp (cFW (dF (by simp only [mk_Term_snd]; omega)) (bnd (e_Term _ b0) (stp (cFW rfl (stp (congrArg some (nT (dT rfl))))))))) (cFW rfl ?_)
  refine bnd (m_Term (wLayoutTerm a0).1 _ (by omega) (by omega)) ?_
  refine bnd (h_Term (wLayoutTerm a0).1 _ (by omega) (by omega)) (stp (cFW (dF (by omega)) ?_))
  refine stp (cFW (nT (dT (by simp only [mk_Term_snd]))) ?_)
  first
  | refine bnd (t_Term a0 haT) (bnd (implLayoutTerm a0) ?_)
  | refine bnd (bnd (t_Term a0 haT) (bnd (implLayoutTerm a0) rfl)) ?_
  refine bnd (a := false) (bnd (e_Term _ b0) (stp (cFW rfl (stp (congrArg some (nT (dT rfl))))))) (cFW rfl ?_)
  refine bnd (h_Term (wLayoutTerm a0).1 _ (by omega) (by omega)) (stp (cFW (dF (by omega)) ?_))
  refine stp (cFW (nT (dT (by simp only [mk_Term_snd]))) ?_)
  rfl
end Go.Proofs.YtmchibapkddniaaGreat
