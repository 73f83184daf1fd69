/-
  Plain laws: the system of a graph in both. No program in sight. No condition.
-/
import Derived.Test.YtalmpcgbghnhpaaGreatDoorZP71
import Derived.Test.YtalmpcgbghnhpaaGreatDoorZP39
namespace Go.Proofs.YtalmpcgbghnhpaaGreatDoor
open Classical in
noncomputable def lsOf (p : Int) (W : Nat) (e : Edg) : List (List (Int × Int)) := if h : ∃ Ls, RowsOf p W e Ls then Classical.choose h else []
theorem lsOf_ok {p : Int} {W : Nat} {e : Edg} (h : ∃ Ls, RowsOf p W e Ls) : RowsOf p W e (lsOf p W e) := by
  unfold lsOf; rw [dif_pos h]; exact Classical.choose_spec h
noncomputable def edRows (p : Int) (c W : Nat) (e : Edg) : List (List Int) := (lsOf p W e).map (wide p c W)
def ifRow (p : Int) (c W : Nat) (ends : List Int) (k : Nat) : List Int := sumRow p (c + W) [((k : Nat), 1), ((c : Int) + ends.getD k 0, -1)]
def ifRows (p : Int) (W : Nat) (ends : List Int) : List (List Int) := (List.range ends.length).map (ifRow p ends.length W ends)
noncomputable def sysRows (p : Int) (W : Nat) (E : List Edg) (ends : List Int) : List (List Int) := ifRows p W ends ++ (E.map (edRows p ends.length W)).flatten
noncomputable def sysW (p : Int) (g : Gra) : Int × Int × List (List Int) := (((g.2.2.1 ++ g.2.2.2).length : Nat), g.1, sysRows p g.1.toNat g.2.1 (g.2.2.1 ++ g.2.2.2))
theorem edRows_len {p : Int} {c W : Nat} {e : Edg} (h : ∃ Ls, RowsOf p W e Ls) : (edRows p c W e).length ≤ 2 := by
  unfold edRows; rw [List.length_map]; exact (lsOf_ok h).len
theorem flat_len {p : Int} {c W : Nat} : ∀ {E : List Edg}, (∀ e ∈ E, ∃ Ls, RowsOf p W e Ls) → ((E.map (edRows p c W)).flatten).length ≤ 2 * E.length
  | [], _ => by simp
  | e :: E, h => by
    have ih := flat_len (c := c) (E := E) fun x hx => h x (.tail _ hx)
    have := edRows_len (c := c) (h e (.head _))
    rw [List.map_cons, List.flatten_cons, List.length_append, List.length_cons]; omega
/-- a loop that sets the rows of one edge after the other -/
theorem edge_loop {p : Int} {c W : Nat} {E : List Edg} {f : Nat → List (List Int) → Option (List (List Int))} {s : List (List Int)} (hE : E.length ≤ 60) (hs : s.length ≤ 1000) (hR : ∀ e ∈ E, ∃ Ls, RowsOf p W e Ls)
    (h : ∀ j e s', E[j]? = some e → s'.length ≤ 2000 → f j s' = some (s' ++ edRows p c W e)) : forS f E.length 0 s = some (s ++ (E.map (edRows p c W)).flatten) := by
  have := forS_is (f := f) (n := E.length) (fun j => s ++ ((E.take j).map (edRows p c W)).flatten) (fun j hj => by
    have hl := flat_len (c := c) (E := E.take j) fun x hx => hR x (List.mem_of_mem_take hx)
    have : (E.take j).length ≤ 60 := by rw [List.length_take]; omega
    rw [h j E[j] _ (List.getElem?_eq_getElem hj) (by rw [List.length_append]; omega)]
    rw [List.take_add_one, List.getElem?_eq_getElem hj, List.map_append, List.flatten_append, List.append_assoc]
    simp)
  simpa using this
theorem end_ok {W : Nat} {ends : List Int} (h : ∀ x ∈ ends, 0 ≤ x ∧ x < (W : Int)) {k : Nat} (hk : k < ends.length) : ends[k]? = some (ends.getD k 0) ∧ 0 ≤ ends.getD k 0 ∧ ends.getD k 0 < (W : Int) := by
  have e : ends.getD k 0 = ends[k] := by simp [hk]
  rw [e]
  exact ⟨List.getElem?_eq_getElem hk, h _ (List.getElem_mem hk)⟩
theorem ifRow_LOk {c W : Nat} {ends : List Int} (hc : ends.length = c) (h : ∀ x ∈ ends, 0 ≤ x ∧ x < (W : Int)) {k : Nat} (hk : k < c) : LOk (c + W) [((k : Nat), 1), ((c : Int) + ends.getD k 0, -1)] := by
  obtain ⟨_, h1, h2⟩ := end_ok h (k := k) (by omega)
  exact LOk_mk (is := [(c : Int) + ends.getD k 0]) (by push_cast; omega) (by intro x hx; obtain rfl := List.mem_singleton.1 hx; push_cast; omega) (by simp) (by omega)
theorem ifRow_set {p : Int} {c W : Nat} {ends : List Int} (hp : 2 ≤ p ∧ p ≤ 97) (hc : ends.length = c) (hn : c + W ≤ 100000) (h : ∀ x ∈ ends, 0 ≤ x ∧ x < (W : Int)) {k : Nat} (hk : k < c) :
    (F_impl_unit ((c : Int) + (W : Int)) (k : Int)).bind (fun y130 => (addO (c : Int) (ends.getD k 0)).bind fun a135 => (subO p 1).bind fun a137 => setO y130 a135 a137) = some (ifRow p c W ends k) := by
  have hm : maxN = 1099511627776 := rfl
  obtain ⟨_, h1, h2⟩ := end_ok h (k := k) (by omega)
  obtain ⟨m, hmm⟩ := Int.eq_ofNat_of_zero_le h1
  have hu : F_impl_unit ((c : Int) + (W : Int)) (k : Int) = some (tabl (c + W) fun j => if j = k then 1 else 0) := by
    rw [show (c : Int) + (W : Int) = ((c + W : Nat) : Int) by push_cast; rfl]
    refine bnd (zeros_ (by omega)) ?_
    rw [tabl_rep]
    exact bnd (tabl_setO _ _ (by omega)) rfl
  refine bnd hu (bnd (addO_of (by omega) (by omega)) (bnd (subO_of (by omega) (by omega)) ?_))
  rw [show (c : Int) + ends.getD k 0 = ((c + m : Nat) : Int) by rw [hmm]; push_cast; rfl, tabl_setO _ _ (by omega)]
  refine congrArg some (tabl_ext fun j _ => ?_)
  show _ = ((if ((k : Nat) : Int) = (j : Int) then (1 : Int) else 0) + ((if (c : Int) + ends.getD k 0 = (j : Int) then (-1 : Int) else 0) + 0)) % p
  rw [hmm]
  by_cases hj : j = c + m
  · subst hj
    rw [if_pos rfl, if_neg (by omega), if_pos (by push_cast; omega), Int.zero_add, Int.add_zero, m1_mod hp]
  · have e3 : ¬ ((c : Int) + (m : Int) = (j : Int)) := by omega
    rw [if_neg hj, if_neg e3]
    by_cases hjk : j = k
    · subst hjk
      rw [if_pos rfl, if_pos rfl]; exact (one_mod hp).symm
    · rw [if_neg hjk, if_neg (by omega)]; exact (Int.zero_emod p).symm
theorem both_sy {p : Int} {W : Nat} {E : List Edg} {I O : List Int} (hp : 2 ≤ p ∧ p ≤ 97) (hg : gOk ((W : Int), E, I, O) = true) (hv : ∀ e ∈ E, e.2.1 < p ∧ e.1 ≠ 8 ∧ e.1 ≠ 14) :
    F_spec_syOf p ((W : Int), E, I, O) = some (sysW p ((W : Int), E, I, O)) ∧ F_impl_systemOfGraph p ((W : Int), E, I, O) = some (sysW p ((W : Int), E, I, O)) := by
  have hm : maxN = 1099511627776 := rfl
  unfold gOk wOk at hg
  simp only [Bool.and_eq_true, decide_eq_true_eq, List.all_eq_true] at hg
  obtain ⟨g1, g2, g3, g4, g5, g6, g7, _⟩ := hg
  have hW := rng_true.1 g1
  have hW : W ≤ 100 := by omega
  have hends : ∀ x ∈ I ++ O, 0 ≤ x ∧ x < (W : Int) := fun x hx => by
    rcases List.mem_append.1 hx with hx | hx
    · have := rng_true.1 (g5 x hx); omega
    · have := rng_true.1 (g6 x hx); omega
  have hR : ∀ e ∈ E, ∃ Ls, RowsOf p W e Ls := fun e he => edge_rows hp (by omega) (g7 e he) (hv e he).1 (hv e he).2
  obtain ⟨ends, he⟩ : ∃ l, l = I ++ O := ⟨_, rfl⟩
  obtain ⟨c, hc⟩ : ∃ c, c = ends.length := ⟨_, rfl⟩
  have hc24 : c ≤ 24 := by rw [hc, he, List.length_append]; omega
  have hen : ∀ x ∈ ends, 0 ≤ x ∧ x < (W : Int) := by rw [he]; exact hends
  have hs : sysW p ((W : Int), E, I, O) = ((c : Int), (W : Int), ifRows p W ends ++ (E.map (edRows p c W)).flatten) := by
    unfold sysW sysRows
    simp only [Int.toNat_natCast]
    rw [← he, ← hc]
  have hif : (ifRows p W ends).length = c := by unfold ifRows; simp [hc]
  rw [hs]
  constructor
  · refine bnd (own_ (by show I.length ≤ _; omega)) (bnd (appO_of (by show I.length + O.length ≤ _; omega)) ?_)
    show (forS _ (I ++ O).length 0 []).bind _ = _
    rw [← he]
    have l1 := forS_map (f := fun (k25 : Nat) (s188 : List (List Int)) =>
      (idxO ends ((k25 : Nat) : Int)).bind fun a205 =>
      (subO p 1).bind fun a208 =>
      (addO ((ends.length : Nat) : Int) (W : Int)).bind fun a210 =>
      (addO ((ends.length : Nat) : Int) a205).bind fun a212 =>
      (F_spec_dnRow p a210 [((k25 : Nat) : Int), a212] [1, a208]).bind fun y240 =>
      (appO s188 [y240]).bind fun a248 =>
      some a248) (ifRow p c W ends) (List.range c) [] (by simp; omega) (fun j a s' hj hs' => by
        obtain ⟨hjc, rfl⟩ : j < c ∧ a = j := by
          obtain ⟨q1, q2⟩ := List.getElem?_eq_some_iff.1 hj
          rw [List.getElem_range] at q2
          exact ⟨by simpa using q1, q2.symm⟩
        obtain ⟨e1, e2, e3⟩ := end_ok hen (k := a) (by omega)
        have d := dnRow2 (at_ := [((a : Nat) : Int), (c : Int) + ends.getD a 0]) (vals := [1, p - 1]) hp (W := c + W) (by omega) _ rfl (by show [(1 : Int), p - 1] = [1 % p, (-1) % p]; rw [one_mod hp, m1_mod hp]) (ifRow_LOk hc.symm hen hjc)
        rw [← hc]
        refine bnd (idxO_of e1) (bnd (subO_of (by omega) (by omega)) (bnd (addO_of (by omega) (by omega)) (bnd (addO_of (by omega) (by omega)) (bnd d (bnd (appO_of (by simp at hs' ⊢; omega)) rfl)))))
        )
    rw [List.length_range, List.nil_append, ← hc] at l1
    refine bnd (by rw [← hc]; exact l1) ?_
    have hl : (List.range c).map (ifRow p c W ends) = ifRows p W ends := by unfold ifRows; rw [← hc]
    rw [hl]
    refine bnd (edge_loop (p := p) (c := c) (W := W) g2 (by rw [hif]; omega) hR fun j e s' hj hs' => ?_) (by rw [← hc])
    have hr := lsOf_ok (hR e (mem_of_get hj))
    refine bnd (idxO_of hj) (bnd hr.spec ?_)
    have l2 := forS_map (f := fun (k652 : Nat) (s750 : List (List Int)) =>
          (idxO ((lsOf p W e).map (sumRow p W)) ((k652 : Nat) : Int)).bind fun a766 =>
          (makeO ((ends.length : Nat) : Int) (0 : Int)).bind fun a771 =>
          (appO a771 a766).bind fun a776 =>
          (appO s750 [a776]).bind fun a784 =>
          some a784) (wide p c W) (lsOf p W e) s' (by have := hr.len; omega) (fun i L s2 hi hs2 => by
        have hil := (List.getElem?_eq_some_iff.1 hi).1
        have := hr.len
        rw [← hc]
        refine bnd (idxO_of (by rw [List.getElem?_map, hi]; rfl)) (bnd (makeO_of _ (by omega)) (bnd (appO_of (by simp [sumRow, tabl_len]; omega)) (bnd (appO_of (by simp; omega)) rfl))))
    rw [List.length_map]
    exact bnd l2 rfl
  · refine bnd (joined_ (l := [I, O]) (by simp; omega)) ?_
    have hj : [I, O].flatten = ends := by rw [he]; simp
    show (forS _ ([I, O].flatten).length 0 []).bind _ = _
    rw [hj]
    have l1 := forS_map (f := fun (k24 : Nat) (s108 : List (List Int)) =>
      (idxO ends ((k24 : Nat) : Int)).bind fun a125 =>
      (F_impl_System_size (((ends.length : Nat) : Int), (W : Int), s108)).bind fun y127 =>
      (F_impl_unit y127 ((k24 : Nat) : Int)).bind fun y130 =>
      (addO ((ends.length : Nat) : Int) a125).bind fun a135 =>
      (subO p 1).bind fun a137 =>
      (setO y130 a135 a137).bind fun a145 =>
      (appO s108 [a145]).bind fun a151 =>
      some a151) (ifRow p c W ends) (List.range c) [] (by simp; omega) (fun j a s' hj hs' => by
        obtain ⟨hjc, rfl⟩ : j < c ∧ a = j := by
          obtain ⟨q1, q2⟩ := List.getElem?_eq_some_iff.1 hj
          rw [List.getElem_range] at q2
          exact ⟨by simpa using q1, q2.symm⟩
        obtain ⟨e1, e2, e3⟩ := end_ok hen (k := a) (by omega)
        have d := ifRow_set hp hc.symm (by omega) hen hjc
        rw [← hc]
        refine bnd (idxO_of e1) (bnd (a := (c : Int) + (W : Int)) (bnd (addO_of (by show _ ≤ (c : Int) + (W : Int); omega) (by show (c : Int) + (W : Int) ≤ _; omega)) rfl) ?_)
        obtain ⟨y, h1, h2⟩ := bindS d
        obtain ⟨y2, h3, h4⟩ := bindS h2
        obtain ⟨y3, h5, h6⟩ := bindS h4
        exact bnd h1 (bnd h3 (bnd h5 (bnd h6 (bnd (appO_of (by simp at hs' ⊢; omega)) rfl)))))
    rw [List.length_range, List.nil_append, ← hc] at l1
    refine bnd (by rw [← hc]; exact l1) ?_
    have hl : (List.range c).map (ifRow p c W ends) = ifRows p W ends := by unfold ifRows; rw [← hc]
    rw [hl]
    refine bnd (edge_loop (p := p) (c := c) (W := W) g2 (by rw [hif]; omega) hR fun j e s' hj hs' => ?_) (by rw [← hc])
    have hr := lsOf_ok (hR e (mem_of_get hj))
    obtain ⟨ms, i1, i2, i3⟩ := hr.impl
    refine bnd (idxO_of hj) (bnd i1 ?_)
    have l2 := forS_map (f := fun (k1885 : Nat) (s2490 : List (List Int)) =>
          (idxO ms ((k1885 : Nat) : Int)).bind fun a2506 =>
          (F_impl_System_size (((ends.length : Nat) : Int), (W : Int), s2490)).bind fun y2510 =>
          (F_impl_zeros y2510).bind fun y2513 =>
          ((kvO (fun (s2656 : List Int) (k2610 v2611 : Int) =>
                (addO ((ends.length : Nat) : Int) k2610).bind fun a2670 =>
                (F_impl_mod p v2611).bind fun y2672 =>
                (setO s2656 a2670 y2672).bind fun a2681 =>
                some a2681) a2506.kvs y2513).bind fun (s2686 : List Int) =>
            some s2686).bind fun (s2600 : List Int) =>
          (appO s2490 [s2600]).bind fun a2693 =>
          some a2693) (wide p c W) (lsOf p W e) s' (by have := hr.len; omega) (fun i L s2 hi hs2 => by
        have hil := (List.getElem?_eq_some_iff.1 hi).1
        have hle := hr.len
        have hmi : ms[i]? = some (ms[i]'(by omega)) := List.getElem?_eq_getElem (by omega)
        have hM := i3 i _ L hmi hi
        rw [← hc]
        refine bnd (idxO_of hmi) (bnd (a := ((c + W : Nat) : Int)) (bnd (addO_of (by show _ ≤ (c : Int) + (W : Int); omega) (by show (c : Int) + (W : Int) ≤ _; omega)) (congrArg some (by push_cast; rfl))) (bnd (zeros_ (by omega)) ?_))
        exact bnd (bnd (kv_wide hp (by omega) (by omega) hM (hr.ok L (mem_of_get hi))) rfl) (bnd (appO_of (by simp; omega)) rfl))
    rw [i2]
    exact bnd l2 rfl
end Go.Proofs.YtalmpcgbghnhpaaGreatDoor
namespace Go.Proofs.YtalmpcgbghnhpaaGreatDoor
def edK (g : Gra) : List (Int × Int) := g.2.1.map fun e => (e.1, e.2.1)
theorem edK_mpE (t : Nat → Int) (E : List Edg) : (E.map (mpE t)).map (fun e => (e.1, e.2.1)) = E.map fun e => (e.1, e.2.1) := by
  rw [List.map_map]; rfl
theorem edK_comb (k : Int) (a b : Gra) : edK (comb k a b) = edK a ++ edK b := by
  unfold comb
  split
  · unfold pSeq gluG mpG befG edK
    dsimp only
    rw [edK_mpE, List.map_append, edK_mpE]
  · unfold pPar edK
    dsimp only
    rw [List.map_append, edK_mpE]
def genN (n : Nod) : Prop := n.1 ≠ 1 ∧ n.1 ≠ 2 ∧ n.1 ≠ 15 ∧ n.1 ≠ 16
theorem edK_made : ∀ {T : Tr} {w : Int × Int}, typT T = some w → (made T).2 = true → ∀ q, q ∈ edK (made T).1 ↔ ∃ n ∈ flat T, genN n ∧ (n.1, n.2.1) = q
  | .leaf n, w, h, _, q => by
    have hl := (typ_leaf h).1
    unfold lfB at hl
    simp only [Bool.and_eq_true] at hl
    have hk := rng_true.1 hl.2.1
    show q ∈ edK (leafG n) ↔ _
    unfold leafG
    by_cases h1 : n.1 = 1
    · rw [if_pos h1]
      constructor
      · intro h; cases h
      · rintro ⟨m, hm, hg, _⟩
        obtain rfl := List.mem_singleton.1 hm
        exact (hg.1 h1).elim
    · by_cases h2 : n.1 = 2
      · rw [if_neg h1, if_pos h2]
        constructor
        · intro h; cases h
        · rintro ⟨m, hm, hg, _⟩
          obtain rfl := List.mem_singleton.1 hm
          exact (hg.2.1 h2).elim
      · rw [if_neg h1, if_neg h2]
        constructor
        · intro h
          obtain rfl := List.mem_singleton.1 h
          exact ⟨n, List.mem_singleton.2 rfl, ⟨h1, h2, by omega, by omega⟩, rfl⟩
        · rintro ⟨m, hm, hg, rfl⟩
          obtain rfl := List.mem_singleton.1 hm
          exact List.mem_singleton.2 rfl
  | .node k a b, w, h, hm, q => by
    obtain ⟨hk, x, y, ha, hb, _⟩ := typ_node h
    unfold made at hm ⊢
    split at hm
    · rename_i hab
      obtain ⟨_, e⟩ := ifG_ok hm
      rw [if_pos hab, e, edK_comb, List.mem_append, edK_made ha hab.1, edK_made hb hab.2]
      show _ ↔ ∃ n ∈ flat a ++ flat b ++ [(k, 0, .empty)], genN n ∧ (n.1, n.2.1) = q
      constructor
      · rintro (⟨n, h1, h2⟩ | ⟨n, h1, h2⟩)
        · exact ⟨n, by simp [h1], h2⟩
        · exact ⟨n, by simp [h1], h2⟩
      · rintro ⟨n, h1, h2⟩
        rcases List.mem_append.1 h1 with h1 | h1
        · rcases List.mem_append.1 h1 with h1 | h1
          · exact .inl ⟨n, h1, h2⟩
          · exact .inr ⟨n, h1, h2⟩
        · obtain rfl := List.mem_singleton.1 h1
          exact (hk.elim h2.1.2.2.1 h2.1.2.2.2).elim
    · cases hm
theorem askedG {p : Int} {g : Gra} (hf : fdB p = true) (hg : gOk g = true) (he : ∀ e ∈ g.2.1, e.2.1 < p) : F_spec_dnAsked p g = some (g.2.1.all fun e => decide (e.1 ≠ 8 ∧ e.1 ≠ 14)) := by
  have h1 : F_spec_hgGood p g = some true := by
    refine bnd (a := false) (bnd (fdGood p) (stp (by rw [hf]; exact cFW rfl (bnd (hgValid_ g) (stp (by rw [hg]; rfl)))))) (cFW rfl (sqW (forO_all (fun e : Edg => decide (¬ p ≤ e.2.1)) g.2.1 0 (t := false) (fun j e hj => ?_)) ?_))
    · rw [Nat.zero_add]
      have := he e (mem_of_get hj)
      refine bnd (idxO_of hj) (stp (cFW (dF (by omega)) ?_))
      rw [show decide (¬ p ≤ e.2.1) = true from dT (by omega)]; rfl
    · rw [List.all_eq_true.2 fun e h => dT (by have := he e h; omega)]; rfl
  refine bnd h1 (stp (cFW rfl (sqW (forO_all (fun e : Edg => decide (e.1 ≠ 8 ∧ e.1 ≠ 14)) g.2.1 0 (t := false) (fun j e hj => ?_)) ?_)))
  · rw [Nat.zero_add]
    refine bnd (idxO_of hj) (bnd (timeless_ e.1) (stp ?_))
    cases decide (e.1 ≠ 8 ∧ e.1 ≠ 14) <;> rfl
  · cases (g.2.1.all fun e => decide (e.1 ≠ 8 ∧ e.1 ≠ 14)) <;> rfl
noncomputable def wSystemOfTerm (p : Int) (t : List Nod) : (Int × Int × List (List Int)) × Bool :=
  if statB p t = true ∧ (wGraphOf t).2 = true then (sysW p (wGraphOf t).1, true) else ((0, 0, []), false)
/-- what is known of a valid graph of a term over a field -/
theorem graph_facts {p : Int} {t : List Nod} (ho : ovB p t = true) (hm : (wGraphOf t).2 = true) :
    fdB p = true ∧ gOk (wGraphOf t).1 = true ∧ (∀ e ∈ (wGraphOf t).1.2.1, e.2.1 < p) ∧ ((wGraphOf t).1.2.1.all fun e => decide (e.1 ≠ 8 ∧ e.1 ≠ 14)) = t.all tmlB := by
  obtain ⟨hv, hf, hn⟩ := ovB_true ho
  obtain ⟨T, w, rfl, h2, h3, h4⟩ := wGraphOf_eq hv
  rw [h4] at hm ⊢
  have hp := fdB_rng hf
  have hk := edK_made h2 hm
  have hed : ∀ e ∈ (made T).1.2.1, ∃ n ∈ flat T, genN n ∧ n.1 = e.1 ∧ n.2.1 = e.2.1 := fun e he => by
    obtain ⟨n, h1, h2, h3⟩ := (hk (e.1, e.2.1)).1 (List.mem_map.2 ⟨e, he, rfl⟩)
    exact ⟨n, h1, h2, congrArg Prod.fst h3, congrArg Prod.snd h3⟩
  have hg := (made_ok h2 hm).1
  refine ⟨hf, hg, fun e he => ?_, ?_⟩
  · obtain ⟨n, h1, _, e1, e2⟩ := hed e he
    have ho := hn n h1
    unfold ovN at ho
    have hw : edW (made T).1.1 e = true := by
      unfold gOk at hg
      simp only [Bool.and_eq_true] at hg
      exact List.all_eq_true.1 hg.2.2.2.2.2.2.1 e he
    unfold edW arB genB at hw
    simp only [Bool.and_eq_true] at hw
    have hval := hw.1.1.2
    by_cases h7 : e.1 = 7 ∨ e.1 = 13
    · rw [e1, e2] at ho
      simp [h7] at ho
      omega
    · rw [if_neg h7] at hval
      have := of_decide_eq_true hval
      omega
  · rw [Bool.eq_iff_iff, List.all_eq_true, List.all_eq_true]
    constructor
    · intro h n hn'
      unfold tmlB
      refine decide_eq_true ?_
      by_cases hgn : genN n
      · obtain ⟨e, he, e3⟩ := List.mem_map.1 ((hk (n.1, n.2.1)).2 ⟨n, hn', hgn, rfl⟩)
        have := of_decide_eq_true (h e he)
        have e4 : e.1 = n.1 := congrArg Prod.fst e3
        rw [e4] at this; exact this
      · refine ⟨fun q => hgn ?_, fun q => hgn ?_⟩ <;> (unfold genN; omega)
    · intro h e he
      obtain ⟨n, h1, _, e1, _⟩ := hed e he
      have := of_decide_eq_true (h n h1)
      rw [e1] at this
      exact decide_eq_true this
theorem gra_form {g : Gra} (hg : gOk g = true) : ∃ W : Nat, g = ((W : Int), g.2.1, g.2.2.1, g.2.2.2) := by
  unfold gOk at hg
  simp only [Bool.and_eq_true] at hg
  have := rng_true.1 hg.1
  exact ⟨g.1.toNat, Prod.ext (by show g.1 = ((g.1.toNat : Nat) : Int); omega) rfl⟩
theorem sy_both {p : Int} {t : List Nod} (h : statB p t = true) (hm : (wGraphOf t).2 = true) :
    F_spec_syOf p (wGraphOf t).1 = some (sysW p (wGraphOf t).1) ∧ F_impl_systemOfGraph p (wGraphOf t).1 = some (sysW p (wGraphOf t).1) := by
  unfold statB at h
  rw [Bool.and_eq_true] at h
  obtain ⟨hf, hg, h1, h2⟩ := graph_facts h.1 hm
  have h2 := List.all_eq_true.1 (h2.trans h.2)
  obtain ⟨W, e⟩ := gra_form hg
  rw [e] at hg h1 h2 ⊢
  exact both_sy (fdB_rng hf) hg fun x hx => ⟨h1 x hx, of_decide_eq_true (h2 x hx)⟩
theorem specSystemOfTerm (p : Int) (t : List Nod) : F_spec_SystemOfTerm p t = some (wSystemOfTerm p t) := by
  refine bnd (specGraphOf t) ?_
  unfold wSystemOfTerm
  cases hm : (wGraphOf t).2 with
  | false => exact bnd (a := true) (stp (cTW rfl rfl)) (cTW rfl (by rw [if_neg (by simp)]))
  | true =>
    cases ho : ovB p t with
    | false =>
      refine bnd (a := true) (stp (cFW rfl (bnd (tmGood_ p t) (stp (by rw [ho]; rfl))))) (cTW rfl ?_)
      rw [if_neg (by unfold statB; rw [ho]; simp)]
    | true =>
      refine bnd (a := false) (stp (cFW rfl (bnd (tmGood_ p t) (stp (by rw [ho]; rfl))))) (cFW rfl ?_)
      obtain ⟨hf, hg, h1, h2⟩ := graph_facts ho hm
      have ha := askedG hf hg h1
      rw [h2] at ha
      cases hs : t.all tmlB with
      | false =>
        rw [hs] at ha
        rw [if_neg (by unfold statB; rw [ho, hs]; simp)]
        exact bnd (a := ((0, 0, []), false)) (bnd ha (stp (cTW rfl rfl))) rfl
      | true =>
        rw [hs] at ha
        have hst : statB p t = true := by unfold statB; rw [ho, hs]; rfl
        rw [if_pos ⟨hst, rfl⟩]
        exact bnd (a := (sysW p (wGraphOf t).1, true)) (bnd ha (stp (cFW rfl (bnd (sy_both hst hm).1 rfl)))) rfl
theorem implSystemOfTerm (p : Int) (t : List Nod) : F_impl_SystemOfTerm p t = some (wSystemOfTerm p t) := by
  refine bnd (isStatic_ p t) (stp ?_)
  unfold wSystemOfTerm
  cases hst : statB p t with
  | false => exact cTW rfl (by rw [if_neg (by simp)])
  | true =>
    refine cFW rfl ?_
    have ho : ovB p t = true := by unfold statB at hst; rw [Bool.and_eq_true] at hst; exact hst.1
    have hg : F_impl_graphOf t = some (wGraphOf t) := by
      obtain ⟨T, w, rfl, h2, h3, h4⟩ := wGraphOf_eq (ovB_true ho).1
      rw [h4]; exact graphOf_ h2 h3
    refine bnd hg (stp ?_)
    cases hm : (wGraphOf t).2 with
    | false => exact cTW rfl (by rw [if_neg (by simp)])
    | true =>
      refine cFW rfl (bnd (sy_both hst hm).2 ?_)
      rw [if_pos ⟨rfl, rfl⟩]
theorem rowsN_le {c n : Nat} {l : List (List Int)} (h : ∀ r ∈ l, r.length ≤ c) (hn : l.length ≤ n) : rowsN l ≤ n * (c + 1) := by
  have := tot_le (n := rowN) (c := c) (l := l) (fun r hr => by have := h r hr; unfold rowN; omega)
  have h2 := Nat.mul_le_mul_right (c + 1) hn
  have h3 : l.length * (c + 1) = l.length * c + l.length := Nat.mul_succ _ _
  unfold rowsN
  omega
theorem boundSystemOfTerm_0 (p : Int) (t : List Nod) : nSystem (wSystemOfTerm p t).1 ≤ 1048576 := by
  unfold wSystemOfTerm nSystem nIntSS
  split
  · rename_i h
    have hst := h.1
    unfold statB at hst
    rw [Bool.and_eq_true] at hst
    obtain ⟨hf, hg, h1, h2⟩ := graph_facts hst.1 h.2
    have h2 := List.all_eq_true.1 (h2.trans hst.2)
    obtain ⟨W, e⟩ := gra_form hg
    generalize (wGraphOf t).1 = g at e hg h1 h2
    obtain ⟨w0, E, I, O⟩ := g
    obtain rfl : w0 = (W : Int) := congrArg Prod.fst e
    have hg' := hg
    unfold gOk wOk at hg
    simp only [Bool.and_eq_true, decide_eq_true_eq, List.all_eq_true] at hg
    obtain ⟨g1, g2, g3, g4, g5, g6, g7, _⟩ := hg
    have hW := rng_true.1 g1
    have hp := fdB_rng hf
    have hR : ∀ e ∈ E, ∃ Ls, RowsOf p W e Ls := fun e he => edge_rows hp (by omega) (g7 e he) (h1 e he) (of_decide_eq_true (h2 e he))
    have hl := flat_len (c := (I ++ O).length) hR
    have hio : (I ++ O).length ≤ 24 := by rw [List.length_append]; omega
    have hrow : ∀ r ∈ sysRows p W E (I ++ O), r.length ≤ 124 := by
      intro r hr
      unfold sysRows at hr
      rcases List.mem_append.1 hr with hr | hr
      · obtain ⟨k, _, rfl⟩ := List.mem_map.1 hr
        unfold ifRow sumRow; rw [tabl_len]; omega
      · obtain ⟨m, hm, hr⟩ := List.mem_flatten.1 hr
        obtain ⟨e, _, rfl⟩ := List.mem_map.1 hm
        obtain ⟨L, _, rfl⟩ := List.mem_map.1 hr
        unfold wide sumRow; rw [List.length_append, List.length_replicate, tabl_len]; omega
    have hnum : (sysRows p W E (I ++ O)).length ≤ 144 := by
      unfold sysRows ifRows
      rw [List.length_append, List.length_map, List.length_range]; omega
    have := rowsN_le hrow hnum
    show rowsN (sysRows p ((W : Int)).toNat E (I ++ O)) ≤ _
    rw [Int.toNat_natCast]; omega
  · show rowsN [] ≤ _
    simp [rowsN, tot]
end Go.Proofs.YtalmpcgbghnhpaaGreatDoor
namespace Go.Proofs.YtalmpcgbghnhpaaGreatDoor
set_option linter.unusedVariables false

abbrev TyNode := Int × Int × ByteArray
def nNode (a : TyNode) : Nat := a.2.2.size
def lensNode (a : TyNode) : Prop := (a.2.2.size : Int) ≤ 9223372036854775807
theorem z_Node (a : TyNode) (left : Int) (h0 : 0 ≤ left) (h1 : left ≤ bigN) (hl : lensNode a) : F_laws_szNode a left = some (if (nNode a : Int) ≤ left then left - nNode a else -1) := by
  unfold bigN at h1
  have l0 := hl
  unfold lensNode at l0
  unfold nNode
  refine bnd (subO_of (by omega) (by omega)) (stp ?_)
  by_cases g0 : (a.2.2.size : Int) ≤ left
  case neg =>
    rw [if_neg (by omega)]
    exact cTW (dT (by omega)) rfl
  rw [if_pos (by omega)]
  refine cFW (dF (by omega)) ?_
  congr 1; try omega
theorem niceLensNode {a : TyNode} (h : Nice.ok a) : lensNode a := by
  obtain ⟨h0, h1, h2⟩ := h
  exact h2
theorem t_Node (a : TyNode) (h : nNode a ≤ 1048576) : F_laws_toNode a = some a := by
  unfold nNode at h
  exact rfl
theorem e_Node (a : TyNode) (h : nNode a ≤ 1048576) : F_laws_eqNode a a = some true := by
  unfold nNode at h
  exact stp (cFW (nT (dT rfl)) (stp (cFW (nT (dT rfl)) (stp (cFW (nT (dT rfl)) (rfl))))))
abbrev TyNodeS := List TyNode
def nNodeS (a : TyNodeS) : Nat := a.length + tot nNode a
def lensNodeS (a : TyNodeS) : Prop := lenOk a ∧ ∀ x ∈ a, lensNode x
theorem z_NodeS (a : TyNodeS) (left : Int) (h0 : 0 ≤ left) (h1 : left ≤ bigN) (hl : lensNodeS a) : F_laws_szNodeS a left = some (if (nNodeS a : Int) ≤ left then left - nNodeS a else -1) := by
  have hl1 := hl.1; unfold lenOk at hl1; unfold bigN at h1
  unfold nNodeS
  refine bnd (subO_of (by omega) (by omega)) (stp ?_)
  by_cases h : (a.length : Int) ≤ left
  · refine cFW (dF (by omega)) (sqW (sz_loop nNode a (left - a.length) ?_ ?_ a [] _ rfl ?_ (Int.le_refl _)) ?_)
    · intro j r s hj hjl hs hsB
      dsimp only
      refine stp (cTW (dT (by omega)) (bnd (idxO_of hj) (bnd (z_Node r s hs (by unfold bigN; omega) (hl.2 r (mem_of_get hj))) (stp ?_))))
      by_cases h2 : (nNode r : Int) ≤ s
      · rw [if_pos h2, if_pos h2]; exact cFW (dF (by omega)) (bnd (addO_of (by omega) (by omega)) rfl)
      · rw [if_neg h2, if_neg h2]; exact cTW (dT (by omega)) rfl
    · intro s; dsimp only; exact stp (cFW (dF (by omega)) rfl)
    · omega
    · by_cases h2 : (tot nNode a : Int) ≤ left - a.length
      · rw [if_pos h2, if_pos (by omega), seqO_l]; congr 1; omega
      · rw [if_neg h2, if_neg (by omega), seqO_r]
  · rw [if_neg (by omega)]; exact cTW (dT (by omega)) rfl
theorem niceLensNodeS {a : TyNodeS} (h : Nice.ok a) : lensNodeS a := ⟨h.1, fun x hx => niceLensNode (h.2 x hx)⟩
theorem t_NodeS (a : TyNodeS) (h : nNodeS a ≤ 1048576) : F_laws_toNodeS a = some a := by
  have hm : maxN = 1099511627776 := rfl
  unfold nNodeS at h
  refine bnd (makeO_of _ (by omega)) (bnd (to_loop _ a ?_ ?_ a [] rfl) rfl)
  · intro j x s hj hjl hs
    dsimp only
    exact stp (cTW (dT (by omega)) (bnd (idxO_of hj) (bnd (t_Node x (by have := tot_mem (n := nNode) (mem_of_get hj); omega)) (bnd (setO_of _ (by omega)) (bnd (addO_of (by omega) (by omega)) rfl)))))
  · intro s hs; dsimp only; exact stp (cFW (dF (by omega)) rfl)
theorem e_NodeS (a : TyNodeS) (h : nNodeS a ≤ 1048576) : F_laws_eqNodeS a a = some true := by
  unfold nNodeS at h
  refine stp (cFW (nT (dT rfl)) (sqW (whileO_is (fun j => (j : Int)) (t := .inl ()) a.length ?_ ?_) ?_))
  · intro j hj
    exact stp (cTW (dT (by omega)) (bnd (idxO_of (List.getElem?_eq_getElem hj)) (bnd (idxO_of (List.getElem?_eq_getElem hj)) (bnd (e_Node a[j] (by have := tot_mem (n := nNode) (List.getElem_mem hj); omega)) (stp (cFW rfl (bnd (addO_of (by omega) (by omega)) rfl)))))))
  · exact stp (cFW (dF (by omega)) rfl)
  · rfl
def mkE_Node (x : TyNode) (q : Int) : TyNode × Int := ((q, (q + 1), mText ((q + 1) + 1)), (((q + 1) + 1) + 1))
def cE_Node (x : TyNode) : Nat := 3
theorem mkE_Node_snd (x : TyNode) (q : Int) : (mkE_Node x q).2 = q + cE_Node x := by
  unfold mkE_Node cE_Node
  dsimp only
  omega
theorem cE_Node_le (x : TyNode) : cE_Node x ≤ 8 * (1 + nNode x) := by
  unfold cE_Node nNode
  omega
def mk_NodeS : TyNodeS → Int → TyNodeS × Int := mkL mkE_Node
def cNodeS (a : TyNodeS) : Nat := tot cE_Node a
theorem cNodeS_le (a : TyNodeS) : cNodeS a ≤ 8 * nNodeS a := by
  have := totLe2 cE_Node_le a
  rw [nE_sum] at this
  exact this
theorem mk_NodeS_snd (a : TyNodeS) (k : Int) : (mk_NodeS a k).2 = k + cNodeS a := mkL_snd mkE_Node cE_Node mkE_Node_snd a k
theorem m_NodeS (a : TyNodeS) (k : Int) (h0 : 0 ≤ k) (h : k + 8 * nNodeS a ≤ 1125899906842624) : F_laws_markNodeS a k = some (mk_NodeS a k) := by
  have hsum := nE_sum nNode a
  unfold nNodeS at h
  refine bnd (mark_loop2 mkE_Node cE_Node (fun x => 8 * (1 + nNode x)) mkE_Node_snd cE_Node_le a.length 1125899906842624 ?_ ?_ a [] k (by simp) h0 (by rw [hsum]; omega)) rfl
  · intro j x s q hj hs hjl hq hB
    dsimp only at hB ⊢
    unfold nNode at hB
    refine stp (cTW (dT (by omega)) ?_)
    refine bnd (idxO_of hj) ?_
    refine bnd (setO_of _ (by omega)) ?_
    refine bnd (addO_of (by omega) (by omega)) ?_
    refine bnd (idxO_of (a := (q, x.2.1, x.2.2)) (by rw [List.getElem?_set_self (by omega)])) ?_
    refine bnd (setO_of _ (by simp only [List.length_set]; omega)) ?_
    refine bnd (addO_of (by omega) (by omega)) ?_
    refine bnd (markText_ _ (by omega) (by omega)) ?_
    refine bnd (idxO_of (a := (q, (q + 1), x.2.2)) (by rw [List.getElem?_set_self (by simp only [List.length_set]; omega)])) ?_
    refine bnd (setO_of _ (by simp only [List.length_set]; omega)) ?_
    refine bnd (addO_of (by omega) (by omega)) ?_
    refine bnd (addO_of (by omega) (by omega)) ?_
    simp only [List.set_set]; rfl
  · intro s q hs; dsimp only; exact stp (cFW (dF (by omega)) rfl)
abbrev TyTerm := List (Int × Int × ByteArray)
def nTerm (a : TyTerm) : Nat := nNodeS a
def lensTerm (a : TyTerm) : Prop := lensNodeS a
theorem z_Term (a : TyTerm) (left : Int) (h0 : 0 ≤ left) (h1 : left ≤ bigN) (hl : lensTerm a) : F_laws_szTerm a left = some (if (nTerm a : Int) ≤ left then left - nTerm a else -1) := by
  unfold bigN at h1
  have l0 := hl
  unfold lensTerm at l0
  unfold nTerm
  refine bnd (z_NodeS a (left) (by omega) (by unfold bigN; omega) l0) (stp ?_)
  by_cases g0 : (nNodeS a : Int) ≤ left
  case neg =>
    rw [if_neg g0]; try rw [if_neg (by omega)]
    exact cTW (dT (by omega)) rfl
  rw [if_pos g0]
  try rw [if_pos (by omega)]
  refine cFW (dF (by omega)) ?_
  congr 1; try omega
theorem niceLensTerm {a : TyTerm} (h : Nice.ok a) : lensTerm a := by
  have h0 := h
  exact niceLensNodeS h0
theorem t_Term (a : TyTerm) (h : nTerm a ≤ 1048576) : F_laws_toTerm a = some a := by
  unfold nTerm at h
  exact bnd (t_NodeS a (by omega)) (rfl)
theorem e_Term (a : TyTerm) (h : nTerm a ≤ 1048576) : F_laws_eqTerm a a = some true := by
  unfold nTerm at h
  exact bnd (e_NodeS a (by omega)) (stp (cFW rfl (rfl)))
def mk_Term (a : TyTerm) (k : Int) : TyTerm × Int := ((mk_NodeS a k).1, (mk_NodeS a k).2)
def cTerm (a : TyTerm) : Nat := cNodeS a
theorem cTerm_le (a : TyTerm) : cTerm a ≤ 8 * nTerm a := by
  unfold cTerm nTerm
  have hc0 := cNodeS_le a
  omega
theorem mk_Term_snd (a : TyTerm) (k : Int) : (mk_Term a k).2 = k + cTerm a := by
  unfold mk_Term cTerm
  simp only [mk_NodeS_snd]
  try omega
theorem m_Term (a : TyTerm) (k : Int) (h0 : 0 ≤ k) (h : k + 8 * nTerm a ≤ 1125899906842624) : F_laws_markTerm a k = some (mk_Term a k) := by
  unfold nTerm at h
  have hc0 := cNodeS_le a
  exact bnd (m_NodeS _ _ h0 (by omega)) (rfl)
end Go.Proofs.YtalmpcgbghnhpaaGreatDoor
namespace Go.Proofs.YtalmpcgbghnhpaaGreatDoor
set_option linter.unusedVariables false
theorem lawN_SystemOfTerm (a0 : Int) (a1 : TyTerm) (i0 : Nice.ok a0) (i1 : Nice.ok a1) : F_laws_FnExactSystemOfTerm a0 a1 = some true := by
  have hbig : bigN = 4611686018427387904 := rfl
  refine bnd (z_Term a1 1048576 (by omega) (by rw [hbig]; omega) (niceLensTerm i1)) (stp ?_)
  by_cases gaT : (nTerm a1 : Int) ≤ 1048576
  case neg => rw [if_neg gaT]; exact cTW (dT (by omega)) rfl
  rw [if_pos gaT]
  refine cFW (dF (by omega)) ?_
  have haT : nTerm a1 ≤ 1048576 := by omega
  first
  | refine bnd (t_Term a1 haT) (bnd (specSystemOfTerm a0 a1) ?_)
  | refine bnd (bnd (t_Term a1 haT) (bnd (specSystemOfTerm a0 a1) rfl)) ?_
  refine bnd (t_Term a1 haT) ?_
  refine bnd (implSystemOfTerm a0 a1) ?_
  have b0 : nSystem (wSystemOfTerm a0 a1).1 ≤ 1048576 := boundSystemOfTerm_0 a0 a1
  have cb0 := cSystem_le (wSystemOfTerm a0 a1).1
  refine bnd (a := false) (bnd (e_System _ b0) (stp (cFW rfl (stp (congrArg some (nT (dT rfl))))))) (cFW rfl ?_)
  refine bnd (t_Term _ haT) (bnd (e_Term _ haT) (stp (cFW rfl ?_)))
  have caT := cTerm_le a1
  refine bnd (m_Term a1 _ (by omega) (by omega)) ?_
  refine bnd (a := false) (stp (cFW (dF (by simp only [mk_Term_snd]; omega)) (bnd (e_System _ b0) (stp (cFW rfl (stp (congrArg some (nT (dT rfl))))))))) (cFW rfl ?_)
  refine bnd (m_System (wSystemOfTerm a0 a1).1 _ (by omega) (by omega)) ?_
  refine bnd (h_System (wSystemOfTerm a0 a1).1 _ (by omega) (by omega)) (stp (cFW (dF (by omega)) ?_))
  refine stp (cFW (nT (dT (by simp only [mk_System_snd]))) ?_)
  first
  | refine bnd (t_Term a1 haT) (bnd (implSystemOfTerm a0 a1) ?_)
  | refine bnd (bnd (t_Term a1 haT) (bnd (implSystemOfTerm a0 a1) rfl)) ?_
  refine bnd (a := false) (bnd (e_System _ b0) (stp (cFW rfl (stp (congrArg some (nT (dT rfl))))))) (cFW rfl ?_)
  refine bnd (h_System (wSystemOfTerm a0 a1).1 _ (by omega) (by omega)) (stp (cFW (dF (by omega)) ?_))
  refine stp (cFW (nT (dT (by simp only [mk_System_snd]))) ?_)
  rfl
end Go.Proofs.YtalmpcgbghnhpaaGreatDoor
