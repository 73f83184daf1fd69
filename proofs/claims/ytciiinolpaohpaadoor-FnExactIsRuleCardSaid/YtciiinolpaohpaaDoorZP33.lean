/-
  Plain laws: graphs; what a valid graph is (the reference's test and the program's). No program in sight. No condition.
-/
import Derived.Test.YtciiinolpaohpaaDoorZPL
namespace Go.Proofs.YtciiinolpaohpaaDoor

abbrev Edg := Int × Int × List Int × List Int
abbrev Gra := Int × List Edg × List Int × List Int

/-! ### tables -/
def tabl {α : Type} (n : Nat) (f : Nat → α) : List α := (List.range n).map f
theorem tabl_len {α : Type} (n : Nat) (f : Nat → α) : (tabl n f).length = n := by simp [tabl]
theorem tabl_get {α : Type} {n k : Nat} (f : Nat → α) (h : k < n) : (tabl n f)[k]? = some (f k) := by
  unfold tabl; rw [List.getElem?_map, List.getElem?_range h]; rfl
theorem tabl_idx {α : Type} {n k : Nat} (f : Nat → α) (h : k < n) : idxO (tabl n f) (k : Int) = some (f k) := idxO_of (tabl_get f h)
theorem tabl_ext {α : Type} {n : Nat} {f g : Nat → α} (h : ∀ k, k < n → f k = g k) : tabl n f = tabl n g := by
  unfold tabl; exact List.map_congr_left fun k hk => h k (List.mem_range.1 hk)
theorem tabl_set {α : Type} {n m : Nat} (f : Nat → α) (v : α) : (tabl n f).set m v = tabl n (fun k => if k = m then v else f k) := by
  apply List.ext_getElem?
  intro j
  rw [List.getElem?_set]
  by_cases hj : j < n
  · rw [tabl_get _ hj, tabl_get _ hj]
    by_cases hm : m = j
    · rw [if_pos hm, if_pos hm.symm, if_pos (by rw [tabl_len]; omega)]
    · rw [if_neg hm, if_neg (fun h => hm h.symm)]
  · rw [List.getElem?_eq_none (by rw [tabl_len]; omega), List.getElem?_eq_none (by rw [tabl_len]; omega)]
    split <;> simp [tabl_len] <;> omega
theorem tabl_setO {α : Type} {n m : Nat} (f : Nat → α) (v : α) (h : m < n) : setO (tabl n f) (m : Int) v = some (tabl n (fun k => if k = m then v else f k)) := by
  rw [setO_of _ (by rw [tabl_len]; exact h), tabl_set]
theorem tabl_rep {α : Type} (n : Nat) (z : α) : List.replicate n z = tabl n (fun _ => z) := by
  apply List.ext_getElem?
  intro j
  by_cases hj : j < n
  · rw [tabl_get _ hj, List.getElem?_replicate, if_pos hj]
  · rw [List.getElem?_replicate, if_neg hj, List.getElem?_eq_none (by rw [tabl_len]; omega)]
theorem tabl_make {α : Type} {n : Nat} (z : α) (h : n ≤ maxN) : makeO (n : Int) z = some (tabl n fun _ => z) := by rw [makeO_of z h, tabl_rep]

/-! ### edges -/
def genB (k v : Int) : Bool := rng k 3 14 && (if k = 7 ∨ k = 13 then rng v 0 96 else decide (v = 0))
def kd (k : Int) : Int × Int := if k = 2 then (2, 2) else if k = 3 ∨ k = 11 then (1, 2) else if k = 4 ∨ k = 12 then (1, 0) else if k = 5 ∨ k = 9 then (2, 1) else if k = 6 ∨ k = 10 then (0, 1) else (1, 1)
def arB (e : Edg) : Bool := genB e.1 e.2.1 && (decide ((e.2.2.1.length : Int) = (kd e.1).1) && decide ((e.2.2.2.length : Int) = (kd e.1).2))
def wOk (n : Int) (l : List Int) : Bool := l.all fun x => rng x 0 (n - 1)

theorem tmKind_ (k : Int) : F_spec_tmKind k = some (kd k) := by
  unfold F_spec_tmKind kd
  by_cases h2 : k = 2
  · simp [h2]
  by_cases h3 : k = 3 ∨ k = 11
  · rcases h3 with h3 | h3 <;> simp [h3]
  by_cases h4 : k = 4 ∨ k = 12
  · rcases h4 with h3 | h3 <;> simp [h3]
  by_cases h5 : k = 5 ∨ k = 9
  · rcases h5 with h3 | h3 <;> simp [h3]
  by_cases h6 : k = 6 ∨ k = 10
  · rcases h6 with h3 | h3 <;> simp [h3]
  rw [if_neg h2, if_neg h3, if_neg h4, if_neg h5, if_neg h6]
  simp only [not_or] at *
  simp [*]
theorem tmLeaf_gen {k v : Int} (hk : rng k 3 14 = true) : F_spec_tmLeaf (k, v, .empty) = some (genB k v) := by
  have hr := rng_true.1 hk
  unfold F_spec_tmLeaf genB
  have h1 : rng k 1 14 = true := rng_true.2 (by omega)
  by_cases h7 : k = 7
  · subst h7; simp [l1In, h1, hk]
  by_cases h13 : k = 13
  · subst h13; simp [l1In, h1, hk]
  have h0 : ¬ k = 1 := by omega
  simp [l1In, h1, hk, h7, h13, h0]
theorem hgEdge_ (e : Edg) {n : Int} (h0 : 0 ≤ n) (h1 : n ≤ 100) : F_spec_hgEdge e n = some (arB e && (wOk n e.2.2.1 && wOk n e.2.2.2)) := by
  obtain ⟨k, v, a, b⟩ := e
  unfold F_spec_hgEdge arB
  have hs : subO n 1 = some (n - 1) := subO_of (by omega) (by omega)
  cases hk : rng k 3 14 with
  | false =>
    have : genB k v = false := by unfold genB; rw [hk]; rfl
    simp [l1In, hk, this]
  | true =>
    cases hg : genB k v with
    | false => simp [l1In, hk, tmLeaf_gen hk, hg]
    | true =>
      by_cases ha : (a.length : Int) = (kd k).1
      · by_cases hb : (b.length : Int) = (kd k).2
        · cases hw : wOk n a with
          | false => unfold wOk at hw; simp [l1In, hk, tmLeaf_gen hk, hg, tmKind_, ha, hb, hs, l1All, hw]
          | true => unfold wOk at hw; simp [l1In, hk, tmLeaf_gen hk, hg, tmKind_, ha, hb, hs, l1All, hw, wOk]
        · simp [l1In, hk, tmLeaf_gen hk, hg, tmKind_, ha, hb]
      · simp [l1In, hk, tmLeaf_gen hk, hg, tmKind_, ha]
theorem isGeneratorValue_ {k v : Int} (hk : rng k 3 14 = true) : F_impl_isGeneratorValue k v = some (genB k v) := by
  unfold F_impl_isGeneratorValue F_impl_hasValue genB
  by_cases h7 : k = 7
  · subst h7; simp [within_, hk]
  by_cases h13 : k = 13
  · subst h13; simp [within_, hk]
  simp [hk, h7, h13]
theorem generatorWires_ {k : Int} (hk : rng k 3 14 = true) : F_impl_generatorWires k = some (kd k) := by
  have hr := rng_true.1 hk
  have : k = 3 ∨ k = 4 ∨ k = 5 ∨ k = 6 ∨ k = 7 ∨ k = 8 ∨ k = 9 ∨ k = 10 ∨ k = 11 ∨ k = 12 ∨ k = 13 ∨ k = 14 := by omega
  rcases this with rfl | rfl | rfl | rfl | rfl | rfl | rfl | rfl | rfl | rfl | rfl | rfl <;> rfl
theorem isEdge_ (e : Edg) : F_impl_Edge_isEdge e = some (arB e) := by
  obtain ⟨k, v, a, b⟩ := e
  unfold F_impl_Edge_isEdge arB F_impl_isGenerator
  cases hk : rng k 3 14 with
  | false =>
    have : genB k v = false := by unfold genB; rw [hk]; rfl
    simp [within_, hk, this]
  | true =>
    cases hg : genB k v with
    | false => simp [within_, hk, isGeneratorValue_ hk, hg]
    | true =>
      simp only [within_, hk, isGeneratorValue_ hk, hg, generatorWires_ hk, Option.bind_some, Bool.not_true, cond_false, Bool.true_and]
      congr 1
      rw [← Bool.decide_and]
      refine decide_eq_decide.2 ?_
      simp only [List.cons.injEq, and_true]
      exact ⟨fun ⟨x, y⟩ => ⟨x.symm, y.symm⟩, fun ⟨x, y⟩ => ⟨x.symm, y.symm⟩⟩

/-! ### how often a wire occurs -/
def edI (e : Edg) : List Int := e.2.2.1
def edO (e : Edg) : List Int := e.2.2.2
/-- the wires of a list counted -/
theorem cnt_loop {n : Nat} (l : List Int) (f : Nat → Int) (hl : ∀ x ∈ l, 0 ≤ x ∧ x < (n : Int)) (B : Int) (hf : ∀ k, k < n → 0 ≤ f k ∧ f k + l.length ≤ B) (hB : B ≤ 4611686018427387904) {g : Nat → List Int → Option (List Int)}
    (hg : ∀ k s, g k s = ((idxO l (k : Int)).bind fun a => (idxO s a).bind fun b => (addO b 1).bind fun c => (setO s a c).bind fun t => some t)) :
    forS g l.length 0 (tabl n f) = some (tabl n fun k => f k + (l.count (k : Int) : Nat)) := by
  have := forS_is (f := g) (n := l.length) (fun j => tabl n fun k => f k + ((l.take j).count (k : Int) : Nat)) (fun j hj => by
    rw [hg]
    have hm := hl l[j] (List.getElem_mem hj)
    obtain ⟨m, hme⟩ : ∃ m : Nat, l[j] = (m : Int) := ⟨l[j].toNat, by omega⟩
    have hmn : m < n := by omega
    refine bnd (idxO_of (List.getElem?_eq_getElem hj)) ?_
    rw [hme]
    have hb := hf m hmn
    have hc : ((l.take j).count (m : Int)) ≤ j := Nat.le_trans List.count_le_length (by simp; omega)
    refine bnd (tabl_idx _ hmn) (bnd (addO_of (by omega) (by omega)) (bnd (tabl_setO _ _ hmn) (congrArg some (tabl_ext fun k hk => ?_))))
    rw [List.take_add_one, List.getElem?_eq_getElem hj, List.count_append, hme]
    by_cases h : k = m
    · subst h; simp; omega
    · rw [if_neg h]
      have : ¬ (m : Int) = (k : Int) := by omega
      simp [this])
  have e0 : (fun k => f k + (((l.take 0).count ((k : Nat) : Int) : Nat) : Int)) = f := by funext k; simp
  rw [List.take_length] at this
  rw [← this]
  congr 2
  exact e0.symm
def cntE (E : List Edg) (s : Edg → List Int) (k : Nat) : Nat := ((E.map s).flatten).count (k : Int)
def totE (E : List Edg) (s : Edg → List Int) : Nat := ((E.map s).flatten).length
theorem inW_rng {n : Nat} {l : List Int} (h : wOk n l = true) : ∀ x ∈ l, 0 ≤ x ∧ x < (n : Int) := by
  intro x hx
  have := rng_true.1 (List.all_eq_true.1 h x hx)
  omega
/-- the wires of a graph, in the order of its lists -/
def allW (g : Gra) : List Int := g.2.2.1 ++ g.2.2.2 ++ (g.2.1.map fun e => edI e ++ edO e).flatten
def edW (n : Int) (e : Edg) : Bool := arB e && (wOk n (edI e) && wOk n (edO e))
def gOk (g : Gra) : Bool := rng g.1 0 100 && (decide (g.2.1.length ≤ 60) && (decide (g.2.2.1.length ≤ 12) && (decide (g.2.2.2.length ≤ 12) && (wOk g.1 g.2.2.1 && (wOk g.1 g.2.2.2 && (g.2.1.all (edW g.1) && (List.range g.1.toNat).all fun k : Nat => decide ((k : Int) ∈ allW g)))))))
theorem kd_le (k : Int) : 0 ≤ (kd k).1 ∧ (kd k).1 ≤ 2 ∧ 0 ≤ (kd k).2 ∧ (kd k).2 ≤ 2 := by
  unfold kd
  split <;> first | (refine ⟨?_, ?_, ?_, ?_⟩ <;> decide) | skip
  split <;> first | (refine ⟨?_, ?_, ?_, ?_⟩ <;> decide) | skip
  split <;> first | (refine ⟨?_, ?_, ?_, ?_⟩ <;> decide) | skip
  split <;> first | (refine ⟨?_, ?_, ?_, ?_⟩ <;> decide) | skip
  split <;> (refine ⟨?_, ?_, ?_, ?_⟩ <;> decide)
theorem arB_len {e : Edg} (h : arB e = true) : (edI e).length ≤ 2 ∧ (edO e).length ≤ 2 := by
  unfold arB at h
  simp only [Bool.and_eq_true, decide_eq_true_eq] at h
  have := kd_le e.1
  unfold edI edO
  omega
/-- the counts of a graph whose wires are in range -/
theorem hgCounts_ {n : Nat} {E : List Edg} {I O : List Int} (hn : n ≤ 1048576) (hI : ∀ x ∈ I, 0 ≤ x ∧ x < (n : Int)) (hO : ∀ x ∈ O, 0 ≤ x ∧ x < (n : Int)) (hE : ∀ e ∈ E, (∀ x ∈ edI e, 0 ≤ x ∧ x < (n : Int)) ∧ (∀ x ∈ edO e, 0 ≤ x ∧ x < (n : Int)))
    (hB : I.length + O.length + totE E edI + totE E edO ≤ 1099511627776) :
    F_spec_hgCounts ((n : Int), E, I, O) = some (tabl n (fun k => ((I.count (k : Int) + cntE E edO k : Nat) : Int)), tabl n (fun k => ((O.count (k : Int) + cntE E edI k : Nat) : Int))) := by
  have hm : maxN = 1099511627776 := rfl
  refine bnd (tabl_make _ (by omega)) (bnd (tabl_make _ (by omega)) ?_)
  have hc : ∀ (l : List Int) (k : Nat), l.count (k : Int) ≤ l.length := fun l k => List.count_le_length
  refine bnd (cnt_loop I (fun _ => 0) hI 1099511627776 (fun k _ => by omega) (by omega) (fun _ _ => rfl)) ?_
  refine bnd (cnt_loop O (fun _ => 0) hO 1099511627776 (fun k _ => by omega) (by omega) (fun _ _ => rfl)) ?_
  have key := forS_is (n := E.length) (fun j => (tabl n (fun k => ((I.count (k : Int) + cntE (E.take j) edO k : Nat) : Int)), tabl n (fun k => ((O.count (k : Int) + cntE (E.take j) edI k : Nat) : Int)))) (f := fun (k215 : Nat) (s652 : List Int × List Int) =>
      (idxO E ((k215 : Nat) : Int)).bind fun a667 =>
      (forS (fun (k679 : Nat) (s738 : List Int) =>
          (idxO a667.2.2.2 ((k679 : Nat) : Int)).bind fun a753 =>
          (idxO s738 a753).bind fun a761 =>
          (addO a761 1).bind fun a763 =>
          (setO s738 a753 a763).bind fun a771 =>
          some a771) a667.2.2.2.length 0 s652.1).bind fun (s776 : List Int) =>
      (forS (fun (k778 : Nat) (s837 : List Int) =>
          (idxO a667.2.2.1 ((k778 : Nat) : Int)).bind fun a852 =>
          (idxO s837 a852).bind fun a860 =>
          (addO a860 1).bind fun a862 =>
          (setO s837 a852 a862).bind fun a870 =>
          some a870) a667.2.2.1.length 0 s652.2).bind fun (s875 : List Int) =>
      some (s776, s875)) (fun j hj => by
    have he := hE _ (List.getElem_mem hj)
    have hsum : ∀ s : Edg → List Int, totE (E.take (j + 1)) s = totE (E.take j) s + (s E[j]).length := fun s => by
      unfold totE; rw [List.take_add_one, List.getElem?_eq_getElem hj, List.map_append, List.flatten_append, List.length_append]; simp only [Option.toList_some, List.map_cons, List.map_nil, List.flatten_cons, List.flatten_nil, List.append_nil]
    have hle : ∀ s : Edg → List Int, totE (E.take (j + 1)) s ≤ totE E s := fun s => by
      unfold totE
      have : E = E.take (j + 1) ++ E.drop (j + 1) := (List.take_append_drop _ _).symm
      conv => rhs; rw [this]
      rw [List.map_append, List.flatten_append, List.length_append]; omega
    have hct : ∀ (s : Edg → List Int) (k : Nat), cntE (E.take j) s k ≤ totE (E.take j) s := fun s k => List.count_le_length
    have hcs : ∀ (s : Edg → List Int) (k : Nat), cntE (E.take (j + 1)) s k = cntE (E.take j) s k + (s E[j]).count (k : Int) := fun s k => by
      unfold cntE; rw [List.take_add_one, List.getElem?_eq_getElem hj, List.map_append, List.flatten_append, List.count_append]; simp only [Option.toList_some, List.map_cons, List.map_nil, List.flatten_cons, List.flatten_nil, List.append_nil]
    have h1 := hsum edI; have h2 := hsum edO; have h3 := hle edI; have h4 := hle edO
    refine bnd (idxO_of (List.getElem?_eq_getElem hj)) ?_
    refine bnd (cnt_loop (edO E[j]) _ he.2 1099511627776 (fun k _ => by have := hct edO k; have := hc I k; omega) (by omega) (fun _ _ => rfl)) ?_
    refine bnd (cnt_loop (edI E[j]) _ he.1 1099511627776 (fun k _ => by have := hct edI k; have := hc O k; omega) (by omega) (fun _ _ => rfl)) ?_
    refine congrArg some (Prod.ext (tabl_ext fun k hk => ?_) (tabl_ext fun k hk => ?_))
    · rw [hcs]; push_cast; omega
    · rw [hcs]; push_cast; omega)
  have e1 : ∀ (l : List Int) (s : Edg → List Int), tabl n (fun k => (0 : Int) + (l.count (k : Int) : Nat)) = tabl n (fun k => ((l.count (k : Int) + cntE (E.take 0) s k : Nat) : Int)) := fun l s => tabl_ext fun k hk => by
    unfold cntE; simp
  rw [e1 I edO, e1 O edI]
  refine bnd key ?_
  rw [List.take_length]

/-! ### valid graphs -/
theorem all_app (n : Int) (a b : List Int) : wOk n (a ++ b) = (wOk n a && wOk n b) := by unfold wOk; rw [List.all_append]
theorem edW_arB {n : Int} {E : List Edg} (h : E.all (edW n) = true) : E.all arB = true := by
  rw [List.all_eq_true] at h ⊢
  intro e he
  have := h e he
  unfold edW at this
  simp only [Bool.and_eq_true] at this
  exact this.1
theorem totE_le {E : List Edg} (h : E.all arB = true) : totE E edI ≤ 2 * E.length ∧ totE E edO ≤ 2 * E.length := by
  induction E with
  | nil => exact ⟨Nat.le_refl _, Nat.le_refl _⟩
  | cons e E ih =>
    simp only [List.all_cons, Bool.and_eq_true] at h
    have h1 := arB_len h.1
    have h2 := ih h.2
    unfold totE at h2 ⊢
    simp only [List.map_cons, List.flatten_cons, List.length_append, List.length_cons]
    omega
theorem mem_cnt {E : List Edg} {s : Edg → List Int} {k : Nat} : cntE E s k = 0 ↔ ¬ ∃ e ∈ E, (k : Int) ∈ s e := by
  unfold cntE
  rw [List.count_eq_zero, List.mem_flatten]
  constructor
  · rintro h ⟨e, he, hk⟩; exact h ⟨s e, List.mem_map.2 ⟨e, he, rfl⟩, hk⟩
  · rintro h ⟨l, hl, hk⟩
    obtain ⟨e, he, rfl⟩ := List.mem_map.1 hl
    exact h ⟨e, he, hk⟩
theorem mem_allW {g : Gra} {k : Int} : k ∈ allW g ↔ k ∈ g.2.2.1 ∨ k ∈ g.2.2.2 ∨ ∃ e ∈ g.2.1, k ∈ edI e ∨ k ∈ edO e := by
  unfold allW
  rw [List.mem_append, List.mem_append, List.mem_flatten]
  constructor
  · rintro ((h | h) | ⟨l, hl, h⟩)
    · exact .inl h
    · exact .inr (.inl h)
    · obtain ⟨e, he, rfl⟩ := List.mem_map.1 hl
      exact .inr (.inr ⟨e, he, List.mem_append.1 h⟩)
  · rintro (h | h | ⟨e, he, h⟩)
    · exact .inl (.inl h)
    · exact .inl (.inr h)
    · exact .inr ⟨_, List.mem_map.2 ⟨e, he, rfl⟩, List.mem_append.2 h⟩
theorem edW_rng {n : Nat} {E : List Edg} (h : E.all (edW n) = true) : ∀ e ∈ E, (∀ x ∈ edI e, 0 ≤ x ∧ x < (n : Int)) ∧ (∀ x ∈ edO e, 0 ≤ x ∧ x < (n : Int)) := by
  intro e he
  have := List.all_eq_true.1 h e he
  unfold edW at this
  simp only [Bool.and_eq_true] at this
  exact ⟨inW_rng this.2.1, inW_rng this.2.2⟩
theorem hgValid_ (g : Gra) : F_spec_hgValid g = some (gOk g) := by
  obtain ⟨n, E, I, O⟩ := g
  unfold F_spec_hgValid gOk
  cases hr : rng n 0 100 with
  | false => simp [l1In, hr]
  | true =>
    have hn := rng_true.1 hr
    have hs : subO n 1 = some (n - 1) := subO_of (by omega) (by omega)
    by_cases hE : E.length ≤ 60
    case neg =>
      have : (60 : Int) < (E.length : Int) := by omega
      simp [l1In, hr, hE, this]
    have hE' : ¬ (60 : Int) < (E.length : Int) := by omega
    by_cases hI : I.length ≤ 12
    case neg =>
      have : (12 : Int) < (I.length : Int) := by omega
      simp [l1In, hr, hE, hE', hI, this]
    have hI' : ¬ (12 : Int) < (I.length : Int) := by omega
    by_cases hO : O.length ≤ 12
    case neg =>
      have : (12 : Int) < (O.length : Int) := by omega
      simp [l1In, hr, hE, hE', hI, hI', hO, this]
    have hO' : ¬ (12 : Int) < (O.length : Int) := by omega
    cases hwI : wOk n I with
    | false => unfold wOk at hwI; simp [l1In, hr, hE, hE', hI, hI', hO, hO', hs, l1All, hwI]
    | true =>
    cases hwO : wOk n O with
    | false => unfold wOk at hwI hwO; simp [l1In, hr, hE, hE', hI, hI', hO, hO', hs, l1All, hwO]
    | true =>
    have hl1 : F_spec_l1All I 0 (n - 1) = some true := by rw [l1All]; exact congrArg some hwI
    have hl2 : F_spec_l1All O 0 (n - 1) = some true := by rw [l1All]; exact congrArg some hwO
    simp only [l1In, hr, dF hE', dF hI', dF hO', dT hE, dT hI, dT hO, hs, hl1, hl2, Option.bind_some, Bool.not_true, cond_false, Bool.true_and]
    refine sqW (forO_all (edW n) E 0 ?_ (t := false)) ?_
    · intro j e hj
      rw [Nat.zero_add]
      refine bnd (idxO_of hj) (bnd (hgEdge_ e hn.1 hn.2) (stp ?_))
      have : (arB e && (wOk n e.2.2.1 && wOk n e.2.2.2)) = edW n e := rfl
      rw [this]
      cases edW n e <;> rfl
    · cases hall : E.all (edW n) with
      | false => rfl
      | true =>
        rw [if_pos rfl, seqO_l]
        obtain ⟨m, rfl⟩ : ∃ m : Nat, n = (m : Int) := ⟨n.toNat, by omega⟩
        have h2 := totE_le (edW_arB hall)
        refine bnd (hgCounts_ (by omega) (inW_rng hwI) (inW_rng hwO) (edW_rng hall) (by omega)) ?_
        dsimp only
        have hlen : ∀ f : Nat → Int, (tabl m f).length = (List.range m).length := fun f => by rw [tabl_len, List.length_range]
        rw [hlen]
        refine sqW (forO_all (fun k : Nat => decide ((k : Int) ∈ allW ((m : Int), E, I, O))) (List.range m) 0 ?_ (t := false)) ?_
        · intro j k hj
          obtain ⟨hjm, hje⟩ := List.getElem?_eq_some_iff.1 hj
          rw [List.getElem_range] at hje
          subst hje
          rw [List.length_range] at hjm
          rw [Nat.zero_add]
          have c1 : I.count (j : Int) ≤ I.length := List.count_le_length
          have c2 : O.count (j : Int) ≤ O.length := List.count_le_length
          have c3 : cntE E edI j ≤ totE E edI := List.count_le_length
          have c4 : cntE E edO j ≤ totE E edO := List.count_le_length
          refine bnd (tabl_idx _ hjm) (bnd (tabl_idx _ hjm) (bnd (addO_of (by omega) (by omega)) (stp ?_)))
          have hiff : (j : Int) ∈ allW ((m : Int), E, I, O) ↔ ¬ (((I.count (j : Int) + cntE E edO j : Nat) : Int) + ((O.count (j : Int) + cntE E edI j : Nat) : Int) = 0) := by
            rw [mem_allW]
            dsimp only
            have z1 : I.count (j : Int) = 0 ↔ ¬ (j : Int) ∈ I := List.count_eq_zero
            have z2 : O.count (j : Int) = 0 ↔ ¬ (j : Int) ∈ O := List.count_eq_zero
            have z3 := mem_cnt (E := E) (s := edI) (k := j)
            have z4 := mem_cnt (E := E) (s := edO) (k := j)
            constructor
            · intro h h0
              have y1 := z1.1 (by omega); have y2 := z2.1 (by omega); have y3 := z3.1 (by omega); have y4 := z4.1 (by omega)
              rcases h with h | h | ⟨e, he, h | h⟩
              · exact y1 h
              · exact y2 h
              · exact y3 ⟨e, he, h⟩
              · exact y4 ⟨e, he, h⟩
            · intro h
              refine Decidable.byContradiction fun hc => h ?_
              simp only [not_or] at hc
              have y1 := z1.2 hc.1; have y2 := z2.2 hc.2.1
              have y3 := z3.2 (fun ⟨e, he, hk⟩ => hc.2.2 ⟨e, he, .inl hk⟩)
              have y4 := z4.2 (fun ⟨e, he, hk⟩ => hc.2.2 ⟨e, he, .inr hk⟩)
              omega
          by_cases hk : (j : Int) ∈ allW ((m : Int), E, I, O)
          · rw [dT hk, dF (hiff.1 hk)]; rfl
          · rw [dF hk, dT (Decidable.byContradiction fun hc => hk (hiff.2 hc))]; rfl
        · rw [Int.toNat_natCast]
          cases (List.range m).all fun k : Nat => decide ((k : Int) ∈ allW ((m : Int), E, I, O)) <;> rfl

/-! ### the program's test -/
def seenT (n : Nat) (d : List Int) : List Bool := tabl n fun k => decide ((k : Int) ∈ d)
def seenN (n : Nat) (d : List Int) : Nat := (List.range n).countP fun k : Nat => decide ((k : Int) ∈ d)
theorem seenN_le (n : Nat) (d : List Int) : seenN n d ≤ n := by
  have := List.countP_le_length (p := fun k : Nat => decide ((k : Int) ∈ d)) (l := List.range n)
  rwa [List.length_range] at this
theorem countP_add {n m : Nat} (h : m < n) (P : Nat → Bool) (hP : P m = false) : (List.range n).countP (fun k => decide (k = m) || P k) = (List.range n).countP P + 1 := by
  induction n with
  | zero => omega
  | succ n ih =>
    rw [List.range_succ, List.countP_append, List.countP_append]
    by_cases hm : m = n
    · subst hm
      have : (List.range m).countP (fun k => decide (k = m) || P k) = (List.range m).countP P := by
        refine List.countP_congr fun k hk => ?_
        have : ¬ k = m := by have := List.mem_range.1 hk; omega
        simp [this]
      rw [this]
      simp [hP]
    · rw [ih (by omega)]
      have : ¬ n = m := by omega
      simp [this]; omega
theorem seen_step (n : Nat) (d : List Int) (m : Nat) (hm : m < n) (h : ¬ (m : Int) ∈ d) : seenN n (d ++ [(m : Int)]) = seenN n d + 1 ∧ (tabl n fun k => if k = m then true else decide ((k : Int) ∈ d)) = seenT n (d ++ [(m : Int)]) := by
  constructor
  · unfold seenN
    rw [← countP_add hm (fun k : Nat => decide ((k : Int) ∈ d)) (dF h)]
    refine List.countP_congr fun k _ => ?_
    simp only [List.mem_append, List.mem_singleton, decide_eq_true_eq, Bool.or_eq_true]
    constructor
    · rintro (h | h)
      · exact .inr h
      · exact .inl (by omega)
    · rintro (h | h)
      · exact .inr (by omega)
      · exact .inl h
  · refine tabl_ext fun k _ => ?_
    by_cases hk : k = m
    · rw [if_pos hk, dT]; simp [hk]
    · rw [if_neg hk, decide_eq_decide]
      have : ¬ (k : Int) = (m : Int) := by omega
      simp [this]
theorem seen_same (n : Nat) (d : List Int) (x : Int) (h : x ∈ d ∨ rng x 0 ((n : Int) - 1) = false) : seenN n (d ++ [x]) = seenN n d ∧ seenT n (d ++ [x]) = seenT n d := by
  have : ∀ k, k < n → decide ((k : Int) ∈ d ++ [x]) = decide ((k : Int) ∈ d) := fun k hk => by
    rw [decide_eq_decide, List.mem_append, List.mem_singleton]
    constructor
    · rintro (h1 | h1)
      · exact h1
      · rcases h with h | h
        · rw [h1]; exact h
        · have : rng x 0 ((n : Int) - 1) = true := rng_true.2 (by omega)
          rw [this] at h; cases h
    · exact .inl
  exact ⟨List.countP_congr fun k hk => by rw [this k (List.mem_range.1 hk)], tabl_ext this⟩
/-- one list of a graph -/
theorem isGraph1_ {n : Nat} (hn : n ≤ 100) (E : List Edg) (I O l d : List Int) : F_impl_Graph_isGraph_1 l ((n : Int), E, I, O) (wOk n d) (seenT n d) ((seenN n d : Nat) : Int) = some (wOk n (d ++ l), seenT n (d ++ l), ((seenN n (d ++ l) : Nat) : Int)) := by
  unfold F_impl_Graph_isGraph_1
  have := forS_is (n := l.length) (fun j => (wOk n (d ++ l.take j), ((seenN n (d ++ l.take j) : Nat) : Int), seenT n (d ++ l.take j))) (f := fun (k10 : Nat) (s199 : Bool × Int × List Bool) =>
      ((idxO l ((k10 : Nat) : Int)).bind fun a262 =>
        (subO (n : Int) 1).bind fun a264 =>
        (F_impl_within a262 0 a264).bind fun y266 =>
        (some (!y266)).bind fun a269 =>
        cond a269
        (some (false, s199.2.1, s199.2.2))
        ((idxO s199.2.2 a262).bind fun a278 =>
          (some (!a278)).bind fun a280 =>
          cond a280
          ((setO s199.2.2 a262 true).bind fun a290 =>
            (addO s199.2.1 1).bind fun a293 =>
            some (s199.1, a293, a290))
          (some (s199.1, s199.2.1, s199.2.2)))).bind fun (s250 : Bool × Int × List Bool) =>
      some (s250.1, s250.2.1, s250.2.2)) (fun j hj => by
    have hlen := seenN_le n (d ++ l.take j)
    have e1 : d ++ l.take (j + 1) = (d ++ l.take j) ++ [l[j]] := by rw [List.take_add_one, List.getElem?_eq_getElem hj]; simp
    have e2 : wOk n (d ++ l.take (j + 1)) = (wOk n (d ++ l.take j) && rng l[j] 0 (n - 1)) := by rw [e1, all_app]; congr 1; unfold wOk; simp
    refine bndW (bnd (idxO_of (List.getElem?_eq_getElem hj)) (bnd (subO_of (by omega) (by omega)) (bnd (within_ _ _ _) (stp rfl)))) ?_
    cases hr : rng l[j] 0 ((n : Int) - 1) with
    | false =>
      have h3 := seen_same n (d ++ l.take j) l[j] (.inr hr)
      rw [← e1] at h3
      rw [e2, hr, h3.1, h3.2, Bool.and_false]; rfl
    | true =>
      have hx := rng_true.1 hr
      obtain ⟨m, hme⟩ : ∃ m : Nat, l[j] = (m : Int) := ⟨l[j].toNat, by omega⟩
      rw [e2, hr, Bool.and_true, hme]
      refine bndW (bnd (tabl_idx _ (by omega)) (stp rfl)) ?_
      by_cases hm : (m : Int) ∈ d ++ l.take j
      · have h3 := seen_same n (d ++ l.take j) l[j] (.inl (by rw [hme]; exact hm))
        rw [← e1] at h3
        rw [dT hm, h3.1, h3.2]; rfl
      · have h3 := seen_step n (d ++ l.take j) m (by omega) hm
        rw [← hme, ← e1] at h3
        rw [dF hm]
        refine bndW (bnd (tabl_setO _ _ (by omega)) (bnd (addO_of (by dsimp only; omega) (by dsimp only; omega)) rfl)) ?_
        rw [h3.1]
        show some _ = some _
        refine congrArg some (Prod.ext rfl (Prod.ext ?_ ?_))
        · dsimp only; push_cast; rfl
        · dsimp only; rw [← h3.2])
  simp only [List.take_zero, List.append_nil, List.take_length] at this
  rw [this]; rfl
theorem isGraphL_ {n : Nat} (hn : n ≤ 100) (E : List Edg) (I O : List Int) : F_impl_Graph_lists_impl_Graph_isGraph_1 ((n : Int), E, I, O) ((n : Int), E, I, O) true (tabl n fun _ => false) 0 = some (wOk n (allW ((n : Int), E, I, O)), seenT n (allW ((n : Int), E, I, O)), ((seenN n (allW ((n : Int), E, I, O)) : Nat) : Int)) := by
  unfold F_impl_Graph_lists_impl_Graph_isGraph_1
  have h0 : (tabl n fun _ => false) = seenT n [] := by unfold seenT; simp
  have h1 : (0 : Int) = ((seenN n [] : Nat) : Int) := by unfold seenN; simp
  have h2 : true = wOk n [] := rfl
  rw [h0, h1, h2]
  refine bnd (isGraph1_ hn E I O I []) (bnd (isGraph1_ hn E I O O ([] ++ I)) ?_)
  have := forS_is (n := E.length) (fun j => (((seenN n ([] ++ I ++ O ++ ((E.take j).map fun e => edI e ++ edO e).flatten) : Nat) : Int), wOk n ([] ++ I ++ O ++ ((E.take j).map fun e => edI e ++ edO e).flatten), seenT n ([] ++ I ++ O ++ ((E.take j).map fun e => edI e ++ edO e).flatten))) (f := fun (k21 : Nat) (s74 : Int × Bool × List Bool) =>
      (idxO E ((k21 : Nat) : Int)).bind fun a89 =>
      (F_impl_Graph_isGraph_1 a89.2.2.1 ((n : Int), E, I, O) s74.2.1 s74.2.2 s74.1).bind fun y101 =>
      (F_impl_Graph_isGraph_1 a89.2.2.2 ((n : Int), E, I, O) y101.1 y101.2.1 y101.2.2).bind fun y104 =>
      some (y104.2.2, y104.1, y104.2.1)) (fun j hj => by
    have e1 : [] ++ I ++ O ++ ((E.take (j + 1)).map fun e => edI e ++ edO e).flatten = [] ++ I ++ O ++ ((E.take j).map fun e => edI e ++ edO e).flatten ++ edI E[j] ++ edO E[j] := by
      rw [List.take_add_one, List.getElem?_eq_getElem hj, List.map_append, List.flatten_append]
      simp only [Option.toList_some, List.map_cons, List.map_nil, List.flatten_cons, List.flatten_nil, List.append_nil, List.append_assoc]
    rw [e1]
    exact bnd (idxO_of (List.getElem?_eq_getElem hj)) (bnd (isGraph1_ hn E I O (edI E[j]) _) (bnd (isGraph1_ hn E I O (edO E[j]) _) rfl)))
  simp only [List.take_zero, List.take_length, List.map_nil, List.flatten_nil, List.append_nil] at this
  refine bnd this ?_
  unfold allW
  simp only [List.nil_append]
theorem wOk_allW {n : Int} {E : List Edg} {I O : List Int} (h : E.all arB = true) : wOk n (allW (n, E, I, O)) = (wOk n I && (wOk n O && E.all (edW n))) := by
  unfold allW
  rw [all_app, all_app, Bool.and_assoc]
  congr 2
  show wOk n (E.map fun e => edI e ++ edO e).flatten = E.all (edW n)
  clear I O
  induction E with
  | nil => rfl
  | cons e E ih =>
    simp only [List.all_cons, Bool.and_eq_true] at h
    rw [List.map_cons, List.flatten_cons, all_app, all_app, List.all_cons]
    rw [ih h.2]
    unfold edW
    rw [h.1, Bool.true_and]
theorem isGraph_ (g : Gra) : F_impl_Graph_isGraph g = some (gOk g) := by
  obtain ⟨n, E, I, O⟩ := g
  unfold F_impl_Graph_isGraph gOk
  cases hr : rng n 0 100 with
  | false => simp [within_, hr]
  | true =>
    have hn := rng_true.1 hr
    by_cases hE : E.length ≤ 60
    case neg =>
      have : (60 : Int) < (E.length : Int) := by omega
      simp [within_, hr, hE, this]
    have hE' : ¬ (60 : Int) < (E.length : Int) := by omega
    by_cases hI : I.length ≤ 12
    case neg =>
      have : (12 : Int) < (I.length : Int) := by omega
      simp [within_, hr, hE, hE', hI, this]
    have hI' : ¬ (12 : Int) < (I.length : Int) := by omega
    by_cases hO : O.length ≤ 12
    case neg =>
      have : (12 : Int) < (O.length : Int) := by omega
      simp [within_, hr, hE, hE', hI, hI', hO, this]
    have hO' : ¬ (12 : Int) < (O.length : Int) := by omega
    simp only [within_, hr, dF hE', dF hI', dF hO', dT hE, dT hI, dT hO, Option.bind_some, Bool.not_true, cond_false, Bool.true_and]
    obtain ⟨m, rfl⟩ : ∃ m : Nat, n = (m : Int) := ⟨n.toNat, by omega⟩
    refine sqW (forO_all arB E 0 ?_ (t := false)) ?_
    · intro j e hj
      rw [Nat.zero_add]
      refine bnd (idxO_of hj) (bnd (isEdge_ e) (stp ?_))
      cases arB e <;> rfl
    · cases hall : E.all arB with
      | false =>
        have : E.all (edW (m : Int)) = false := by
          cases h : E.all (edW (m : Int)) with
          | false => rfl
          | true => rw [edW_arB h] at hall; cases hall
        rw [this]
        simp [seqO]
      | true =>
        rw [if_pos rfl, seqO_l]
        refine bnd (tabl_make _ (by unfold maxN; omega)) (bnd (isGraphL_ (by omega) E I O) ?_)
        dsimp only
        rw [wOk_allW hall]
        have hcov : decide (((seenN m (allW ((m : Int), E, I, O)) : Nat) : Int) = (m : Int)) = (List.range m).all fun k : Nat => decide ((k : Int) ∈ allW ((m : Int), E, I, O)) := by
          rw [Bool.eq_iff_iff, decide_eq_true_eq, List.all_eq_true]
          have : seenN m (allW ((m : Int), E, I, O)) = (List.range m).length ↔ _ := List.countP_eq_length
          rw [List.length_range] at this
          rw [← this]; omega
        rw [hcov, Int.toNat_natCast]
        cases wOk (m : Int) I <;> cases wOk (m : Int) O <;> cases E.all (edW (m : Int)) <;> rfl
end Go.Proofs.YtciiinolpaohpaaDoor
