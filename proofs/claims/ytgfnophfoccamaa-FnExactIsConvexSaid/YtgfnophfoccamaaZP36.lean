/-
  Plain laws: permutations, graphs in which each wire occurs once. No program in sight. No condition.
-/
import Derived.Test.YtgfnophfoccamaaZP35
namespace Go.Proofs.Ytgfnophfoccamaa

/-! ### lists without repetition -/
theorem seenN_take {n : Nat} (L : List Int) (hL : inRg n L) (hn : L.Nodup) : ∀ k, k ≤ L.length → seenN n (L.take k) = k
  | 0, _ => by unfold seenN; simp
  | k + 1, hk => by
    have ih := seenN_take L hL hn k (by omega)
    have e : L.take (k + 1) = L.take k ++ [L[k]] := by rw [List.take_add_one, List.getElem?_eq_getElem (by omega)]; rfl
    have hr := hL _ (List.getElem_mem (show k < L.length by omega))
    obtain ⟨m, hm⟩ : ∃ m : Nat, L[k] = (m : Int) := ⟨L[k].toNat, by omega⟩
    have hnot : ¬ (m : Int) ∈ L.take k := by
      rw [← hm]
      intro h
      obtain ⟨j, hj, he⟩ := List.mem_iff_getElem.1 h
      have hj' : j < k := by rw [List.length_take] at hj; omega
      rw [List.getElem_take] at he
      have := (List.getElem_inj hn).1 he
      omega
    have := (seen_step n (L.take k) m (by omega) hnot).1
    rw [e, hm, this, ih]
theorem seenN_nodup {n : Nat} {L : List Int} (hL : inRg n L) (hn : L.Nodup) : seenN n L = L.length := by
  have := seenN_take L hL hn L.length (Nat.le_refl _)
  rwa [List.take_length] at this
theorem seenN_full {n : Nat} {L : List Int} : seenN n L = n ↔ ∀ k : Nat, k < n → (k : Int) ∈ L := by
  have : seenN n L = (List.range n).length ↔ _ := List.countP_eq_length
  rw [List.length_range] at this
  rw [this]
  constructor
  · intro h k hk; exact of_decide_eq_true (h k (List.mem_range.2 hk))
  · intro h k hk; exact decide_eq_true (h k (List.mem_range.1 hk))
/-- a list that is short and without repetition holds each number once -/
def permP (n : Nat) (L : List Int) : Prop := L.length = n ∧ inRg n L ∧ L.Nodup
theorem permP_iff {n : Nat} {L : List Int} (hL : inRg n L) : permP n L ↔ ∀ k : Nat, k < n → L.count (k : Int) = 1 := by
  constructor
  · rintro ⟨h1, _, h3⟩ k hk
    have h4 := seenN_nodup hL h3
    have h5 := seenN_full.1 (h4.trans h1) k hk
    exact List.Nodup.count h3 |>.trans (if_pos h5)
  · intro h
    have hn : L.Nodup := by
      rw [List.nodup_iff_count]
      intro a
      by_cases ha : a ∈ L
      · have := hL a ha
        obtain ⟨m, rfl⟩ : ∃ m : Nat, a = (m : Int) := ⟨a.toNat, by omega⟩
        rw [h m (by omega)]; exact Nat.le_refl _
      · rw [List.count_eq_zero.2 ha]; omega
    refine ⟨?_, hL, hn⟩
    rw [← seenN_nodup hL hn]
    refine seenN_full.2 fun k hk => ?_
    have := h k hk
    exact List.count_pos_iff.1 (by omega)

def diffB (n : Nat) (L : List Int) : Bool := wOk n L && decide L.Nodup
theorem nodup_snoc {L : List Int} {x : Int} : (L ++ [x]).Nodup ↔ L.Nodup ∧ ¬ x ∈ L := by
  rw [List.nodup_append]
  constructor
  · rintro ⟨h1, _, h3⟩; exact ⟨h1, fun h => h3 x h x (by simp) rfl⟩
  · rintro ⟨h1, h2⟩; exact ⟨h1, by simp, fun a ha b hb => by rw [List.mem_singleton.1 hb]; rintro rfl; exact h2 ha⟩
theorem diffB_step {n : Nat} {L : List Int} {j : Nat} (hj : j < L.length) : diffB n (L.take (j + 1)) = (diffB n (L.take j) && (rng L[j] 0 ((n : Int) - 1) && !decide (L[j] ∈ L.take j))) := by
  have e : L.take (j + 1) = L.take j ++ [L[j]] := by rw [List.take_add_one, List.getElem?_eq_getElem hj]; rfl
  unfold diffB
  rw [e, all_app, decide_eq_decide.2 nodup_snoc, Bool.decide_and]
  have : wOk n [L[j]] = rng L[j] 0 ((n : Int) - 1) := by unfold wOk; simp
  rw [this, decide_not]
  cases wOk n (L.take j) <;> cases rng L[j] 0 ((n : Int) - 1) <;> cases decide (L.take j).Nodup <;> cases decide (L[j] ∈ L.take j) <;> rfl
theorem diffB_mono {n : Nat} {L : List Int} {j : Nat} (h : diffB n (L.take j) = false) : diffB n L = false := by
  cases hd : diffB n L with
  | false => rfl
  | true =>
    unfold diffB at h hd
    simp only [Bool.and_eq_true, decide_eq_true_eq] at hd
    have h1 : wOk n (L.take j) = true := List.all_eq_true.2 fun x hx => List.all_eq_true.1 hd.1 x (List.mem_of_mem_take hx)
    have h2 : (L.take j).Nodup := hd.2.sublist (List.take_sublist _ _)
    rw [h1, decide_eq_true h2] at h; cases h
/-- the program's loop over a list of numbers that shall differ -/
theorem diff_loop {n : Nat} (hn : n ≤ 1099511627776) (L : List Int) : (diffB n L = true ∧ ∃ s, forO (fun (k10 : Nat) (s137 : List Bool) =>
        (idxO L ((k10 : Nat) : Int)).bind fun a152 =>
        ((subO (n : Int) 1).bind fun a177 =>
          (F_impl_within a152 0 a177).bind fun y179 =>
          (some (!y179)).bind fun a182 =>
          cond a182
          (some true)
          ((idxO s137 a152).bind fun a191 =>
            some a191)).bind fun (s171 : Bool) =>
        cond s171
        (some (.inr false))
        ((setO s137 a152 true).bind fun a203 =>
          some (.inl a203))) L.length 0 (tabl n fun _ => false) = some (.inl s)) ∨ (diffB n L = false ∧ forO (fun (k10 : Nat) (s137 : List Bool) =>
        (idxO L ((k10 : Nat) : Int)).bind fun a152 =>
        ((subO (n : Int) 1).bind fun a177 =>
          (F_impl_within a152 0 a177).bind fun y179 =>
          (some (!y179)).bind fun a182 =>
          cond a182
          (some true)
          ((idxO s137 a152).bind fun a191 =>
            some a191)).bind fun (s171 : Bool) =>
        cond s171
        (some (.inr false))
        ((setO s137 a152 true).bind fun a203 =>
          some (.inl a203))) L.length 0 (tabl n fun _ => false) = some (.inr false)) := by
  rcases forO_rel (n := L.length) (s := tabl n fun _ => false) (f := fun (k10 : Nat) (s137 : List Bool) =>
        (idxO L ((k10 : Nat) : Int)).bind fun a152 =>
        ((subO (n : Int) 1).bind fun a177 =>
          (F_impl_within a152 0 a177).bind fun y179 =>
          (some (!y179)).bind fun a182 =>
          cond a182
          (some true)
          ((idxO s137 a152).bind fun a191 =>
            some a191)).bind fun (s171 : Bool) =>
        cond s171
        (some (.inr false))
        ((setO s137 a152 true).bind fun a203 =>
          some (.inl a203))) (fun j s => s.length = n ∧ (∀ y, M s y ↔ y ∈ L.take j) ∧ diffB n (L.take j) = true) (fun t => t = false ∧ diffB n L = false)
      ⟨tabl_len _ _, fun y => ⟨fun h => (M_none n y h).elim, fun h => by simp at h⟩, rfl⟩ (fun j s hj ⟨h1, h2, h3⟩ => by
    have hstep := diffB_step (n := n) hj
    rw [h3, Bool.true_and] at hstep
    have hpre : ∀ {β : Type} {k : Bool → Option β} {y : Option β} (b : Bool), b = !(rng L[j] 0 ((n : Int) - 1) && !decide (L[j] ∈ L.take j)) → k b = y → (((subO (n : Int) 1).bind fun a177 =>
          (F_impl_within L[j] 0 a177).bind fun y179 =>
          (some (!y179)).bind fun a182 =>
          cond a182
          (some true)
          ((idxO s L[j]).bind fun a191 =>
            some a191)).bind k) = y := by
      intro β k y b hb hk
      refine bnd (a := b) ?_ hk
      rw [hb]
      refine bnd (subO_of (by omega) (by omega)) (bnd (within_ _ _ _) (stp ?_))
      cases hr : rng L[j] 0 ((n : Int) - 1) with
      | false => rfl
      | true =>
        have := rng_true.1 hr
        refine cFW rfl (bnd (M_idx (by omega) (by omega)) ?_)
        rw [decide_eq_decide.2 (h2 L[j])]
        cases decide (L[j] ∈ L.take j) <;> rfl
    cases hc : (rng L[j] 0 ((n : Int) - 1) && !decide (L[j] ∈ L.take j)) with
    | false =>
      rw [hc] at hstep
      exact .inr ⟨false, bnd (idxO_of (List.getElem?_eq_getElem hj)) (hpre true (by rw [hc]; rfl) rfl), rfl, diffB_mono hstep⟩
    | true =>
      rw [hc] at hstep
      simp only [Bool.and_eq_true] at hc
      have hr := rng_true.1 hc.1
      have hs := M_set (s := s) (x := L[j]) (by omega) (by omega)
      refine .inl ⟨_, bnd (idxO_of (List.getElem?_eq_getElem hj)) (hpre false (by rw [hc.1, hc.2]; rfl) (bnd hs.1 rfl)), by rw [List.length_set]; exact h1, fun y => ?_, hstep⟩
      rw [hs.2 y, h2 y, List.take_add_one, List.getElem?_eq_getElem hj, List.mem_append]
      simp) with ⟨s, h1, _, _, h2⟩ | ⟨t, h1, rfl, h2⟩
  · rw [List.take_length] at h2; exact .inl ⟨h2, s, h1⟩
  · exact .inr ⟨h2, h1⟩
theorem areDifferent_ {n : Nat} (hn : n ≤ 1099511627776) (L : List Int) : F_impl_areDifferent L (n : Int) = some (diffB n L) := by
  refine bnd (tabl_make _ (by unfold maxN; omega)) ?_
  rcases diff_loop hn L with ⟨h1, s, h2⟩ | ⟨h1, h2⟩
  · rw [h1]; exact sqW h2 rfl
  · rw [h1]; exact sqW h2 rfl
theorem isPermutation_ {n : Nat} (hn : n ≤ 1099511627776) (L : List Int) : F_impl_isPermutation L (n : Int) = some (decide (L.length = n) && diffB n L) := by
  refine stp ?_
  by_cases h : L.length = n
  · refine cFW (nT (dT (by omega))) (bnd (tabl_make _ (by unfold maxN; omega)) ?_)
    rw [dT h, Bool.true_and]
    rcases diff_loop hn L with ⟨h1, s, h2⟩ | ⟨h1, h2⟩
    · rw [h1]; exact sqW h2 rfl
    · rw [h1]; exact sqW h2 rfl
  · rw [dF h]; exact cTW (nF (dF (by omega))) rfl
theorem mtDifferent_ {n : Nat} (hn : n ≤ 1099511627776) (L : List Int) : F_spec_mtDifferent L (n : Int) = some (diffB n L) := by
  rcases forO_rel (n := L.length) (s := ()) (f := fun (k2 : Nat) (_ : Unit) =>
      (idxO L ((k2 : Nat) : Int)).bind fun a70 =>
      ((subO (n : Int) 1).bind fun a94 =>
        (F_spec_l1In a70 0 a94).bind fun y96 =>
        (some (!y96)).bind fun a99 =>
        cond a99
        (some true)
        ((sliceO L 0 ((k2 : Nat) : Int)).bind fun a102 =>
          (F_spec_l1Has a102 a70).bind fun y106 =>
          some y106)).bind fun (s88 : Bool) =>
      cond s88
      (some (.inr false))
      (some (.inl ()))) (fun j _ => diffB n (L.take j) = true) (fun t => t = false ∧ diffB n L = false) rfl (fun j _ hj h3 => by
    have hstep := diffB_step (n := n) hj
    rw [h3, Bool.true_and] at hstep
    have hsl : sliceO L 0 (j : Int) = some (L.take j) := by
      unfold sliceO; rw [if_pos ⟨by omega, by omega, by omega⟩]; simp
    have hin : ((subO (n : Int) 1).bind fun a94 =>
        (F_spec_l1In L[j] 0 a94).bind fun y96 =>
        (some (!y96)).bind fun a99 =>
        cond a99
        (some true)
        ((sliceO L 0 (j : Int)).bind fun a102 =>
          (F_spec_l1Has a102 L[j]).bind fun y106 =>
          some y106)) = some (!(rng L[j] 0 ((n : Int) - 1) && !decide (L[j] ∈ L.take j))) := by
      refine bnd (subO_of (by omega) (by omega)) (bnd (l1In _ _ _) (stp ?_))
      cases hr : rng L[j] 0 ((n : Int) - 1) with
      | false => rfl
      | true =>
        refine cFW rfl (bnd hsl (bnd (l1Has_ _ _) ?_))
        cases decide (L[j] ∈ L.take j) <;> rfl
    cases hc : (rng L[j] 0 ((n : Int) - 1) && !decide (L[j] ∈ L.take j)) with
    | false =>
      rw [hc] at hstep hin
      exact .inr ⟨false, bnd (idxO_of (List.getElem?_eq_getElem hj)) (bnd hin rfl), rfl, diffB_mono hstep⟩
    | true =>
      rw [hc] at hstep hin
      exact .inl ⟨(), bnd (idxO_of (List.getElem?_eq_getElem hj)) (bnd hin rfl), hstep⟩) with ⟨s, h1, h2⟩ | ⟨t, h1, rfl, h2⟩
  · rw [List.take_length] at h2; rw [h2]; exact sqW h1 rfl
  · rw [h2]; exact sqW h1 rfl

/-! ### each wire once -/
def origins (g : Gra) : List Int := g.2.2.1 ++ (g.2.1.map edO).flatten
def ends (g : Gra) : List Int := g.2.2.2 ++ (g.2.1.map edI).flatten
def monoB (g : Gra) : Bool := gOk g && ((decide ((origins g).length = g.1.toNat) && diffB g.1.toNat (origins g)) && (decide ((ends g).length = g.1.toNat) && diffB g.1.toNat (ends g)))
theorem inRg_flat {n : Nat} {E : List Edg} {s : Edg → List Int} (h : ∀ e ∈ E, inRg n (s e)) : inRg n (E.map s).flatten := by
  intro x hx
  obtain ⟨l, hl, hx⟩ := List.mem_flatten.1 hx
  obtain ⟨e, he, rfl⟩ := List.mem_map.1 hl
  exact h e he x hx
theorem inRg_app {n : Nat} {a b : List Int} (ha : inRg n a) (hb : inRg n b) : inRg n (a ++ b) := by
  intro x hx
  rcases List.mem_append.1 hx with h | h
  · exact ha x h
  · exact hb x h
theorem GOk.org {g : Gra} {n : Nat} (h : GOk g n) : inRg n (origins g) := inRg_app h.i (inRg_flat fun e he => (h.e e he).2)
theorem GOk.ends {g : Gra} {n : Nat} (h : GOk g n) : inRg n (ends g) := inRg_app h.o (inRg_flat fun e he => (h.e e he).1)
theorem wOk_of {n : Nat} {l : List Int} (h : inRg n l) : wOk n l = true := List.all_eq_true.2 fun x hx => rng_true.2 (by have := h x hx; omega)
/-- the counts are one -/
theorem ones_perm {n : Nat} {L : List Int} (hL : inRg n L) : ((tabl n fun k => ((L.count (k : Int) : Nat) : Int)).all fun x => rng x 1 1) = (decide (L.length = n) && diffB n L) := by
  rw [Bool.eq_iff_iff, List.all_eq_true]
  have h := permP_iff hL
  constructor
  · intro h1
    have h2 : permP n L := h.2 fun k hk => by
      have := rng_true.1 (h1 _ (List.mem_of_getElem? (tabl_get _ hk)))
      omega
    unfold diffB
    rw [dT h2.1, wOk_of hL, dT h2.2.2]; rfl
  · intro h1 x hx
    unfold diffB at h1
    simp only [Bool.and_eq_true, decide_eq_true_eq] at h1
    obtain ⟨k, hk, rfl⟩ := List.mem_iff_getElem.1 hx
    rw [tabl_len] at hk
    have h2 := h.1 ⟨h1.1, hL, h1.2.2⟩ k hk
    have h3 := tabl_get (n := n) (fun k => ((L.count (k : Int) : Nat) : Int)) hk
    rw [List.getElem?_eq_getElem (by rw [tabl_len]; exact hk)] at h3
    rw [Option.some.inj h3, h2]; rfl
theorem isMonoS_ (g : Gra) : F_spec_IsMonogamous g = some (monoB g) := by
  unfold monoB
  cases hg : gOk g with
  | false => refine bnd (a := false) (bnd (hgValid_ g) ?_) rfl; rw [hg]; rfl
  | true =>
    obtain ⟨n, h⟩ := gOk_facts hg
    obtain ⟨w, E, I, O⟩ := g
    obtain rfl : w = (n : Int) := h.w
    have ti := h.ti; have to := h.to; have i12 := h.i12; have o12 := h.o12; have n100 := h.n100
    dsimp only at ti to i12 o12
    rw [Bool.true_and]
    refine bnd (bnd (hgValid_ _) ?_) rfl
    rw [hg]
    refine cTW rfl (bnd (bnd (hgCounts_ (E := E) (I := I) (O := O) (by omega) h.i h.o h.e (by omega)) (bnd ?_ rfl)) rfl)
    have e1 : (fun k : Nat => ((I.count (k : Int) + cntE E edO k : Nat) : Int)) = fun k : Nat => (((origins ((n : Int), E, I, O)).count (k : Int) : Nat) : Int) := by
      funext k; unfold origins cntE; rw [List.count_append]
    have e2 : (fun k : Nat => ((O.count (k : Int) + cntE E edI k : Nat) : Int)) = fun k : Nat => (((ends ((n : Int), E, I, O)).count (k : Int) : Nat) : Int) := by
      funext k; unfold ends cntE; rw [List.count_append]
    rw [e1, e2, Int.toNat_natCast]
    refine bnd (l1All _ _ _) ?_
    rw [ones_perm h.org]
    cases (decide ((origins ((n : Int), E, I, O)).length = n) && diffB n (origins ((n : Int), E, I, O))) with
    | false => rfl
    | true =>
      refine cTW rfl (bnd (l1All _ _ _) ?_)
      rw [ones_perm h.ends]; rfl
theorem joinedF_ {L : List (List Int)} (h : L.flatten.length ≤ 1099511627776) : F_impl_joined L = some L.flatten := by
  have := forS_is (n := L.length) (fun j => (L.take j).flatten) (f := fun (k5 : Nat) (s41 : List Int) =>
      (idxO L ((k5 : Nat) : Int)).bind fun a57 =>
      (appO s41 a57).bind fun a61 =>
      some a61) (fun j hj => by
    have e : (L.take (j + 1)).flatten = (L.take j).flatten ++ L[j] := by
      rw [List.take_add_one, List.getElem?_eq_getElem hj, List.flatten_append]
      simp only [Option.toList_some, List.flatten_cons, List.flatten_nil, List.append_nil]
    have hle : (L.take (j + 1)).flatten.length ≤ L.flatten.length := by
      have : L = L.take (j + 1) ++ L.drop (j + 1) := (List.take_append_drop _ _).symm
      conv => rhs; rw [this]
      rw [List.flatten_append, List.length_append]; omega
    rw [e, List.length_append] at hle
    rw [e]
    exact bnd (idxO_of (List.getElem?_eq_getElem hj)) (bnd (appO_of (by unfold maxN; omega)) rfl))
  rw [List.take_length] at this
  exact bnd this rfl
theorem isMonoI_ (g : Gra) : F_impl_Graph_isMonogamous g = some (monoB g) := by
  have hm : maxN = 1099511627776 := rfl
  unfold monoB
  cases hg : gOk g with
  | false => refine bnd (isGraph_ g) ?_; rw [hg]; rfl
  | true =>
    obtain ⟨n, h⟩ := gOk_facts hg
    obtain ⟨w, E, I, O⟩ := g
    obtain rfl : w = (n : Int) := h.w
    have ti := h.ti; have to := h.to; have i12 := h.i12; have o12 := h.o12; have n100 := h.n100; have e60 := h.e60
    dsimp only at ti to i12 o12 e60
    rw [Bool.true_and]
    refine bnd (isGraph_ _) ?_
    rw [hg]
    refine stp (cFW rfl (stp ?_))
    have loop := forS_is (n := E.length) (fun j => (I :: (E.take j).map edO, O :: (E.take j).map edI)) (f := fun (k73 : Nat) (s152 : List (List Int) × List (List Int)) =>
        (idxO E ((k73 : Nat) : Int)).bind fun a169 =>
        (appO s152.1 [a169.2.2.2]).bind fun a185 =>
        (appO s152.2 [a169.2.2.1]).bind fun a194 =>
        some (a185, a194)) (fun j hj => by
      have e : ∀ s : Edg → List Int, (E.take (j + 1)).map s = (E.take j).map s ++ [s E[j]] := fun s => by rw [List.take_add_one, List.getElem?_eq_getElem hj, List.map_append]; rfl
      refine bnd (idxO_of (List.getElem?_eq_getElem hj)) (bnd (appO_of ?_) (bnd (appO_of ?_) ?_))
      · simp; omega
      · simp; omega
      · rw [e, e]; rfl)
    rw [List.take_length] at loop
    refine bnd loop ?_
    have f1 : (I :: E.map edO).flatten = origins ((n : Int), E, I, O) := by unfold origins; rw [List.flatten_cons]
    have f2 : (O :: E.map edI).flatten = ends ((n : Int), E, I, O) := by unfold ends; rw [List.flatten_cons]
    have l1 : (origins ((n : Int), E, I, O)).length ≤ 1099511627776 := by
      unfold origins; rw [List.length_append]
      have : (E.map edO).flatten.length = totE E edO := rfl
      dsimp only; omega
    have l2 : (ends ((n : Int), E, I, O)).length ≤ 1099511627776 := by
      unfold ends; rw [List.length_append]
      have : (E.map edI).flatten.length = totE E edI := rfl
      dsimp only; omega
    rw [Int.toNat_natCast]
    refine bnd (bnd (bnd (joinedF_ (by rw [f1]; exact l1)) (bnd (isPermutation_ (by omega) _) rfl)) ?_) rfl
    rw [f1]
    cases (decide ((origins ((n : Int), E, I, O)).length = n) && diffB n (origins ((n : Int), E, I, O))) with
    | false => rfl
    | true =>
      refine cTW rfl (bnd (bnd (joinedF_ (by rw [f2]; exact l2)) (bnd (isPermutation_ (by omega) _) rfl)) ?_)
      rw [f2]; rfl
end Go.Proofs.Ytgfnophfoccamaa
