/-
  Plain law of IsConvex: the reference's function and the program's answer alike. No program in sight. No condition.
-/
import Derived.Test.YtgfnophfoccamaaZP37
import Derived.Test.YtgfnophfoccamaaZP38
namespace Go.Proofs.Ytgfnophfoccamaa

theorem forO_allR {τ : Type} {f : Nat → Unit → Option (Unit ⊕ τ)} {t : τ} {n : Nat} (P : Nat → Bool) (h : ∀ j, j < n → f j () = some (if P j = true then .inl () else .inr t)) : forO f n 0 () = some (if (List.range n).all P = true then .inl () else .inr t) := by
  have := forO_all (f := f) (t := t) P (List.range n) 0 (fun j a ha => by
    obtain ⟨h1, h2⟩ := List.getElem?_eq_some_iff.1 ha
    rw [List.getElem_range] at h2
    subst h2
    rw [List.length_range] at h1
    rw [Nat.zero_add]; exact h j h1)
  rwa [List.length_range] at this
theorem slEq_ (a b : List Int) : F_slices_Equal_int_int a b = some (decide (a = b)) := l1Same_ a b
theorem tabl_self (l : List Int) : l = tabl l.length fun k => l.getD k 0 := tabl_of rfl fun k hk => by
  rw [List.getD_eq_getElem?_getD, List.getElem?_eq_getElem hk]; rfl

/-! ### matches -/
def eB (g p : Gra) (m : List Int × List Int) (i : Nat) : Bool :=
  let e := p.2.1.getD i (0, 0, [], []); let f := g.2.1.getD (m.2.getD i 0).toNat (0, 0, [], []); let t : Nat → Int := fun k => m.1.getD k 0
  decide (e.1 = f.1) && (decide (e.2.1 = f.2.1) && (decide (mp t (edI e) = edI f) && decide (mp t (edO e) = edO f)))
def matB (g p : Gra) (m : List Int × List Int) : Bool := decide ((m.1.length : Int) = p.1) && (decide (m.2.length = p.2.1.length) && (diffB g.1.toNat m.1 && (diffB g.2.1.length m.2 && (List.range p.2.1.length).all (eB g p m))))
theorem diffB_rng {n : Nat} {L : List Int} (h : diffB n L = true) : inRg n L := by
  unfold diffB at h
  simp only [Bool.and_eq_true] at h
  exact inW_rng h.1
section
variable {n q : Nat} {E E' : List Edg} {I O I' O' m1 m2 : List Int}
theorem eB_parts (hp : GOk ((q : Int), E', I', O') q) (hl : m1.length = q) {i : Nat} (hi : i < E'.length) (h2 : m2.length = E'.length) (hm2 : inRg E.length m2) :
    ∃ f : Edg, idxO E' (i : Int) = some E'[i] ∧ idxO m2 (i : Int) = some (m2[i]'(by omega)) ∧ idxO E (m2[i]'(by omega)) = some f ∧
      F_spec_hgList (edI E'[i]) m1 = some (mp (fun k => m1.getD k 0) (edI E'[i])) ∧ F_spec_hgList (edO E'[i]) m1 = some (mp (fun k => m1.getD k 0) (edO E'[i])) ∧
      F_impl_mapped (edI E'[i]) m1 = some (mp (fun k => m1.getD k 0) (edI E'[i])) ∧ F_impl_mapped (edO E'[i]) m1 = some (mp (fun k => m1.getD k 0) (edO E'[i])) ∧
      eB ((n : Int), E, I, O) ((q : Int), E', I', O') (m1, m2) i = (decide (E'[i].1 = f.1) && (decide (E'[i].2.1 = f.2.1) && (decide (mp (fun k => m1.getD k 0) (edI E'[i]) = edI f) && decide (mp (fun k => m1.getD k 0) (edO E'[i]) = edO f)))) := by
  have hi2 : i < m2.length := by omega
  have hx := hm2 _ (List.getElem_mem hi2)
  obtain ⟨k, hk⟩ : ∃ k : Nat, m2[i] = (k : Int) := ⟨m2[i].toNat, by omega⟩
  have hkE : k < E.length := by omega
  have he := hp.e _ (List.getElem_mem hi)
  have l1 : (edI E'[i]).length ≤ 1048576 := by have := len_tot edI (List.getElem_mem hi); have := hp.ti; dsimp only at *; omega
  have l2 : (edO E'[i]).length ≤ 1048576 := by have := len_tot edO (List.getElem_mem hi); have := hp.to; dsimp only at *; omega
  have hm := tabl_self m1
  rw [hl] at hm
  refine ⟨E[k], idxO_of (List.getElem?_eq_getElem hi), idxO_of (List.getElem?_eq_getElem hi2), ?_, ?_, ?_, ?_, ?_, ?_⟩
  · rw [hk]; exact idxO_of (List.getElem?_eq_getElem hkE)
  · have := hgList_ (fun k => m1.getD k 0) he.1 l1; rwa [← hm] at this
  · have := hgList_ (fun k => m1.getD k 0) he.2 l2; rwa [← hm] at this
  · have := mapped_ (fun k => m1.getD k 0) he.1 l1; rwa [← hm] at this
  · have := mapped_ (fun k => m1.getD k 0) he.2 l2; rwa [← hm] at this
  · unfold eB
    have e1 : E'.getD i (0, 0, [], []) = E'[i] := by rw [List.getD_eq_getElem?_getD, List.getElem?_eq_getElem hi]; rfl
    have e2 : m2.getD i 0 = (k : Int) := by rw [List.getD_eq_getElem?_getD, List.getElem?_eq_getElem hi2, hk]; rfl
    have e3 : E.getD k (0, 0, [], []) = E[k] := by rw [List.getD_eq_getElem?_getD, List.getElem?_eq_getElem hkE]; rfl
    dsimp only
    rw [e1, e2, Int.toNat_natCast, e3]
theorem mtIs_ (hg : GOk ((n : Int), E, I, O) n) (hp : GOk ((q : Int), E', I', O') q) : F_spec_mtIs ((n : Int), E, I, O) ((q : Int), E', I', O') (m1, m2) = some (matB ((n : Int), E, I, O) ((q : Int), E', I', O') (m1, m2)) := by
  have n1 := hg.n100; have e1 := hg.e60
  dsimp only at e1
  unfold F_spec_mtIs matB
  by_cases h1 : (m1.length : Int) = (q : Int)
  case neg => rw [dF h1]; rfl
  by_cases h2 : m2.length = E'.length
  case neg =>
    have h2' : ¬ (m2.length : Int) = (E'.length : Int) := by omega
    rw [dT h1, dF h2]; exact bnd (a := true) (stp (cFW (nT rfl) (stp (cTW (nF (dF h2')) rfl)))) rfl
  have h2' : (m2.length : Int) = (E'.length : Int) := by omega
  have d1 := mtDifferent_ (n := n) (by omega) m1
  have d2 := mtDifferent_ (n := E.length) (by omega) m2
  rw [dT h1, dT h2]
  dsimp only
  rw [Int.toNat_natCast, Bool.true_and, Bool.true_and]
  cases hd1 : diffB n m1 with
  | false => rw [hd1] at d1; exact bnd (a := true) (stp (cFW (nT rfl) (stp (cFW (nT (dT h2')) (bnd d1 rfl))))) rfl
  | true =>
  rw [hd1] at d1
  cases hd2 : diffB E.length m2 with
  | false => rw [hd2] at d2; exact bnd (a := true) (stp (cFW (nT rfl) (stp (cFW (nT (dT h2')) (bnd d1 (stp (cFW rfl (bnd d2 rfl)))))))) rfl
  | true =>
  rw [hd2] at d2
  refine bnd (a := false) (stp (cFW (nT rfl) (stp (cFW (nT (dT h2')) (bnd d1 (stp (cFW rfl (bnd d2 rfl)))))))) (cFW rfl ?_)
  rw [Bool.true_and, Bool.true_and]
  refine sqW (forO_allR (eB ((n : Int), E, I, O) ((q : Int), E', I', O') (m1, m2)) (t := false) (fun i hi => ?_)) ?_
  · obtain ⟨f, i1, i2, i3, i4, i5, _, _, i8⟩ := eB_parts (n := n) (I := I) (O := O) (m1 := m1) hp (by omega) hi h2 (diffB_rng hd2)
    rw [i8]
    refine bnd i1 (bnd i2 (bnd i3 ?_))
    by_cases c1 : E'[i].1 = f.1
    case neg => rw [dF c1]; exact bnd (a := true) (stp (cTW (nF rfl) rfl)) rfl
    by_cases c2 : E'[i].2.1 = f.2.1
    case neg => rw [dT c1, dF c2]; exact bnd (a := true) (stp (cFW (nT rfl) (stp (cTW (nF rfl) rfl)))) rfl
    rw [dT c1, dT c2]
    by_cases c3 : mp (fun k => m1.getD k 0) (edI E'[i]) = edI f
    case neg => rw [dF c3]; exact bnd (a := true) (stp (cFW (nT rfl) (stp (cFW (nT rfl) (bnd i4 (bnd (l1Same_ _ _) (stp (cTW (nF (dF c3)) rfl)))))))) rfl
    by_cases c4 : mp (fun k => m1.getD k 0) (edO E'[i]) = edO f
    case neg => rw [dT c3, dF c4]; exact bnd (a := true) (stp (cFW (nT rfl) (stp (cFW (nT rfl) (bnd i4 (bnd (l1Same_ _ _) (stp (cFW (nT (dT c3)) (bnd i5 (bnd (l1Same_ _ _) (stp (congrArg some (nF (dF c4)))))))))))))) rfl
    rw [dT c3, dT c4]; exact bnd (a := false) (stp (cFW (nT rfl) (stp (cFW (nT rfl) (bnd i4 (bnd (l1Same_ _ _) (stp (cFW (nT (dT c3)) (bnd i5 (bnd (l1Same_ _ _) (stp (congrArg some (nT (dT c4)))))))))))))) rfl
  · cases (List.range E'.length).all (eB ((n : Int), E, I, O) ((q : Int), E', I', O') (m1, m2)) <;> rfl
theorem isMatch_ (hg : GOk ((n : Int), E, I, O) n) (hp : GOk ((q : Int), E', I', O') q) : F_impl_isMatch ((n : Int), E, I, O) ((q : Int), E', I', O') (m1, m2) = some (matB ((n : Int), E, I, O) ((q : Int), E', I', O') (m1, m2)) := by
  have n1 := hg.n100; have e1 := hg.e60
  dsimp only at e1
  unfold F_impl_isMatch matB
  by_cases h1 : (m1.length : Int) = (q : Int)
  case neg => rw [dF h1]; rfl
  by_cases h2 : m2.length = E'.length
  case neg =>
    have h2' : ¬ (m2.length : Int) = (E'.length : Int) := by omega
    rw [dT h1, dF h2]; exact bnd (a := true) (stp (cFW (nT rfl) (stp (cTW (nF (dF h2')) rfl)))) rfl
  have h2' : (m2.length : Int) = (E'.length : Int) := by omega
  have d1 := areDifferent_ (n := n) (by omega) m1
  have d2 := areDifferent_ (n := E.length) (by omega) m2
  rw [dT h1, dT h2]
  dsimp only
  rw [Int.toNat_natCast, Bool.true_and, Bool.true_and]
  cases hd1 : diffB n m1 with
  | false => rw [hd1] at d1; exact bnd (a := true) (stp (cFW (nT rfl) (stp (cFW (nT (dT h2')) (bnd d1 rfl))))) rfl
  | true =>
  rw [hd1] at d1
  cases hd2 : diffB E.length m2 with
  | false => rw [hd2] at d2; exact bnd (a := true) (stp (cFW (nT rfl) (stp (cFW (nT (dT h2')) (bnd d1 (stp (cFW rfl (bnd d2 rfl)))))))) rfl
  | true =>
  rw [hd2] at d2
  refine bnd (a := false) (stp (cFW (nT rfl) (stp (cFW (nT (dT h2')) (bnd d1 (stp (cFW rfl (bnd d2 rfl)))))))) (cFW rfl ?_)
  rw [Bool.true_and, Bool.true_and]
  refine sqW (forO_allR (eB ((n : Int), E, I, O) ((q : Int), E', I', O') (m1, m2)) (t := false) (fun i hi => ?_)) ?_
  · obtain ⟨f, i1, i2, i3, _, _, i6, i7, i8⟩ := eB_parts (n := n) (I := I) (O := O) (m1 := m1) hp (by omega) hi h2 (diffB_rng hd2)
    rw [i8]
    refine bnd i1 (bnd (bnd i6 (bnd i7 rfl)) (bnd i2 (bnd i3 (bnd (a := (decide (E'[i].1 = f.1) && (decide (E'[i].2.1 = f.2.1) && (decide (mp (fun k => m1.getD k 0) (edI E'[i]) = edI f) && decide (mp (fun k => m1.getD k 0) (edO E'[i]) = edO f))))) ?_ (stp ?_)))))
    · by_cases c1 : E'[i].1 = f.1
      case neg => rw [dF c1]; exact bnd (a := false) (stp (cFW (dF c1) rfl)) rfl
      by_cases c2 : E'[i].2.1 = f.2.1
      case neg => rw [dT c1, dF c2]; exact bnd (a := false) (stp (cTW (dT c1) (stp (cFW (dF c2) rfl)))) rfl
      rw [dT c1, dT c2, Bool.true_and, Bool.true_and]
      by_cases c3 : mp (fun k => m1.getD k 0) (edI E'[i]) = edI f
      case neg => rw [dF c3]; exact bnd (a := false) (stp (cTW (dT c1) (stp (cTW (dT c2) (bnd (slEq_ _ _) (cFW (dF c3) rfl)))))) rfl
      rw [dT c3, Bool.true_and]
      exact bnd (stp (cTW (dT c1) (stp (cTW (dT c2) (bnd (slEq_ _ _) (cTW (dT c3) (bnd (slEq_ _ _) rfl))))))) rfl
    · cases (decide (E'[i].1 = f.1) && (decide (E'[i].2.1 = f.2.1) && (decide (mp (fun k => m1.getD k 0) (edI E'[i]) = edI f) && decide (mp (fun k => m1.getD k 0) (edO E'[i]) = edO f)))) <;> rfl
  · cases (List.range E'.length).all (eB ((n : Int), E, I, O) ((q : Int), E', I', O') (m1, m2)) <;> rfl
end

/-! ### backwards -/
theorem Rch.back {E E' : List Edg} (h : ∀ e ∈ E', ∃ e' ∈ E, edI e' = edO e ∧ edO e' = edI e) {A B : Int → Prop} {v : Int} (hv : Rch E' B v) (ha : Rch E A v) : ∃ w, B w ∧ Rch E A w := by
  induction hv with
  | base hb => exact ⟨_, hb, ha⟩
  | step he hw _ hv ih =>
    obtain ⟨e', he', h1, h2⟩ := h _ he
    exact ih (.step he' (by rw [h1]; exact hv) ha (by rw [h2]; exact hw))
noncomputable def mirK (k : Int) : Int := (F_spec_tmMirrorKind k).getD 0
theorem mirK_ (k : Int) : F_spec_tmMirrorKind k = some (mirK k) := by
  unfold mirK F_spec_tmMirrorKind
  cases h1 : rng k 3 8 with
  | true =>
    have := rng_true.1 h1
    have h3 : addO k 6 = some (k + 6) := addO_of (by omega) (by omega)
    simp [l1In, h1, h3]
  | false =>
    cases h2 : rng k 9 14 with
    | true =>
      have := rng_true.1 h2
      have h3 : subO k 6 = some (k - 6) := subO_of (by omega) (by omega)
      simp [l1In, h1, h2, h3]
    | false => simp [l1In, h1, h2]
noncomputable def mirE (e : Edg) : Edg := (mirK e.1, e.2.1, edO e, edI e)
theorem hgMirror_ {n : Nat} {g : Gra} (h : GOk g n) : F_spec_hgMirror g = some (g.1, g.2.1.map mirE, g.2.2.2, g.2.2.1) := by
  have hm : maxN = 1099511627776 := rfl
  obtain ⟨w0, E, I, O⟩ := g
  have i12 := h.i12; have o12 := h.o12; have e60 := h.e60; have ti := h.ti; have to := h.to
  dsimp only at i12 o12 e60 ti to
  refine bnd (bnd (own_ (by dsimp only; omega)) (bnd (own_ (by dsimp only; omega)) rfl)) ?_
  refine bnd (forS_map mirE E [] (by simp; omega) (fun j e s' hj hs => ?_)) rfl
  have he := mem_of_get hj
  have hjl := (List.getElem?_eq_some_iff.1 hj).1
  have l1 := len_tot edI he
  have l2 := len_tot edO he
  exact bnd (idxO_of hj) (bnd (mirK_ _) (bnd (own_ (show (edO e).length ≤ _ by omega)) (bnd (own_ (show (edI e).length ≤ _ by omega)) (bnd (appO_of (by simp at hs ⊢; omega)) rfl))))

/-! ### convex -/
theorem anyM_ {s : List Bool} {n : Nat} (hs : s.length = n) {l : List Int} (hl : inRg n l) : F_slices_ContainsFunc_int_int_impl_isConvex_1 l s = some (l.any fun w => decide (M s w)) := by
  have h1 : F_slices_IndexFunc_int_int_impl_isConvex_1 l s = some (match l.findIdx? (fun w => decide (M s w)) with | some k => (k : Int) | none => -1) := by
    have key : ∀ (l : List Int) (k : Nat) {f : Nat → Unit → Option (Unit ⊕ Int)}, (∀ j a, l[j]? = some a → f (k + j) () = some (if M s a then .inr ((k + j : Nat) : Int) else .inl ())) →
        forO f l.length k () = some (match l.findIdx? (fun w => decide (M s w)) with | some q => .inr ((k + q : Nat) : Int) | none => .inl ()) := by
      intro l
      induction l with
      | nil => intro k f _; rfl
      | cons a l ih =>
        intro k f h
        show (f k ()).bind _ = _
        have h0 := h 0 a rfl
        rw [Nat.add_zero] at h0
        rw [h0, List.findIdx?_cons]
        by_cases hv : M s a
        · rw [if_pos hv, dT hv]; rfl
        · rw [if_neg hv, dF hv]
          have := ih (k + 1) (f := f) (fun j b hb => by
            have := h (j + 1) b (by simpa using hb)
            rw [show k + 1 + j = k + (j + 1) by omega]; exact this)
          show forO f l.length (k + 1) () = _
          rw [this]
          cases l.findIdx? (fun w => decide (M s w)) with
          | none => rfl
          | some q => simp only [Bool.false_eq_true, if_false, Option.map_some]; rw [show k + 1 + q = k + (q + 1) by omega]
    refine sqW (key l 0 ?_) ?_
    · intro j a hj
      rw [Nat.zero_add]
      have ha := hl a (mem_of_get hj)
      refine bnd (idxO_of hj) (bnd (bnd (M_idx (by omega) (by omega)) rfl) ?_)
      by_cases hv : M s a
      · rw [if_pos hv, dT hv]; rfl
      · rw [if_neg hv, dF hv]; rfl
    · cases l.findIdx? (fun w => decide (M s w)) with
      | none => rfl
      | some q => show some (((0 + q : Nat)) : Int) = some (q : Int); rw [Nat.zero_add]
  refine bnd h1 ?_
  have h2 : (l.findIdx? (fun w => decide (M s w))).isSome = l.any fun w => decide (M s w) := by
    rw [List.findIdx?_isSome]
  rw [← h2]
  cases l.findIdx? (fun w => decide (M s w)) with
  | none => rfl
  | some k =>
    show ((some (decide ((0 : Int) ≤ (k : Int)))).bind fun a5 => some a5) = some true
    rw [dT (by omega)]; rfl
noncomputable def cvA (E : List Edg) (m1 : List Int) (e : Edg) : Bool := @decide (∃ w ∈ edI e, Rch E (· ∈ m1) w) (Classical.propDecidable _)
noncomputable def cvC (E : List Edg) (m1 : List Int) (e : Edg) : Bool := @decide (∃ w ∈ m1, Rch E (· ∈ edO e) w) (Classical.propDecidable _)
theorem cvA_true {E : List Edg} {m1 : List Int} {e : Edg} : cvA E m1 e = true ↔ ∃ w ∈ edI e, Rch E (· ∈ m1) w := @decide_eq_true_iff _ (Classical.propDecidable _)
theorem cvC_true {E : List Edg} {m1 : List Int} {e : Edg} : cvC E m1 e = true ↔ ∃ w ∈ m1, Rch E (· ∈ edO e) w := @decide_eq_true_iff _ (Classical.propDecidable _)
theorem cvC_false {E : List Edg} {m1 : List Int} {e : Edg} : cvC E m1 e = false ↔ ¬ ∃ w ∈ m1, Rch E (· ∈ edO e) w := @decide_eq_false_iff_not _ (Classical.propDecidable _)
noncomputable def cvB (E : List Edg) (m1 m2 : List Int) (j : Nat) : Bool := let e := E.getD j (0, 0, [], []); !(!decide ((j : Int) ∈ m2) && (cvA E m1 e && cvC E m1 e))
theorem cvFin1 (a b c : Bool) : (cond (!a && (b && c)) (some (.inr false)) (some (.inl ())) : Option (Unit ⊕ Bool)) = some (if (!(!a && (b && c))) = true then .inl () else .inr false) := by cases a <;> cases b <;> cases c <;> rfl
theorem cvFin2 (a b c : Bool) : seqO (if (!(!a && (b && c))) = true then some (.inl ()) else some (.inr (.inr false)) : Option (Unit ⊕ (Unit ⊕ Bool))) (fun _ => some (.inl ())) = some (if (!(!a && (b && c))) = true then .inl () else .inr false) := by cases a <;> cases b <;> cases c <;> rfl
theorem any_cv {E : List Edg} {m1 : List Int} {e : Edg} {Q : Int → Bool} (h : ∀ w ∈ edI e, (Q w = true ↔ Rch E (· ∈ m1) w)) : (edI e).any Q = cvA E m1 e := by
  rw [Bool.eq_iff_iff, List.any_eq_true, cvA_true]
  exact ⟨fun ⟨w, hw, hq⟩ => ⟨w, hw, (h w hw).1 hq⟩, fun ⟨w, hw, hq⟩ => ⟨w, hw, (h w hw).2 hq⟩⟩
section
variable {n : Nat} {E : List Edg} {I O m1 m2 : List Int}
theorem mtConvex_ (hg : GOk ((n : Int), E, I, O) n) (hm1 : inRg n m1) (p : Gra) : F_spec_mtConvex ((n : Int), E, I, O) p (m1, m2) = some ((List.range E.length).all (cvB E m1 m2)) := by
  have n1 := hg.n100
  have hE := hg.e
  dsimp only at hE
  have hE' : edRg n (E.map mirE) := fun e he => by
    obtain ⟨e', he', rfl⟩ := List.mem_map.1 he
    exact ⟨(hE e' he').2, (hE e' he').1⟩
  obtain ⟨r1, a1, _, _, a4⟩ := mtReach_ (I := I) (O := O) (ws := m1) (by omega) hE hm1
  obtain ⟨r2, b1, _, _, b4⟩ := mtReach_ (I := O) (O := I) (ws := m1) (by omega) hE' hm1
  refine bnd a1 (bnd (hgMirror_ hg) (bnd b1 ?_))
  refine sqW (forO_allR (cvB E m1 m2) (t := false) (fun j hj => ?_)) ?_
  · refine bnd (idxO_of (List.getElem?_eq_getElem hj)) ?_
    have hget : E.getD j (0, 0, [], []) = E[j] := by rw [List.getD_eq_getElem?_getD, List.getElem?_eq_getElem hj]; rfl
    unfold cvB
    rw [hget]
    dsimp only
    have e1 : ((edI E[j]).any fun w => decide (w ∈ r1)) = cvA E m1 E[j] := any_cv (Q := fun w => decide (w ∈ r1)) fun w _ => by rw [decide_eq_true_eq]; exact a4 w
    have e2 : ((edO E[j]).any fun w => decide (w ∈ r2)) = cvC E m1 E[j] := by
      rw [Bool.eq_iff_iff, List.any_eq_true, cvC_true]
      constructor
      · rintro ⟨v, hv, hr⟩
        have := (b4 v).1 (of_decide_eq_true hr)
        refine Rch.back (E := E) (E' := E.map mirE) (fun e he => ?_) this (.base hv)
        obtain ⟨e', he', rfl⟩ := List.mem_map.1 he
        exact ⟨e', he', rfl, rfl⟩
      · rintro ⟨w, hw, hr⟩
        obtain ⟨v, hv, hv2⟩ := Rch.back (E := E.map mirE) (E' := E) (A := (· ∈ m1)) (fun e he => ⟨mirE e, List.mem_map.2 ⟨e, he, rfl⟩, rfl, rfl⟩) hr (.base hw)
        exact ⟨v, hv, dT ((b4 v).2 hv2)⟩
    refine bnd (a := (!decide ((j : Int) ∈ m2) && (cvA E m1 E[j] && cvC E m1 E[j]))) ?_ ?_
    · refine bnd (l1Has_ _ _) (stp ?_)
      cases decide ((j : Int) ∈ m2) with
      | true => rfl
      | false =>
        refine cTW rfl (bnd (hgMeets_ _ _) ?_)
        rw [show (E[j].2.2.1.any fun w => decide (w ∈ r1)) = _ from e1]
        cases cvA E m1 E[j] with
        | false => rfl
        | true =>
          refine cTW rfl (bnd (hgMeets_ _ _) ?_)
          rw [show (E[j].2.2.2.any fun w => decide (w ∈ r2)) = _ from e2]; rfl
    · exact cvFin1 _ _ _
  · cases (List.range E.length).all (cvB E m1 m2) <;> rfl
theorem isConvex_ (hg : GOk ((n : Int), E, I, O) n) (hm1 : inRg n m1) (hl : m1.length ≤ 1000) : F_impl_isConvex ((n : Int), E, I, O) (m1, m2) = some ((List.range E.length).all (cvB E m1 m2)) := by
  have n1 := hg.n100; have to := hg.to
  have hE := hg.e
  dsimp only at hE to
  obtain ⟨s, a1, a2, a3⟩ := reachable_ (I := I) (O := O) (ws := m1) (by omega) hE (by omega) hm1 (by omega)
  refine bnd a1 ?_
  refine sqW (forO_allR (cvB E m1 m2) (t := false) (fun j hj => ?_)) ?_
  · have hget : E.getD j (0, 0, [], []) = E[j] := by rw [List.getD_eq_getElem?_getD, List.getElem?_eq_getElem hj]; rfl
    have he := hE _ (List.getElem_mem hj)
    unfold cvB
    rw [hget]
    dsimp only
    have hlo : (edO E[j]).length ≤ totE E edO := len_tot edO (List.getElem_mem hj)
    obtain ⟨t, b1, b2, b3⟩ := reachable_ (I := I) (O := O) (ws := edO E[j]) (by omega) hE (by omega) he.2 (by omega)
    have e1 : ((edI E[j]).any fun w => decide (M s w)) = cvA E m1 E[j] := any_cv (Q := fun w => decide (M s w)) fun w _ => by rw [decide_eq_true_eq]; exact a3 w
    have hskip : ((F_slices_Contains_int_int m2 (j : Int)).bind fun y460 =>
          cond y460
          (some true)
          ((F_slices_ContainsFunc_int_int_impl_isConvex_1 (edI E[j]) s).bind fun y464 =>
            (some (!y464)).bind fun a467 =>
            some a467)) = some (decide ((j : Int) ∈ m2) || !cvA E m1 E[j]) := by
      refine bnd (contains_ _ _) ?_
      cases decide ((j : Int) ∈ m2) with
      | true => rfl
      | false => exact cFW rfl (bnd (anyM_ a2 he.1) (stp (by rw [e1]; rfl)))
    refine sqW (r := if (!(!decide ((j : Int) ∈ m2) && (cvA E m1 E[j] && cvC E m1 E[j]))) = true then some (.inl ()) else some (.inr (.inr false))) ?_ ?_
    · refine bnd (idxO_of (List.getElem?_eq_getElem hj)) (bnd hskip ?_)
      cases decide ((j : Int) ∈ m2) with
      | true => rfl
      | false =>
        cases cvA E m1 E[j] with
        | false => rfl
        | true =>
          refine cFW rfl (bnd b1 ?_)
          rw [b2]
          refine sqW (forO_allR (fun k => !(decide (M t (k : Int)) && decide ((k : Int) ∈ m1))) (t := .inr (.inr false)) (fun k hk => ?_)) ?_
          · refine bnd (M_idx (by omega) (by omega)) ?_
            cases decide (M t (k : Int)) with
            | false => rfl
            | true =>
              refine bnd (cTW rfl (bnd (contains_ _ _) rfl)) ?_
              cases decide ((k : Int) ∈ m1) <;> rfl
          · have e2 : ((List.range n).all fun k : Nat => !(decide (M t (k : Int)) && decide ((k : Int) ∈ m1))) = !cvC E m1 E[j] := by
              rw [Bool.eq_iff_iff, List.all_eq_true]
              constructor
              · intro h
                simp only [Bool.not_eq_true', cvC_false]
                rintro ⟨w, hw, hr⟩
                have hwr := hm1 w hw
                have h1 := h w.toNat (List.mem_range.2 (by omega))
                have e : ((w.toNat : Nat) : Int) = w := by omega
                rw [e, dT hw, dT ((b3 w).2 hr)] at h1
                cases h1
              · intro h k hk
                simp only [Bool.not_eq_true', cvC_false] at h
                simp only [Bool.not_eq_true', Bool.and_eq_false_iff, decide_eq_false_iff_not]
                by_cases hk1 : M t (k : Int)
                · exact .inr fun hk2 => h ⟨_, hk2, (b3 _).1 hk1⟩
                · exact .inl hk1
            rw [e2]
            cases cvC E m1 E[j] <;> rfl
    · exact cvFin2 _ _ _
  · cases (List.range E.length).all (cvB E m1 m2) <;> rfl
end
theorem areMono_ (g p : Gra) : F_impl_areMonogamous [g, p] = some (monoB g && monoB p) := by
  refine sqW (forO_all monoB [g, p] 0 ?_ (t := false)) ?_
  · intro j x hj
    rw [Nat.zero_add]
    refine bnd (idxO_of hj) (bnd (isMonoI_ x) (stp ?_))
    cases monoB x <;> rfl
  · simp only [List.all_cons, List.all_nil, Bool.and_true]
    cases (monoB g && monoB p) <;> rfl
noncomputable def wIsConvex (g p : Gra) (m : List Int × List Int) : Bool × Bool := if monoB g = true ∧ monoB p = true ∧ matB g p m = true then ((List.range g.2.1.length).all (cvB g.2.1 m.1 m.2), true) else (false, false)
theorem mono_ok {g : Gra} (h : monoB g = true) : ∃ n, GOk g n := by
  unfold monoB at h
  simp only [Bool.and_eq_true] at h
  exact gOk_facts h.1
theorem mat_facts {g p : Gra} {m : List Int × List Int} {n q : Nat} (hg : GOk g n) (hp : GOk p q) (h : matB g p m = true) : inRg n m.1 ∧ m.1.length ≤ 1000 := by
  unfold matB at h
  simp only [Bool.and_eq_true, decide_eq_true_eq] at h
  have h1 := diffB_rng h.2.2.1
  rw [hg.w, Int.toNat_natCast] at h1
  refine ⟨h1, ?_⟩
  have := h.1; have := hp.w; have := hp.n100
  omega
theorem specIsConvex (g p : Gra) (m : List Int × List Int) : F_spec_IsConvex g p m = some (wIsConvex g p m) := by
  unfold wIsConvex
  have hT : F_spec_mtTwo g p = some (monoB g && monoB p) := by
    refine bnd (a := monoB g && monoB p) (bnd (isMonoS_ g) ?_) rfl
    cases monoB g with
    | false => rfl
    | true => exact cTW rfl (bnd (isMonoS_ p) rfl)
  cases ga : monoB g with
  | false => rw [if_neg (fun h => by cases h.1)]; rw [ga] at hT; exact bnd (a := true) (bnd hT rfl) rfl
  | true =>
    cases gb : monoB p with
    | false => rw [if_neg (fun h => by cases h.2.1)]; rw [ga, gb] at hT; exact bnd (a := true) (bnd hT rfl) rfl
    | true =>
      rw [ga, gb] at hT
      obtain ⟨n, hg⟩ := mono_ok ga
      obtain ⟨q, hp⟩ := mono_ok gb
      obtain ⟨w0, E, I, O⟩ := g
      obtain ⟨w1, E', I', O'⟩ := p
      obtain ⟨m1, m2⟩ := m
      obtain rfl : w0 = (n : Int) := hg.w
      obtain rfl : w1 = (q : Int) := hp.w
      have hM := mtIs_ (m1 := m1) (m2 := m2) hg hp
      cases hmt : matB ((n : Int), E, I, O) ((q : Int), E', I', O') (m1, m2) with
      | false => rw [if_neg (fun h => by cases h.2.2)]; rw [hmt] at hM; exact bnd (a := true) (bnd hT (stp (cFW rfl (bnd hM rfl)))) rfl
      | true =>
        rw [if_pos ⟨rfl, rfl, rfl⟩]
        rw [hmt] at hM
        exact bnd (a := false) (bnd hT (stp (cFW rfl (bnd hM rfl)))) (cFW rfl (bnd (mtConvex_ hg (mat_facts hg hp hmt).1 _) rfl))
theorem implIsConvex (g p : Gra) (m : List Int × List Int) : F_impl_IsConvex g p m = some (wIsConvex g p m) := by
  unfold wIsConvex
  have hT := areMono_ g p
  cases ga : monoB g with
  | false => rw [if_neg (fun h => by cases h.1)]; rw [ga] at hT; exact bnd (a := true) (bnd hT rfl) rfl
  | true =>
    cases gb : monoB p with
    | false => rw [if_neg (fun h => by cases h.2.1)]; rw [ga, gb] at hT; exact bnd (a := true) (bnd hT rfl) rfl
    | true =>
      rw [ga, gb] at hT
      obtain ⟨n, hg⟩ := mono_ok ga
      obtain ⟨q, hp⟩ := mono_ok gb
      obtain ⟨w0, E, I, O⟩ := g
      obtain ⟨w1, E', I', O'⟩ := p
      obtain ⟨m1, m2⟩ := m
      obtain rfl : w0 = (n : Int) := hg.w
      obtain rfl : w1 = (q : Int) := hp.w
      have hM := isMatch_ (m1 := m1) (m2 := m2) hg hp
      cases hmt : matB ((n : Int), E, I, O) ((q : Int), E', I', O') (m1, m2) with
      | false => rw [if_neg (fun h => by cases h.2.2)]; rw [hmt] at hM; exact bnd (a := true) (bnd hT (stp (cFW rfl (bnd hM rfl)))) rfl
      | true =>
        rw [if_pos ⟨rfl, rfl, rfl⟩]
        rw [hmt] at hM
        have hf := mat_facts hg hp hmt
        exact bnd (a := false) (bnd hT (stp (cFW rfl (bnd hM rfl)))) (cFW rfl (bnd (isConvex_ hg hf.1 hf.2) rfl))
end Go.Proofs.Ytgfnophfoccamaa
