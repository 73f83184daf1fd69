/-
  Plain laws: a reduction, in the reference and in the program, step by step alike. No program in sight. No condition.
-/
import Derived.Test.YteikcdofblclhaaDoorZP11
namespace Go.Proofs.YteikcdofblclhaaDoor

/-! ### lists changed at every place -/
def partG {α : Type} (g : Nat → α → α) (l : List α) (j : Nat) : List α := (l.take j).mapIdx g ++ l.drop j
theorem partG0 {α : Type} (g : Nat → α → α) (l : List α) : partG g l 0 = l := by simp [partG]
theorem partGN {α : Type} (g : Nat → α → α) (l : List α) : partG g l l.length = l.mapIdx g := by simp [partG]
theorem partG_len {α : Type} (g : Nat → α → α) (l : List α) (j : Nat) : (partG g l j).length = l.length := by simp [partG]; omega
theorem partG_get {α : Type} (g : Nat → α → α) (l : List α) (j k : Nat) : (partG g l j)[k]? = if k < j then l[k]?.map (g k) else l[k]? := by
  unfold partG
  by_cases h : k < ((l.take j).mapIdx g).length
  · rw [List.getElem?_append_left h]
    have h2 : k < j := by simp at h; omega
    rw [if_pos h2, List.getElem?_mapIdx, List.getElem?_take, if_pos h2]
  · rw [List.getElem?_append_right (by omega)]
    have h1 : ¬ k < min j l.length := by simpa using h
    by_cases h2 : k < j
    · rw [if_pos h2, List.getElem?_eq_none (by omega : l.length ≤ k)]
      rw [List.getElem?_drop, List.getElem?_eq_none (by simp; omega)]; rfl
    · rw [if_neg h2, List.getElem?_drop]
      by_cases h3 : l.length ≤ j
      · rw [List.getElem?_eq_none (by simp; omega), List.getElem?_eq_none (by omega)]
      · congr 1; simp; omega
theorem gr_part {g : Nat → List Int → List Int} {m : Rows} {j k : Nat} (hk : k < m.length) : gr (partG g m j) k = if k < j then g k (gr m k) else gr m k := by
  have h1 := gr_get (m := partG g m j) (i := k) (by rw [partG_len]; exact hk)
  rw [partG_get, gr_get hk] at h1
  split at h1
  · rename_i h; rw [if_pos h]; exact (Option.some.inj h1).symm
  · rename_i h; rw [if_neg h]; exact (Option.some.inj h1).symm
theorem part_setG {g : Nat → List Int → List Int} {m : Rows} {j : Nat} (hj : j < m.length) : (partG g m j).set j (g j (gr m j)) = partG g m (j + 1) := by
  have h2 : gr m j = m[j] := by have := gr_get hj; rw [List.getElem?_eq_getElem hj] at this; exact (Option.some.inj this).symm
  rw [h2]
  exact set_take m g j hj

/-! ### the steps -/
def scanN (m : Rows) (c : Nat) : Nat → Nat → Nat
  | 0, k => k
  | d + 1, k => if el (gr m k) c = 0 then scanN m c d (k + 1) else k
theorem scanN_spec (m : Rows) (c : Nat) : ∀ (d k : Nat), k + d = m.length → k ≤ scanN m c d k ∧ scanN m c d k ≤ m.length ∧ (scanN m c d k < m.length → el (gr m (scanN m c d k)) c ≠ 0)
  | 0, k, h => ⟨Nat.le_refl _, by simp only [scanN]; omega, fun h2 => by simp only [scanN] at h2; omega⟩
  | d + 1, k, h => by
    unfold scanN
    split
    · obtain ⟨h1, h2, h3⟩ := scanN_spec m c d (k + 1) (by omega)
      exact ⟨by omega, h2, h3⟩
    · rename_i hne
      exact ⟨Nat.le_refl _, by omega, fun _ => hne⟩
theorem scan_ {f : Int → Option (Int ⊕ Int)} {m : Rows} {c : Nat} (hf : ∀ k : Nat, k < m.length → f (k : Int) = some (if el (gr m k) c = 0 then .inl ((k : Int) + 1) else .inr (k : Int))) (he : f (m.length : Int) = some (.inr (m.length : Int))) :
    ∀ (d k : Nat), k + d = m.length → whileO f (k : Int) = some ((scanN m c d k : Nat) : Int)
  | 0, k, h => by
    have : k = m.length := by omega
    subst this
    rw [whileO_end he]; rfl
  | d + 1, k, h => by
    have h1 := hf k (by omega)
    unfold scanN
    by_cases h0 : el (gr m k) c = 0
    · rw [if_pos h0] at h1 ⊢
      rw [whileO_step h1]
      exact scan_ hf he d (k + 1) (by omega)
    · rw [if_neg h0] at h1 ⊢
      exact whileO_end h1
def elimG (p : Int) (c r : Nat) (m a : Rows) : Nat → List Int → List Int := fun i row => if i = r ∨ el (gr m i) c = 0 then row else mapR (subG p (el (gr m i) c) (gr a r)) row
def elimA (p : Int) (c r : Nat) (m a : Rows) : Rows := a.mapIdx (elimG p c r m a)
theorem elimA_len (p : Int) (c r : Nat) (m a : Rows) : (elimA p c r m a).length = a.length := by simp [elimA]
theorem elimG_ok {p : Int} {c r n : Nat} {m a : Rows} (hp : 2 ≤ p) {i : Nat} {row : List Int} (hr : row.length = n ∧ inP p row) : (elimG p c r m a i row).length = n ∧ inP p (elimG p c r m a i row) := by
  unfold elimG
  split
  · exact hr
  · exact ⟨by rw [mapR_len]; exact hr.1, mapR_in hp (fun j x => ⟨_, rfl⟩) _⟩
theorem elimA_ok {p : Int} {c r n : Nat} {m a : Rows} (hp : 2 ≤ p) (h : okM p n a) : okM p n (elimA p c r m a) := by
  intro x hx
  obtain ⟨i, hi, rfl⟩ := List.mem_iff_getElem.1 hx
  unfold elimA at hi ⊢
  rw [List.getElem_mapIdx]
  have hi' : i < a.length := by simpa using hi
  exact elimG_ok hp (h _ (List.getElem_mem hi'))
def pivA (p : Int) (c : Nat) (m a : Rows) (r k : Nat) : Rows := scaleM p (invF p (el (gr (swapM m r k) r) c)) (swapM a r k) r
def stepA (p : Int) (c : Nat) (m a : Rows) (r k : Nat) : Rows := elimA p c r (pivA p c m m r k) (pivA p c m a r k)
theorem pivA_len (p : Int) (c : Nat) (m a : Rows) (r k : Nat) : (pivA p c m a r k).length = a.length := by unfold pivA; rw [scaleM_len, swapM_len]
theorem stepA_len (p : Int) (c : Nat) (m a : Rows) (r k : Nat) : (stepA p c m a r k).length = a.length := by unfold stepA; rw [elimA_len, pivA_len]
theorem pivA_ok {p : Int} {c n : Nat} {m a : Rows} {r k : Nat} (hp : 2 ≤ p) (h : okM p n a) (hr : r < a.length) (hk : k < a.length) : okM p n (pivA p c m a r k) :=
  scaleM_ok hp (swapM_ok h hr hk) (by rw [swapM_len]; exact hr)
theorem stepA_ok {p : Int} {c n : Nat} {m a : Rows} {r k : Nat} (hp : 2 ≤ p) (h : okM p n a) (hr : r < a.length) (hk : k < a.length) : okM p n (stepA p c m a r k) := elimA_ok hp (pivA_ok hp h hr hk)
/-- the reduction of the columns c .. c + d - 1, from rank r on -/
def redLoop (p : Int) : Nat → Nat → Rows → Rows → Nat → Rows × Rows × Nat
  | 0, _, m, a, r => (m, a, r)
  | d + 1, c, m, a, r =>
    if r < m.length then
      if scanN m c (m.length - r) r = m.length then redLoop p d (c + 1) m a r
      else redLoop p d (c + 1) (stepA p c m m r (scanN m c (m.length - r) r)) (stepA p c m a r (scanN m c (m.length - r) r)) (r + 1)
    else (m, a, r)

/-! ### the reference -/
noncomputable def specBody (p n : Int) (st : Rows × Int × Int) : Option ((Rows × Int × Int) ⊕ (Rows × Int)) :=
      ((some (decide (st.2.2 < n))).bind fun a23919 =>
        cond a23919
        ((some (decide (st.2.1 < ((st.1.length : Nat) : Int)))).bind fun a23923 =>
          some a23923)
        (some false)).bind fun (s23913 : Bool) =>
      cond s23913
      (((whileO (fun (s26612 : Int) =>
              ((some (decide (s26612 < ((st.1.length : Nat) : Int)))).bind fun a26650 =>
                cond a26650
                ((idxO st.1 s26612).bind fun a26660 =>
                  (idxO a26660 st.2.2).bind fun a26669 =>
                  (some (decide (a26669 = 0))).bind fun a26671 =>
                  some a26671)
                (some false)).bind fun (s26644 : Bool) =>
              cond s26644
              ((addO s26612 1).bind fun a26678 =>
                some (.inl a26678))
              (some (.inr s26612))) st.2.1).bind fun (s26486 : Int) =>
          (some (decide (s26486 = ((st.1.length : Nat) : Int)))).bind fun a26682 =>
          cond a26682
          (some (st.1, st.2.1))
          ((idxO st.1 st.2.1).bind fun _ =>
            (idxO st.1 s26486).bind fun _ =>
            (swapO st.1 st.2.1 s26486).bind fun a26717 =>
            (idxO a26717 st.2.1).bind fun a26725 =>
            (idxO a26725 st.2.2).bind fun a26734 =>
            (F_spec_fdInv p a26734).bind fun y26736 =>
            (idxO a26717 st.2.1).bind fun a26745 =>
            (forS (fun (k26749 : Nat) (s26838 : List (List Int)) =>
                (idxO s26838 st.2.1).bind fun a26854 =>
                (idxO s26838 st.2.1).bind fun a26863 =>
                (idxO a26863 ((k26749 : Nat) : Int)).bind fun a26872 =>
                (F_spec_fdMul p a26872 y26736).bind fun y26874 =>
                (setO a26854 ((k26749 : Nat) : Int) y26874).bind fun a26884 =>
                (setO s26838 st.2.1 a26884).bind fun a26887 =>
                some a26887) a26745.length 0 a26717).bind fun (s26891 : List (List Int)) =>
            (forS (fun (k26893 : Nat) (s28062 : List (List Int)) =>
                (((some (decide (((k26893 : Nat) : Int) = st.2.1))).bind fun a28393 =>
                    cond a28393
                    (some true)
                    ((idxO s28062 ((k26893 : Nat) : Int)).bind fun a28402 =>
                      (idxO a28402 st.2.2).bind fun a28411 =>
                      (some (decide (a28411 = 0))).bind fun a28413 =>
                      some a28413)).bind fun (s28387 : Bool) =>
                  cond s28387
                  (some s28062)
                  ((idxO s28062 ((k26893 : Nat) : Int)).bind fun a28425 =>
                    (idxO a28425 st.2.2).bind fun a28434 =>
                    (idxO s28062 ((k26893 : Nat) : Int)).bind fun a28442 =>
                    (forS (fun (k28446 : Nat) (s28575 : List (List Int)) =>
                        (idxO s28575 ((k26893 : Nat) : Int)).bind fun a28591 =>
                        (idxO s28575 ((k26893 : Nat) : Int)).bind fun a28600 =>
                        (idxO s28575 st.2.1).bind fun a28609 =>
                        (idxO a28600 ((k28446 : Nat) : Int)).bind fun a28618 =>
                        (idxO a28609 ((k28446 : Nat) : Int)).bind fun a28626 =>
                        (F_spec_fdMul p a28434 a28626).bind fun y28628 =>
                        (F_spec_fdSub p a28618 y28628).bind fun y28631 =>
                        (setO a28591 ((k28446 : Nat) : Int) y28631).bind fun a28641 =>
                        (setO s28575 ((k26893 : Nat) : Int) a28641).bind fun a28644 =>
                        some a28644) a28442.length 0 s28062).bind fun (s28648 : List (List Int)) =>
                    some s28648)).bind fun (s28358 : List (List Int)) =>
                some s28358) s26891.length 0 s26891).bind fun (s28655 : List (List Int)) =>
            (addO st.2.1 1).bind fun a28657 =>
            some (s28655, a28657))).bind fun (s26292 : List (List Int) × Int) =>
        (addO st.2.2 1).bind fun a28662 =>
        some (.inl (s26292.1, s26292.2, a28662)))
      (some (.inr (st.1, st.2.1)))
theorem spec_step {p : Int} {n N c r : Nat} {m : Rows} (hf : fdB p = true) (h : okM p N m) (hn : n ≤ N) (hN : N ≤ 1048576) (hL : m.length ≤ 1048576) (hr : r < m.length) (hc : c < n) :
    specBody p (n : Int) (m, (r : Int), (c : Int)) = some (.inl (if scanN m c (m.length - r) r = m.length then (m, (r : Int), (c : Int) + 1) else (stepA p c m m r (scanN m c (m.length - r) r), (r : Int) + 1, (c : Int) + 1))) := by
  have hp := fdB_rng hf
  unfold specBody
  dsimp only
  refine bnd (a := true) (stp (cTW (dT (by omega)) (stp (by rw [dT (by omega)])))) (cTW rfl ?_)
  have hsc : ∀ {f : Int → Option (Int ⊕ Int)}, (∀ k : Nat, k < m.length → f (k : Int) = some (if el (gr m k) c = 0 then .inl ((k : Int) + 1) else .inr (k : Int))) → f (m.length : Int) = some (.inr (m.length : Int)) → whileO f (r : Int) = some ((scanN m c (m.length - r) r : Nat) : Int) := fun h1 h2 => scan_ h1 h2 _ _ (by omega)
  obtain ⟨s1, s2, s3⟩ := scanN_spec m c (m.length - r) r (by omega)
  generalize scanN m c (m.length - r) r = k at hsc s1 s2 s3 ⊢
  refine bnd (a := if k = m.length then (m, (r : Int)) else (stepA p c m m r k, (r : Int) + 1)) ?_ ?_
  · refine bnd (hsc ?_ ?_) (stp ?_)
    · intro i hi
      have hrow := okM_gr h hi
      refine bnd (a := decide (el (gr m i) c = 0)) (stp (cTW (dT (by omega)) (bnd (idx_gr hi) (bnd (idx_el (by omega)) rfl)))) ?_
      by_cases h0 : el (gr m i) c = 0
      · rw [if_pos h0]; exact cTW (dT h0) (bnd (addO_of (by omega) (by omega)) rfl)
      · rw [if_neg h0]; exact cFW (dF h0) rfl
    · exact bnd (a := false) (stp (cFW (dF (by omega)) rfl)) (cFW rfl rfl)
    · by_cases hk : k = m.length
      · rw [if_pos hk]; exact cTW (dT (by omega)) rfl
      · rw [if_neg hk]
        have hkl : k < m.length := by omega
        have hne := s3 hkl
        refine cFW (dF (by omega)) ?_
        refine bnd (idx_gr hr) (bnd (idx_gr hkl) (bnd (swapO_ hr hkl) ?_))
        have h1 : okM p N (swapM m r k) := swapM_ok h hr hkl
        have hr1 : r < (swapM m r k).length := by rw [swapM_len]; exact hr
        have hrow := okM_gr h1 hr1
        have hel := okM_el h1 hr1 (show c < N by omega)
        have hnz : el (gr (swapM m r k) r) c ≠ 0 := by rw [swapM_gr hr hkl]; exact hne
        obtain ⟨_, i1, i2, i3⟩ := inverse_ hf (x := el (gr (swapM m r k) r) c) ⟨by omega, hel.2⟩
        change (idxO (swapM m r k) (r : Int)).bind _ = _
        refine bnd (idx_gr hr1) (bnd (idx_el (by omega)) (bnd (fdInv_ hf ⟨by omega, hel.2⟩) (bnd (idx_gr hr1) ?_)))
        refine bnd (specScale hp h1 hr1 ⟨i2, i3⟩) ?_
        change (forS _ (pivA p c m m r k).length 0 (pivA p c m m r k)).bind _ = _
        have h2 : okM p N (pivA p c m m r k) := pivA_ok hp.1 h hr hkl
        have hl2 : (pivA p c m m r k).length = m.length := pivA_len p c m m r k
        have hr2 : r < (pivA p c m m r k).length := by omega
        have := forS_is (n := (pivA p c m m r k).length) (fun i => partG (elimG p c r (pivA p c m m r k) (pivA p c m m r k)) (pivA p c m m r k) i) (f := (fun (k26893 : Nat) (s28062 : List (List Int)) =>
                (((some (decide (((k26893 : Nat) : Int) = (r : Int)))).bind fun a28393 =>
                    cond a28393
                    (some true)
                    ((idxO s28062 ((k26893 : Nat) : Int)).bind fun a28402 =>
                      (idxO a28402 (c : Int)).bind fun a28411 =>
                      (some (decide (a28411 = 0))).bind fun a28413 =>
                      some a28413)).bind fun (s28387 : Bool) =>
                  cond s28387
                  (some s28062)
                  ((idxO s28062 ((k26893 : Nat) : Int)).bind fun a28425 =>
                    (idxO a28425 (c : Int)).bind fun a28434 =>
                    (idxO s28062 ((k26893 : Nat) : Int)).bind fun a28442 =>
                    (forS (fun (k28446 : Nat) (s28575 : List (List Int)) =>
                        (idxO s28575 ((k26893 : Nat) : Int)).bind fun a28591 =>
                        (idxO s28575 ((k26893 : Nat) : Int)).bind fun a28600 =>
                        (idxO s28575 (r : Int)).bind fun a28609 =>
                        (idxO a28600 ((k28446 : Nat) : Int)).bind fun a28618 =>
                        (idxO a28609 ((k28446 : Nat) : Int)).bind fun a28626 =>
                        (F_spec_fdMul p a28434 a28626).bind fun y28628 =>
                        (F_spec_fdSub p a28618 y28628).bind fun y28631 =>
                        (setO a28591 ((k28446 : Nat) : Int) y28631).bind fun a28641 =>
                        (setO s28575 ((k26893 : Nat) : Int) a28641).bind fun a28644 =>
                        some a28644) a28442.length 0 s28062).bind fun (s28648 : List (List Int)) =>
                    some s28648)).bind fun (s28358 : List (List Int)) =>
                some s28358)) ?_
        · rw [partG0, partGN] at this
          exact bnd this (bnd (addO_of (by omega) (by omega)) rfl)
        · generalize pivA p c m m r k = w at h2 hl2 hr2
          intro i hi
          have hg1 : gr (partG (elimG p c r w w) w i) i = gr w i := by rw [gr_part hi, if_neg (by omega)]
          have hg2 : gr (partG (elimG p c r w w) w i) r = gr w r := by
            rw [gr_part hr2]
            split
            · unfold elimG; rw [if_pos (Or.inl rfl)]
            · rfl
          have hrow2 := okM_gr h2 hi
          have hli : i < (partG (elimG p c r w w) w i).length := by rw [partG_len]; exact hi
          have hlr : r < (partG (elimG p c r w w) w i).length := by rw [partG_len]; exact hr2
          have hok : okM p N (partG (elimG p c r w w) w i) := by
            intro x hx
            obtain ⟨q, hq, rfl⟩ := List.mem_iff_getElem.1 hx
            have hq' : q < w.length := by rw [partG_len] at hq; exact hq
            have h5 := gr_get (m := partG (elimG p c r w w) w i) (i := q) hq
            rw [List.getElem?_eq_getElem hq] at h5
            rw [Option.some.inj h5, gr_part hq']
            split
            · exact elimG_ok hp.1 (okM_gr h2 hq')
            · exact okM_gr h2 hq'
          have hset := part_setG (g := elimG p c r w w) (m := w) hi
          have i1 := idx_gr hli
          rw [hg1] at i1
          by_cases hir : i = r
          · refine bnd (a := partG (elimG p c r w w) w (i + 1)) (bnd (a := true) (stp (cTW (dT (by omega)) rfl)) (cTW rfl ?_)) rfl
            rw [← hset]
            have : elimG p c r w w i (gr w i) = gr w i := by unfold elimG; rw [if_pos (Or.inl hir)]
            rw [this, ← hg1, set_gr hli]
          · by_cases h0 : el (gr w i) c = 0
            · refine bnd (a := partG (elimG p c r w w) w (i + 1)) (bnd (a := true) (stp (cFW (dF (by omega)) (bnd i1 (bnd (idx_el (by omega)) (stp (by rw [dT h0])))))) (cTW rfl ?_)) rfl
              rw [← hset]
              have : elimG p c r w w i (gr w i) = gr w i := by unfold elimG; rw [if_pos (Or.inr h0)]
              rw [this, ← hg1, set_gr hli]
            · refine bnd (a := partG (elimG p c r w w) w (i + 1)) (bnd (a := false) (stp (cFW (dF (by omega)) (bnd i1 (bnd (idx_el (by omega)) (stp (by rw [dF h0])))))) (cFW rfl ?_)) rfl
              refine bnd i1 (bnd (idx_el (by omega)) (bnd i1 ?_))
              have hfe := okM_el h2 hi (show c < N by omega)
              have := specSub (f := el (gr w i) c) hp hok hlr hli hir hfe
              rw [hg1, hg2] at this
              refine bnd this ?_
              rw [← hset]
              unfold elimG
              rw [if_neg (by intro h; rcases h with h | h; exact hir h; exact h0 h)]
  · by_cases hk : k = m.length
    · rw [if_pos hk, if_pos hk]; exact bnd (addO_of (by omega) (by omega)) rfl
    · rw [if_neg hk, if_neg hk]; exact bnd (addO_of (by omega) (by omega)) rfl
theorem spec_loop {p : Int} {n N : Nat} (hf : fdB p = true) (hn : n ≤ N) (hN : N ≤ 1048576) : ∀ (d c : Nat) (m a : Rows) (r : Nat), c + d = n → okM p N m → m.length ≤ 1048576 → r ≤ m.length → whileO (specBody p (n : Int)) (m, (r : Int), (c : Int)) = some ((redLoop p d c m a r).1, ((redLoop p d c m a r).2.2 : Int))
  | 0, c, m, a, r, hc, h, hL, hr => by
    refine whileO_end ?_
    unfold specBody
    exact bnd (a := false) (stp (cFW (dF (by dsimp only; omega)) rfl)) (cFW rfl rfl)
  | d + 1, c, m, a, r, hc, h, hL, hr => by
    unfold redLoop
    by_cases hrl : r < m.length
    · rw [if_pos hrl]
      have hs := spec_step hf h hn hN hL hrl (show c < n by omega)
      obtain ⟨s1, s2, s3⟩ := scanN_spec m c (m.length - r) r (by omega)
      split
      · rename_i hk
        rw [if_pos hk] at hs
        rw [whileO_step hs]
        exact spec_loop hf hn hN d (c + 1) m a r (by omega) h hL hr
      · rename_i hk
        rw [if_neg hk] at hs
        rw [whileO_step hs]
        have hkl : scanN m c (m.length - r) r < m.length := by omega
        exact spec_loop hf hn hN d (c + 1) _ _ (r + 1) (by omega) (stepA_ok (fdB_rng hf).1 h hrl hkl) (by rw [stepA_len]; exact hL) (by rw [stepA_len]; omega)
    · rw [if_neg hrl]
      refine whileO_end ?_
      unfold specBody
      exact bnd (a := false) (stp (cTW (dT (by dsimp only; omega)) (stp (by rw [dF (by dsimp only; omega)])))) (cFW rfl rfl)
end Go.Proofs.YteikcdofblclhaaDoor
