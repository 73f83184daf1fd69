/-
  Plain laws: a reduction in the program; both reductions yield the same rows. No program in sight. No condition.
-/
import Derived.Test.YteikcdofblclhaaDoorZP12
namespace Go.Proofs.YteikcdofblclhaaDoor

theorem apply_exch {p : Int} {l : Rows} {r k : Nat} (hr : r < l.length) (hk : k < l.length) : F_impl_rowOperation_apply (0, (r : Int), (k : Int), 0) p l = some (swapM l r k) := by
  refine stp (cTW rfl ?_)
  exact bnd (idx_gr hk) (bnd (idx_gr hr) (bnd (swapO_ hr hk) rfl))
theorem apply_div {p x : Int} {n : Nat} {l : Rows} {r : Nat} (hf : fdB p = true) (h : okM p n l) (hr : r < l.length) (hx : 0 < x ∧ x < p) : F_impl_rowOperation_apply (1, (r : Int), 0, x) p l = some (scaleM p (invF p x) l r) := by
  have hp := fdB_rng hf
  obtain ⟨i0, _, i2, i3⟩ := inverse_ hf hx
  refine stp (cFW rfl (stp (cTW rfl ?_)))
  exact bnd i0 (bnd (idx_gr hr) (bnd (implScale hp (okM_gr h hr).2 ⟨i2, i3⟩) (bnd (setO_of _ hr) rfl)))
theorem apply_sub {p f : Int} {n : Nat} {l : Rows} {i r : Nat} (hp : 2 ≤ p ∧ p ≤ 97) (h : okM p n l) (hi : i < l.length) (hr : r < l.length) (hir : i ≠ r) (hf : 0 ≤ f ∧ f < p) : F_impl_rowOperation_apply (2, (i : Int), (r : Int), f) p l = some (l.set i (mapR (subG p f (gr l r)) (gr l i))) := by
  have h1 := okM_gr h hi
  have h2 := okM_gr h hr
  refine stp (cFW rfl (stp (cFW rfl (stp (cTW rfl ?_)))))
  refine bnd (idx_gr hi) (bnd (cI_of ⟨by dsimp only; omega, by dsimp only; omega⟩) (bnd (idx_gr hr) (bnd (implSub hp h1.2 h2.2 (by omega) hf) (bnd (a := ()) ?_ (bnd (setO_of _ hi) rfl)))))
  unfold neqO
  rw [if_neg (by dsimp only; omega)]
theorem red1_exch {p : Int} {m a : Rows} {r k : Nat} (hr : r < m.length) (hk : k < m.length) (hl : a.length = m.length) : F_impl_reduction_1 (0, (r : Int), (k : Int), 0) p m a = some (swapM m r k, swapM a r k) := by
  refine stp ?_
  by_cases h : k = r
  · subst h
    rw [swapM_self hr, swapM_self (by omega)]
    exact cTW (dT rfl) rfl
  · refine cFW (dF ?_) (bnd (apply_exch hr hk) (bnd (apply_exch (by omega) (by omega)) rfl))
    intro e
    simp only [List.cons.injEq] at e
    exact h (by have := e.2.2.1; omega)
theorem red1_div {p x : Int} {n q : Nat} {m a : Rows} {r : Nat} (hf : fdB p = true) (h : okM p n m) (ha : okM p q a) (hr : r < m.length) (hl : a.length = m.length) (hx : 0 < x ∧ x < p) : F_impl_reduction_1 (1, (r : Int), 0, x) p m a = some (scaleM p (invF p x) m r, scaleM p (invF p x) a r) := by
  refine stp (cFW (dF ?_) (bnd (apply_div hf h hr hx) (bnd (apply_div hf ha (by omega) hx) rfl)))
  intro e
  simp only [List.cons.injEq] at e
  have := e.1; omega
theorem red1_sub {p f : Int} {n q : Nat} {m a : Rows} {i r : Nat} (hp : 2 ≤ p ∧ p ≤ 97) (h : okM p n m) (ha : okM p q a) (hi : i < m.length) (hr : r < m.length) (hl : a.length = m.length) (hir : i ≠ r) (hf : 0 ≤ f ∧ f < p) :
    F_impl_reduction_1 (2, (i : Int), (r : Int), f) p m a = some (m.set i (mapR (subG p f (gr m r)) (gr m i)), a.set i (mapR (subG p f (gr a r)) (gr a i))) := by
  refine stp (cFW (dF ?_) (bnd (apply_sub hp h hi hr hir hf) (bnd (apply_sub hp ha (by omega) (by omega) hir hf) rfl)))
  intro e
  simp only [List.cons.injEq] at e
  have := e.1; omega
theorem part_ok {p : Int} {c r n : Nat} {m a : Rows} (hp : 2 ≤ p) (h : okM p n a) (i : Nat) : okM p n (partG (elimG p c r m a) a i) := by
  intro x hx
  obtain ⟨q, hq, rfl⟩ := List.mem_iff_getElem.1 hx
  have hq' : q < a.length := by rw [partG_len] at hq; exact hq
  have h5 := gr_get (m := partG (elimG p c r m a) a i) (i := q) hq
  rw [List.getElem?_eq_getElem hq] at h5
  rw [Option.some.inj h5, gr_part hq']
  split
  · exact elimG_ok hp (okM_gr h hq')
  · exact okM_gr h hq'
theorem part_self {p : Int} {c r : Nat} {m a : Rows} {i : Nat} (hi : i < a.length) : gr (partG (elimG p c r m a) a i) i = gr a i := by rw [gr_part hi, if_neg (by omega)]
theorem part_piv {p : Int} {c r : Nat} {m a : Rows} (i : Nat) (hr : r < a.length) : gr (partG (elimG p c r m a) a i) r = gr a r := by
  rw [gr_part hr]
  split
  · unfold elimG; rw [if_pos (Or.inl rfl)]
  · rfl
theorem part_skip {p : Int} {c r : Nat} {m a : Rows} {i : Nat} (hi : i < a.length) (h : i = r ∨ el (gr m i) c = 0) : partG (elimG p c r m a) a (i + 1) = partG (elimG p c r m a) a i := by
  rw [← part_setG hi]
  have h1 : elimG p c r m a i (gr a i) = gr a i := by unfold elimG; rw [if_pos h]
  rw [h1]
  have h2 := set_gr (m := partG (elimG p c r m a) a i) (i := i) (by rw [partG_len]; exact hi)
  rw [part_self hi] at h2
  exact h2
theorem part_sub {p : Int} {c r : Nat} {m a : Rows} {i : Nat} (hi : i < a.length) (hir : i ≠ r) (h0 : el (gr m i) c ≠ 0) : partG (elimG p c r m a) a (i + 1) = (partG (elimG p c r m a) a i).set i (mapR (subG p (el (gr m i) c) (gr a r)) (gr a i)) := by
  rw [← part_setG hi]
  have h1 : elimG p c r m a i (gr a i) = mapR (subG p (el (gr m i) c) (gr a r)) (gr a i) := by unfold elimG; rw [if_neg (by intro h; rcases h with h | h; exact hir h; exact h0 h)]
  rw [h1]

noncomputable def implBody (p n : Int) (st : Rows × Rows × Int × Int) : Option ((Rows × Rows × Int × Int) ⊕ (Rows × Rows × Int)) :=
      ((some (decide (st.2.2.1 < n))).bind fun a6807 =>
        cond a6807
        ((some (decide (st.2.2.2 < ((st.1.length : Nat) : Int)))).bind fun a6811 =>
          some a6811)
        (some false)).bind fun (s6801 : Bool) =>
      cond s6801
      (((whileO (fun (s7797 : Int) =>
              ((some (decide (s7797 < ((st.1.length : Nat) : Int)))).bind fun a7835 =>
                cond a7835
                ((idxO st.1 s7797).bind fun a7845 =>
                  (idxO a7845 st.2.2.1).bind fun a7854 =>
                  (some (decide (a7854 = 0))).bind fun a7856 =>
                  some a7856)
                (some false)).bind fun (s7829 : Bool) =>
              cond s7829
              ((addO s7797 1).bind fun a7863 =>
                some (.inl a7863))
              (some (.inr s7797))) st.2.2.2).bind fun (s7671 : Int) =>
          (some (decide (s7671 = ((st.1.length : Nat) : Int)))).bind fun a7867 =>
          cond a7867
          (some (st.1, st.2.1, st.2.2.2))
          ((F_impl_reduction_1 (0, st.2.2.2, s7671, 0) p st.1 st.2.1).bind fun y7870 =>
            (idxO y7870.1 st.2.2.2).bind fun a7879 =>
            (idxO a7879 st.2.2.1).bind fun a7888 =>
            (F_impl_reduction_1 (1, st.2.2.2, 0, a7888) p y7870.1 y7870.2).bind fun y7890 =>
            (forS (fun (k7893 : Nat) (s8050 : List (List Int) × List (List Int)) =>
                ((some (!decide (((k7893 : Nat) : Int) = st.2.2.2))).bind fun a8088 =>
                  cond a8088
                  ((idxO s8050.1 ((k7893 : Nat) : Int)).bind fun a8098 =>
                    (idxO a8098 st.2.2.1).bind fun a8107 =>
                    (some (!decide (a8107 = 0))).bind fun a8109 =>
                    some a8109)
                  (some false)).bind fun (s8082 : Bool) =>
                cond s8082
                ((idxO s8050.1 ((k7893 : Nat) : Int)).bind fun a8121 =>
                  (idxO a8121 st.2.2.1).bind fun a8130 =>
                  (F_impl_reduction_1 (2, ((k7893 : Nat) : Int), st.2.2.2, a8130) p s8050.1 s8050.2).bind fun y8132 =>
                  some (y8132.1, y8132.2))
                (some (s8050.1, s8050.2))) y7890.1.length 0 (y7890.1, y7890.2)).bind fun (s8137 : List (List Int) × List (List Int)) =>
            (addO st.2.2.2 1).bind fun a8139 =>
            some (s8137.1, s8137.2, a8139))).bind fun (s7477 : List (List Int) × List (List Int) × Int) =>
        (addO st.2.2.1 1).bind fun a8144 =>
        some (.inl (s7477.1, s7477.2.1, a8144, s7477.2.2)))
      (some (.inr (st.1, st.2.1, st.2.2.2)))
theorem impl_step {p : Int} {n N q c r : Nat} {m a : Rows} (hf : fdB p = true) (h : okM p N m) (ha : okM p q a) (hn : n ≤ N) (hN : N ≤ 1048576) (hL : m.length ≤ 1048576) (hl : a.length = m.length) (hr : r < m.length) (hc : c < n) :
    implBody p (n : Int) (m, a, (c : Int), (r : Int)) = some (.inl (if scanN m c (m.length - r) r = m.length then (m, a, (c : Int) + 1, (r : Int)) else (stepA p c m m r (scanN m c (m.length - r) r), stepA p c m a r (scanN m c (m.length - r) r), (c : Int) + 1, (r : Int) + 1))) := by
  have hp := fdB_rng hf
  unfold implBody
  dsimp only
  refine bnd (a := true) (stp (cTW (dT (by omega)) (stp (by rw [dT (by omega)])))) (cTW rfl ?_)
  have hsc : ∀ {f : Int → Option (Int ⊕ Int)}, (∀ k : Nat, k < m.length → f (k : Int) = some (if el (gr m k) c = 0 then .inl ((k : Int) + 1) else .inr (k : Int))) → f (m.length : Int) = some (.inr (m.length : Int)) → whileO f (r : Int) = some ((scanN m c (m.length - r) r : Nat) : Int) := fun h1 h2 => scan_ h1 h2 _ _ (by omega)
  obtain ⟨s1, s2, s3⟩ := scanN_spec m c (m.length - r) r (by omega)
  generalize scanN m c (m.length - r) r = k at hsc s1 s2 s3 ⊢
  refine bnd (a := if k = m.length then (m, a, (r : Int)) else (stepA p c m m r k, stepA p c m a r k, (r : Int) + 1)) ?_ ?_
  · refine bnd (hsc ?_ ?_) (stp ?_)
    · intro i hi
      have hrow := okM_gr h hi
      refine bnd (a := decide (el (gr m i) c = 0)) (stp (cTW (dT (by omega)) (bnd (idx_gr hi) (bnd (idx_el (by omega)) rfl)))) ?_
      by_cases h0 : el (gr m i) c = 0
      · rw [if_pos h0]; exact cTW (dT h0) (bnd (addO_of (by omega) (by omega)) rfl)
      · rw [if_neg h0]; exact cFW (dF h0) rfl
    · exact bnd (a := false) (stp (cFW (dF (by omega)) rfl)) (cFW rfl rfl)
    · by_cases hk : k = m.length
      · rw [if_pos hk]; exact cTW (dT (by omega)) rfl
      · rw [if_neg hk]
        have hkl : k < m.length := by omega
        have hne := s3 hkl
        refine cFW (dF (by omega)) ?_
        have h1 : okM p N (swapM m r k) := swapM_ok h hr hkl
        have h1a : okM p q (swapM a r k) := swapM_ok ha (by omega) (by omega)
        have hr1 : r < (swapM m r k).length := by rw [swapM_len]; exact hr
        have hrow := okM_gr h1 hr1
        have hel := okM_el h1 hr1 (show c < N by omega)
        have hnz : el (gr (swapM m r k) r) c ≠ 0 := by rw [swapM_gr hr hkl]; exact hne
        refine bnd (red1_exch hr hkl hl) ?_
        dsimp only
        refine bnd (idx_gr hr1) (bnd (idx_el (by omega)) (bnd (red1_div hf h1 h1a hr1 (by rw [swapM_len, swapM_len]; exact hl) ⟨by omega, hel.2⟩) ?_))
        change (forS _ (pivA p c m m r k).length 0 (pivA p c m m r k, pivA p c m a r k)).bind _ = _
        have h2 : okM p N (pivA p c m m r k) := pivA_ok hp.1 h hr hkl
        have h2a : okM p q (pivA p c m a r k) := pivA_ok hp.1 ha (by omega) (by omega)
        have hl2 : (pivA p c m m r k).length = m.length := pivA_len p c m m r k
        have hl2a : (pivA p c m a r k).length = m.length := by rw [pivA_len]; exact hl
        have hr2 : r < (pivA p c m m r k).length := by omega
        have := forS_is (n := (pivA p c m m r k).length) (fun i => (partG (elimG p c r (pivA p c m m r k) (pivA p c m m r k)) (pivA p c m m r k) i, partG (elimG p c r (pivA p c m m r k) (pivA p c m a r k)) (pivA p c m a r k) i)) (f := (fun (k7893 : Nat) (s8050 : List (List Int) × List (List Int)) =>
                ((some (!decide (((k7893 : Nat) : Int) = (r : Int)))).bind fun a8088 =>
                  cond a8088
                  ((idxO s8050.1 ((k7893 : Nat) : Int)).bind fun a8098 =>
                    (idxO a8098 (c : Int)).bind fun a8107 =>
                    (some (!decide (a8107 = 0))).bind fun a8109 =>
                    some a8109)
                  (some false)).bind fun (s8082 : Bool) =>
                cond s8082
                ((idxO s8050.1 ((k7893 : Nat) : Int)).bind fun a8121 =>
                  (idxO a8121 (c : Int)).bind fun a8130 =>
                  (F_impl_reduction_1 (2, ((k7893 : Nat) : Int), (r : Int), a8130) p s8050.1 s8050.2).bind fun y8132 =>
                  some (y8132.1, y8132.2))
                (some (s8050.1, s8050.2)))) ?_
        · have e1 : partG (elimG p c r (pivA p c m m r k) (pivA p c m m r k)) (pivA p c m m r k) (pivA p c m m r k).length = stepA p c m m r k := partGN _ _
          have e2 : partG (elimG p c r (pivA p c m m r k) (pivA p c m a r k)) (pivA p c m a r k) (pivA p c m m r k).length = stepA p c m a r k := by
            rw [hl2, ← hl2a, partGN]; rfl
          rw [partG0, partG0, e1, e2] at this
          exact bnd this (bnd (addO_of (by omega) (by omega)) rfl)
        · show ∀ i, i < (pivA p c m m r k).length → _
          unfold stepA at *
          generalize pivA p c m m r k = w at h2 hl2 hr2
          generalize pivA p c m a r k = b at h2a hl2a
          intro i hi
          have hib : i < b.length := by omega
          have hrb : r < b.length := by omega
          have hrow2 := okM_gr h2 hi
          have hli : i < (partG (elimG p c r w w) w i).length := by rw [partG_len]; exact hi
          have hlr : r < (partG (elimG p c r w w) w i).length := by rw [partG_len]; exact hr2
          have i1 := idx_gr hli
          rw [part_self hi] at i1
          by_cases hir : i = r
          · refine bnd (a := false) (stp (cFW (nT (dT (by omega))) rfl)) (cFW rfl ?_)
            rw [part_skip hi (Or.inl hir), part_skip hib (Or.inl hir)]
          · by_cases h0 : el (gr w i) c = 0
            · refine bnd (a := false) (stp (cTW (nF (dF (by omega))) (bnd i1 (bnd (idx_el (by omega)) (stp (by rw [dT h0]; rfl)))))) (cFW rfl ?_)
              rw [part_skip hi (Or.inr h0), part_skip hib (Or.inr h0)]
            · refine bnd (a := true) (stp (cTW (nF (dF (by omega))) (bnd i1 (bnd (idx_el (by omega)) (stp (by rw [dF h0]; rfl)))))) (cTW rfl ?_)
              refine bnd i1 (bnd (idx_el (by omega)) ?_)
              have hfe := okM_el h2 hi (show c < N by omega)
              have := red1_sub (f := el (gr w i) c) hp (part_ok (c := c) (r := r) (m := w) hp.1 h2 i) (part_ok (c := c) (r := r) (m := w) hp.1 h2a i) hli hlr (by rw [partG_len, partG_len]; omega) hir hfe
              rw [part_self hi, part_self hib, part_piv i hr2, part_piv i hrb] at this
              refine bnd this ?_
              rw [part_sub hi hir h0, part_sub hib hir h0]
  · by_cases hk : k = m.length
    · rw [if_pos hk, if_pos hk]; exact bnd (addO_of (by omega) (by omega)) rfl
    · rw [if_neg hk, if_neg hk]; exact bnd (addO_of (by omega) (by omega)) rfl
theorem impl_loop {p : Int} {n N q : Nat} (hf : fdB p = true) (hn : n ≤ N) (hN : N ≤ 1048576) : ∀ (d c : Nat) (m a : Rows) (r : Nat), c + d = n → okM p N m → okM p q a → m.length ≤ 1048576 → a.length = m.length → r ≤ m.length →
    whileO (implBody p (n : Int)) (m, a, (c : Int), (r : Int)) = some ((redLoop p d c m a r).1, (redLoop p d c m a r).2.1, ((redLoop p d c m a r).2.2 : Int))
  | 0, c, m, a, r, hc, h, ha, hL, hl, hr => by
    refine whileO_end ?_
    unfold implBody
    exact bnd (a := false) (stp (cFW (dF (by dsimp only; omega)) rfl)) (cFW rfl rfl)
  | d + 1, c, m, a, r, hc, h, ha, hL, hl, hr => by
    unfold redLoop
    by_cases hrl : r < m.length
    · rw [if_pos hrl]
      have hs := impl_step hf h ha hn hN hL hl hrl (show c < n by omega)
      obtain ⟨s1, s2, s3⟩ := scanN_spec m c (m.length - r) r (by omega)
      split
      · rename_i hk
        rw [if_pos hk] at hs
        rw [whileO_step hs]
        exact impl_loop hf hn hN d (c + 1) m a r (by omega) h ha hL hl hr
      · rename_i hk
        rw [if_neg hk] at hs
        rw [whileO_step hs]
        have hkl : scanN m c (m.length - r) r < m.length := by omega
        exact impl_loop hf hn hN d (c + 1) _ _ (r + 1) (by omega) (stepA_ok (fdB_rng hf).1 h hrl hkl) (stepA_ok (fdB_rng hf).1 ha (by omega) (by omega)) (by rw [stepA_len]; exact hL) (by rw [stepA_len, stepA_len]; exact hl) (by rw [stepA_len]; omega)
    · rw [if_neg hrl]
      refine whileO_end ?_
      unfold implBody
      exact bnd (a := false) (stp (cTW (dT (by dsimp only; omega)) (stp (by rw [dF (by dsimp only; omega)])))) (cFW rfl rfl)

/-! ### the whole -/
theorem redLoop_ok {p : Int} {N q : Nat} (hp : 2 ≤ p) : ∀ (d c : Nat) (m a : Rows) (r : Nat), okM p N m → okM p q a → a.length = m.length → r ≤ m.length →
    okM p N (redLoop p d c m a r).1 ∧ okM p q (redLoop p d c m a r).2.1 ∧ (redLoop p d c m a r).1.length = m.length ∧ (redLoop p d c m a r).2.1.length = m.length ∧ r ≤ (redLoop p d c m a r).2.2 ∧ (redLoop p d c m a r).2.2 ≤ m.length ∧ (redLoop p d c m a r).2.2 ≤ r + d
  | 0, c, m, a, r, h, ha, hl, hr => ⟨h, ha, rfl, hl, Nat.le_refl _, hr, by simp [redLoop]⟩
  | d + 1, c, m, a, r, h, ha, hl, hr => by
    unfold redLoop
    by_cases hrl : r < m.length
    · rw [if_pos hrl]
      obtain ⟨s1, s2, s3⟩ := scanN_spec m c (m.length - r) r (by omega)
      split
      · obtain ⟨k1, k2, k3, k4, k5, k6, k7⟩ := redLoop_ok hp d (c + 1) m a r h ha hl hr
        exact ⟨k1, k2, k3, k4, k5, k6, by omega⟩
      · have hkl : scanN m c (m.length - r) r < m.length := by omega
        obtain ⟨k1, k2, k3, k4, k5, k6, k7⟩ := redLoop_ok hp d (c + 1) (stepA p c m m r (scanN m c (m.length - r) r)) (stepA p c m a r (scanN m c (m.length - r) r)) (r + 1) (stepA_ok hp h hrl hkl) (stepA_ok hp ha (by omega) (by omega)) (by rw [stepA_len, stepA_len]; exact hl) (by rw [stepA_len]; omega)
        rw [stepA_len] at k3 k4 k6
        exact ⟨k1, k2, k3, k4, by omega, k6, by omega⟩
    · rw [if_neg hrl]; exact ⟨h, ha, rfl, hl, Nat.le_refl _, hr, Nat.le_add_right _ _⟩
/-- the reduced rows -/
def redM (p : Int) (n : Nat) (m : Rows) : Rows := (redLoop p n 0 m m 0).1.take (redLoop p n 0 m m 0).2.2
theorem redLoop_any (p : Int) : ∀ (d c : Nat) (m a b : Rows) (r : Nat), (redLoop p d c m a r).1 = (redLoop p d c m b r).1 ∧ (redLoop p d c m a r).2.2 = (redLoop p d c m b r).2.2
  | 0, _, _, _, _, _ => ⟨rfl, rfl⟩
  | d + 1, c, m, a, b, r => by
    unfold redLoop
    split
    · split
      · exact redLoop_any p d (c + 1) m a b r
      · exact redLoop_any p d (c + 1) _ _ _ (r + 1)
    · exact ⟨rfl, rfl⟩
theorem reduction_ {p : Int} {n N q : Nat} {m a : Rows} (hf : fdB p = true) (hn : n ≤ N) (hN : N ≤ 1048576) (h : okM p N m) (ha : okM p q a) (hL : m.length ≤ 1048576) (hl : a.length = m.length) :
    F_impl_reduction p m (n : Int) a = some ((redLoop p n 0 m a 0).1, (redLoop p n 0 m a 0).2.1, ((redLoop p n 0 m a 0).2.2 : Int)) :=
  bnd (impl_loop hf hn hN n 0 m a 0 (by omega) h ha hL hl (by omega)) rfl
theorem slice0 {α : Type} {l : List α} {k : Nat} (h : k ≤ l.length) : sliceO l 0 (k : Int) = some (l.take k) := by
  unfold sliceO
  rw [if_pos (by omega)]
  simp
theorem reduced_ {p : Int} {n N : Nat} {m : Rows} (hf : fdB p = true) (hn : n ≤ N) (hN : N ≤ 1048576) (h : okM p N m) (hL : m.length ≤ 1048576) : F_impl_reduced p m (n : Int) = some (redM p n m) := by
  have hm : maxN = 1099511627776 := rfl
  have ha : okM p 0 (List.replicate m.length ([] : List Int)) := by
    intro x hx
    rw [List.eq_of_mem_replicate hx]
    exact ⟨rfl, fun y hy => by cases hy⟩
  obtain ⟨k1, _, k3, _, _, k6, _⟩ := redLoop_ok (fdB_rng hf).1 n 0 m (List.replicate m.length []) 0 h ha (by simp) (by omega)
  obtain ⟨e1, e2⟩ := redLoop_any p n 0 m (List.replicate m.length []) m 0
  refine bnd (clones_ (by omega) (fun r hr => by have := (h r hr).1; omega)) (bnd (makeO_of _ (by omega)) (bnd (reduction_ hf hn hN h ha hL (by simp)) ?_))
  unfold redM
  rw [← e1, ← e2]
  exact bnd (slice0 (by dsimp only; omega)) rfl
theorem spReduce_ {p : Int} {n N : Nat} {m : Rows} (hf : fdB p = true) (hn : n ≤ N) (hN : N ≤ 1048576) (h : okM p N m) (hL : m.length ≤ 1048576) : F_spec_spReduce p (n : Int) m = some (redM p n m) := by
  have hm : maxN = 1099511627776 := rfl
  obtain ⟨k1, _, k3, _, _, k6, _⟩ := redLoop_ok (fdB_rng hf).1 n 0 m m 0 h h rfl (by omega)
  have hcopy : forS (fun (k2 : Nat) (s55 : List (List Int)) =>
      (idxO m ((k2 : Nat) : Int)).bind fun a72 =>
      (F_spec_l1Own a72).bind fun y76 =>
      (appO s55 [y76]).bind fun a84 =>
      some a84) m.length 0 [] = some m := by
    refine (forS_map (fun r => r) m [] (by simp; omega) ?_).trans (by simp)
    intro j x s hx hs
    have hj : j < m.length := (List.getElem?_eq_some_iff.1 hx).1
    have h1 := (h x (mem_of_get hx)).1
    exact bnd (idxO_of hx) (bnd (own_ (by omega)) (bnd (appO_of (by simp at hs ⊢; omega)) rfl))
  refine bnd hcopy (bnd (spec_loop hf hn hN n 0 m m 0 (by omega) h hL (by omega)) ?_)
  exact bnd (slice0 (by dsimp only; omega)) rfl
theorem redM_ok {p : Int} {n N : Nat} {m : Rows} (hp : 2 ≤ p) (h : okM p N m) : okM p N (redM p n m) ∧ (redM p n m).length ≤ m.length ∧ (redM p n m).length ≤ n := by
  obtain ⟨k1, _, k3, _, _, k6, k7⟩ := redLoop_ok hp n 0 m m 0 h h rfl (by omega)
  unfold redM
  refine ⟨fun r hr => k1 r (List.mem_of_mem_take hr), ?_, ?_⟩
  · rw [List.length_take]; omega
  · rw [List.length_take]; omega
end Go.Proofs.YteikcdofblclhaaDoor
