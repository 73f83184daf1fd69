/-
  Plain laws: the reference's reduction of a matrix with its transforming matrix; linear equations. No program in sight. No condition.
-/
import Derived.Test.YtnlbhdepagkjgaaDoorZP17
import Derived.Test.YtnlbhdepagkjgaaDoorZP14
namespace Go.Proofs.YtnlbhdepagkjgaaDoor
set_option linter.unusedVariables false

theorem fdNeg_ {p a : Int} (hp : 2 ≤ p ∧ p ≤ 97) (ha : 0 ≤ a ∧ a < p) : F_spec_fdNeg p a = some ((p - a) % p) := by
  refine bnd (subO_of (by omega) (by omega)) (bnd (remO_of (by omega)) ?_)
  rw [Int.tmod_eq_emod_of_nonneg (by omega)]
theorem mxScale_ {p k : Int} {r : List Int} (hp : 2 ≤ p ∧ p ≤ 97) (h : inP p r) (hk : 0 ≤ k ∧ k < p) : F_spec_mxScale p r k = some (mapR (scaleG p k) r) := by
  have := forS_is (n := r.length) (fun j => part (scaleG p k) r j) (f := fun (k2 : Nat) (s47 : List Int) =>
      (idxO s47 ((k2 : Nat) : Int)).bind fun a62 =>
      (F_spec_fdMul p a62 k).bind fun y64 =>
      (setO s47 ((k2 : Nat) : Int) y64).bind fun a73 =>
      some a73) (by
    intro j hj
    exact bnd (idxO_of (part_get _ _ hj)) (bnd (fdMul_ hp (h _ (el_mem hj)) hk) (bnd (setO_of _ (by rw [part_len]; exact hj)) (congrArg some (part_set (scaleG p k) r hj)))))
  rw [part0, partN] at this
  exact bnd this rfl
theorem mxLess_ {p f : Int} {v w : List Int} (hp : 2 ≤ p ∧ p ≤ 97) (hv : inP p v) (hw : inP p w) (hl : v.length = w.length) (hf : 0 ≤ f ∧ f < p) : F_spec_mxLess p v w f = some (mapR (subG p f w) v) := by
  have := forS_is (n := v.length) (fun j => part (subG p f w) v j) (f := fun (k3 : Nat) (s72 : List Int) =>
      (idxO s72 ((k3 : Nat) : Int)).bind fun a88 =>
      (idxO w ((k3 : Nat) : Int)).bind fun a96 =>
      (F_spec_fdMul p f a96).bind fun y98 =>
      (F_spec_fdSub p a88 y98).bind fun y101 =>
      (setO s72 ((k3 : Nat) : Int) y101).bind fun a110 =>
      some a110) (by
    intro j hj
    have hjw : j < w.length := by omega
    have hm := emod_in (p := p) (x := f * el w j) hp.1
    refine bnd (idxO_of (part_get _ _ hj)) (bnd (idx_el hjw) (bnd (fdMul_ hp hf (hw _ (el_mem hjw))) (bnd (fdSub_ hp (hv _ (el_mem hj)) hm) (bnd (setO_of _ (by rw [part_len]; exact hj)) ?_))))
    rw [sub_mod]
    exact congrArg some (part_set (subG p f w) v hj))
  rw [part0, partN] at this
  exact bnd this rfl
theorem swapM_comm {m : Rows} {r k : Nat} (hrk : r ≠ k) : (m.set k (gr m r)).set r (gr m k) = swapM m r k := by
  unfold swapM; rw [List.set_comm _ _ (Ne.symm hrk)]
/-- the rounds over the rows -/
theorem mrElim {p : Int} {N q c r : Nat} {w v : Rows} (hp : 2 ≤ p ∧ p ≤ 97) (h : okM p N w) (hv : okM p q v) (hl : v.length = w.length) (hr : r < w.length) (hc : c < N) :
    forS (fun (k11319 : Nat) (s11522 : Rows × Rows) =>
                (idxO s11522.1 ((k11319 : Nat) : Int)).bind fun a11537 =>
                (idxO a11537 (c : Int)).bind fun a11546 =>
                ((some (!decide (((k11319 : Nat) : Int) = (r : Int)))).bind fun a11560 =>
                  cond a11560
                  ((some (!decide (a11546 = 0))).bind fun a11564 =>
                    some a11564)
                  (some false)).bind fun (s11554 : Bool) =>
                cond s11554
                ((idxO s11522.1 ((k11319 : Nat) : Int)).bind fun a11577 =>
                  (idxO s11522.1 (r : Int)).bind fun a11586 =>
                  (F_spec_mxLess p a11577 a11586 a11546).bind fun y11589 =>
                  (neqO ((k11319 : Nat) : Int) (r : Int)).bind fun _ =>
                  (setO s11522.1 ((k11319 : Nat) : Int) y11589).bind fun a11598 =>
                  (idxO s11522.2 ((k11319 : Nat) : Int)).bind fun a11607 =>
                  (idxO s11522.2 (r : Int)).bind fun a11616 =>
                  (F_spec_mxLess p a11607 a11616 a11546).bind fun y11619 =>
                  (neqO ((k11319 : Nat) : Int) (r : Int)).bind fun _ =>
                  (setO s11522.2 ((k11319 : Nat) : Int) y11619).bind fun a11628 =>
                  some (a11598, a11628))
                (some (s11522.1, s11522.2))) w.length 0 (w, v) = some (elimA p c r w w, elimA p c r w v) := by
  have := forS_is (n := w.length) (fun i => (partG (elimG p c r w w) w i, partG (elimG p c r w v) v i)) (f := fun (k11319 : Nat) (s11522 : Rows × Rows) =>
                (idxO s11522.1 ((k11319 : Nat) : Int)).bind fun a11537 =>
                (idxO a11537 (c : Int)).bind fun a11546 =>
                ((some (!decide (((k11319 : Nat) : Int) = (r : Int)))).bind fun a11560 =>
                  cond a11560
                  ((some (!decide (a11546 = 0))).bind fun a11564 =>
                    some a11564)
                  (some false)).bind fun (s11554 : Bool) =>
                cond s11554
                ((idxO s11522.1 ((k11319 : Nat) : Int)).bind fun a11577 =>
                  (idxO s11522.1 (r : Int)).bind fun a11586 =>
                  (F_spec_mxLess p a11577 a11586 a11546).bind fun y11589 =>
                  (neqO ((k11319 : Nat) : Int) (r : Int)).bind fun _ =>
                  (setO s11522.1 ((k11319 : Nat) : Int) y11589).bind fun a11598 =>
                  (idxO s11522.2 ((k11319 : Nat) : Int)).bind fun a11607 =>
                  (idxO s11522.2 (r : Int)).bind fun a11616 =>
                  (F_spec_mxLess p a11607 a11616 a11546).bind fun y11619 =>
                  (neqO ((k11319 : Nat) : Int) (r : Int)).bind fun _ =>
                  (setO s11522.2 ((k11319 : Nat) : Int) y11619).bind fun a11628 =>
                  some (a11598, a11628))
                (some (s11522.1, s11522.2))) (by
    intro i hi
    have hiv : i < v.length := by omega
    have hrv : r < v.length := by omega
    have g1 : gr (partG (elimG p c r w w) w i) i = gr w i := by rw [gr_part hi, if_neg (by omega)]
    have g2 : gr (partG (elimG p c r w v) v i) i = gr v i := by rw [gr_part hiv, if_neg (by omega)]
    have g3 : gr (partG (elimG p c r w w) w i) r = gr w r := by
      rw [gr_part hr]
      split
      · unfold elimG; rw [if_pos (Or.inl rfl)]
      · rfl
    have g4 : gr (partG (elimG p c r w v) v i) r = gr v r := by
      rw [gr_part hrv]
      split
      · unfold elimG; rw [if_pos (Or.inl rfl)]
      · rfl
    have l1 : i < (partG (elimG p c r w w) w i).length := by rw [partG_len]; exact hi
    have l2 : r < (partG (elimG p c r w w) w i).length := by rw [partG_len]; exact hr
    have l3 : i < (partG (elimG p c r w v) v i).length := by rw [partG_len]; exact hiv
    have l4 : r < (partG (elimG p c r w v) v i).length := by rw [partG_len]; exact hrv
    have i1 := idx_gr l1; have i2 := idx_gr l2; have i3 := idx_gr l3; have i4 := idx_gr l4
    rw [g1] at i1; rw [g3] at i2; rw [g2] at i3; rw [g4] at i4
    have s1 := part_setG (g := elimG p c r w w) (m := w) hi
    have s2 := part_setG (g := elimG p c r w v) (m := v) hiv
    have hrow := okM_gr h hi
    have hrr := okM_gr h hr
    have hrow2 := okM_gr hv hiv
    have hrr2 := okM_gr hv hrv
    refine bnd i1 (bnd (idx_el (by omega)) ?_)
    by_cases hir : i = r
    · refine bnd (a := false) (stp (cFW (nT (dT (by omega))) rfl)) (cFW rfl ?_)
      have e1 : elimG p c r w w i (gr w i) = gr w i := by unfold elimG; rw [if_pos (Or.inl hir)]
      have e2 : elimG p c r w v i (gr v i) = gr v i := by unfold elimG; rw [if_pos (Or.inl hir)]
      rw [← s1, ← s2, e1, e2]
      refine congrArg some (Prod.ext ?_ ?_)
      · show partG _ w i = _; conv => rhs; rw [← g1]
        rw [set_gr l1]
      · show partG _ v i = _; conv => rhs; rw [← g2]
        rw [set_gr l3]
    · by_cases h0 : el (gr w i) c = 0
      · refine bnd (a := false) (stp (cTW (nF (dF (by omega))) (stp (by rw [dT h0]; rfl)))) (cFW rfl ?_)
        have e1 : elimG p c r w w i (gr w i) = gr w i := by unfold elimG; rw [if_pos (Or.inr h0)]
        have e2 : elimG p c r w v i (gr v i) = gr v i := by unfold elimG; rw [if_pos (Or.inr h0)]
        rw [← s1, ← s2, e1, e2]
        refine congrArg some (Prod.ext ?_ ?_)
        · show partG _ w i = _; conv => rhs; rw [← g1]
          rw [set_gr l1]
        · show partG _ v i = _; conv => rhs; rw [← g2]
          rw [set_gr l3]
      · refine bnd (a := true) (stp (cTW (nF (dF (by omega))) (stp (by rw [dF h0]; rfl)))) (cTW rfl ?_)
        have hne : neqO ((i : Nat) : Int) (r : Int) = some () := by unfold neqO; rw [if_neg (by omega)]
        have hfe := okM_el h hi hc
        refine bnd i1 (bnd i2 (bnd (mxLess_ hp hrow.2 hrr.2 (by rw [hrow.1, hrr.1]) hfe) (bnd hne (bnd (setO_of _ l1) ?_))))
        refine bnd i3 (bnd i4 (bnd (mxLess_ hp hrow2.2 hrr2.2 (by rw [hrow2.1, hrr2.1]) hfe) (bnd hne (bnd (setO_of _ l3) ?_))))
        rw [← s1, ← s2]
        unfold elimG
        rw [if_neg (by intro h; rcases h with h | h; exact hir h; exact h0 h), if_neg (by intro h; rcases h with h | h; exact hir h; exact h0 h)])
  rw [partG0, partG0] at this
  have e1 := partGN (elimG p c r w w) w
  have e2 := partGN (elimG p c r w v) v
  rw [hl] at e2
  rw [e1, e2] at this
  exact this
/-- one round of the reference's reduction -/
noncomputable def mrBody (p n : Int) (s : Rows × Rows × Int × Int × Int) : Option ((Rows × Rows × Int × Int × Int) ⊕ (Rows × Rows × Int × Int)) :=
      (some (decide (s.2.2.2.2 < n))).bind fun a9772 =>
      cond a9772
      (((whileO (fun (s11024 : Int) =>
              ((some (decide (s11024 < ((s.1.length : Nat) : Int)))).bind fun a11062 =>
                cond a11062
                ((idxO s.1 s11024).bind fun a11072 =>
                  (idxO a11072 s.2.2.2.2).bind fun a11081 =>
                  (some (decide (a11081 = 0))).bind fun a11083 =>
                  some a11083)
                (some false)).bind fun (s11056 : Bool) =>
              cond s11056
              ((addO s11024 1).bind fun a11090 =>
                some (.inl a11090))
              (some (.inr s11024))) s.2.2.1).bind fun (s10898 : Int) =>
          (some (decide (s10898 = ((s.1.length : Nat) : Int)))).bind fun a11094 =>
          cond a11094
          (some (s.1, s.2.1, s.2.2.1, s.2.2.2.1))
          (((some (decide (s.2.2.1 < s10898))).bind fun a11181 =>
              cond a11181
              ((idxO s.1 s10898).bind fun a11192 =>
                (idxO s.2.1 s10898).bind fun a11201 =>
                (idxO s.1 s.2.2.1).bind fun a11211 =>
                (idxO s.2.1 s.2.2.1).bind fun a11228 =>
                (swapO s.1 s10898 s.2.2.1).bind fun a11245 =>
                (swapO s.2.1 s10898 s.2.2.1).bind fun a11254 =>
                (F_spec_fdNeg p s.2.2.2.1).bind fun y11256 =>
                some (a11245, a11254, y11256))
              (some (s.1, s.2.1, s.2.2.2.1))).bind fun (s11175 : List (List Int) × List (List Int) × Int) =>
            (idxO s11175.1 s.2.2.1).bind fun a11267 =>
            (idxO a11267 s.2.2.2.2).bind fun a11276 =>
            (F_spec_fdMul p s11175.2.2 a11276).bind fun y11278 =>
            (idxO s11175.1 s.2.2.1).bind fun a11288 =>
            (F_spec_fdInv p a11276).bind fun y11291 =>
            (F_spec_mxScale p a11288 y11291).bind fun y11294 =>
            (setO s11175.1 s.2.2.1 y11294).bind fun a11298 =>
            (idxO s11175.2.1 s.2.2.1).bind fun a11307 =>
            (F_spec_fdInv p a11276).bind fun y11310 =>
            (F_spec_mxScale p a11307 y11310).bind fun y11313 =>
            (setO s11175.2.1 s.2.2.1 y11313).bind fun a11317 =>
            (forS (fun (k11319 : Nat) (s11522 : List (List Int) × List (List Int)) =>
                (idxO s11522.1 ((k11319 : Nat) : Int)).bind fun a11537 =>
                (idxO a11537 s.2.2.2.2).bind fun a11546 =>
                ((some (!decide (((k11319 : Nat) : Int) = s.2.2.1))).bind fun a11560 =>
                  cond a11560
                  ((some (!decide (a11546 = 0))).bind fun a11564 =>
                    some a11564)
                  (some false)).bind fun (s11554 : Bool) =>
                cond s11554
                ((idxO s11522.1 ((k11319 : Nat) : Int)).bind fun a11577 =>
                  (idxO s11522.1 s.2.2.1).bind fun a11586 =>
                  (F_spec_mxLess p a11577 a11586 a11546).bind fun y11589 =>
                  (neqO ((k11319 : Nat) : Int) s.2.2.1).bind fun _ =>
                  (setO s11522.1 ((k11319 : Nat) : Int) y11589).bind fun a11598 =>
                  (idxO s11522.2 ((k11319 : Nat) : Int)).bind fun a11607 =>
                  (idxO s11522.2 s.2.2.1).bind fun a11616 =>
                  (F_spec_mxLess p a11607 a11616 a11546).bind fun y11619 =>
                  (neqO ((k11319 : Nat) : Int) s.2.2.1).bind fun _ =>
                  (setO s11522.2 ((k11319 : Nat) : Int) y11619).bind fun a11628 =>
                  some (a11598, a11628))
                (some (s11522.1, s11522.2))) a11298.length 0 (a11298, a11317)).bind fun (s11632 : List (List Int) × List (List Int)) =>
            (addO s.2.2.1 1).bind fun a11634 =>
            some (s11632.1, s11632.2, a11634, y11278))).bind fun (s10704 : List (List Int) × List (List Int) × Int × Int) =>
        (addO s.2.2.2.2 1).bind fun a11639 =>
        some (.inl (s10704.1, s10704.2.1, s10704.2.2.1, s10704.2.2.2, a11639)))
      (some (.inr (s.1, s.2.1, s.2.2.1, s.2.2.2.1)))
theorem mr_step {p : Int} {n N q c r : Nat} {m a : Rows} {det : Int} (hf : fdB p = true) (h : okM p N m) (ha : okM p q a) (hl : a.length = m.length) (hn : n ≤ N) (hN : N ≤ 1048576) (hL : m.length ≤ 1048576) (hr : r ≤ m.length) (hc : c < n) (hd : 0 ≤ det ∧ det < p) :
    ∃ d2, (0 ≤ d2 ∧ d2 < p) ∧ mrBody p (n : Int) (m, a, (r : Int), det, (c : Int)) = some (.inl (if scanN m c (m.length - r) r = m.length then (m, a, (r : Int), d2, (c : Int) + 1) else (stepA p c m m r (scanN m c (m.length - r) r), stepA p c m a r (scanN m c (m.length - r) r), (r : Int) + 1, d2, (c : Int) + 1))) := by
  have hp := fdB_rng hf
  have hsc : ∀ {f : Int → Option (Int ⊕ Int)}, (∀ k : Nat, k < m.length → f (k : Int) = some (if el (gr m k) c = 0 then .inl ((k : Int) + 1) else .inr (k : Int))) → f (m.length : Int) = some (.inr (m.length : Int)) → whileO f (r : Int) = some ((scanN m c (m.length - r) r : Nat) : Int) := fun h1 h2 => scan_ h1 h2 (m.length - r) r (by omega)
  obtain ⟨s1, s2, s3⟩ := scanN_spec m c (m.length - r) r (by omega)
  generalize scanN m c (m.length - r) r = k at hsc s1 s2 s3 ⊢
  have scan : ∀ {k : Int → Option (Rows × Rows × Int × Int)} {y}, k _ = y → (whileO (fun (s11024 : Int) =>
              ((some (decide (s11024 < ((m.length : Nat) : Int)))).bind fun a11062 =>
                cond a11062
                ((idxO m s11024).bind fun a11072 =>
                  (idxO a11072 (c : Int)).bind fun a11081 =>
                  (some (decide (a11081 = 0))).bind fun a11083 =>
                  some a11083)
                (some false)).bind fun (s11056 : Bool) =>
              cond s11056
              ((addO s11024 1).bind fun a11090 =>
                some (.inl a11090))
              (some (.inr s11024))) (r : Int)).bind k = y := fun hy => bnd (hsc (by
      intro i hi
      have hrow := okM_gr h hi
      refine bnd (a := decide (el (gr m i) c = 0)) (stp (cTW (dT (by omega)) (bnd (idx_gr hi) (bnd (idx_el (by omega)) rfl)))) ?_
      by_cases h0 : el (gr m i) c = 0
      · rw [if_pos h0]; exact cTW (dT h0) (bnd (addO_of (by omega) (by omega)) rfl)
      · rw [if_neg h0]; exact cFW (dF h0) rfl) (bnd (a := false) (stp (cFW (dF (by omega)) rfl)) (cFW rfl rfl))) hy
  by_cases hk : k = m.length
  · simp only [if_pos hk]
    refine ⟨det, hd, ?_⟩
    unfold mrBody
    dsimp only
    refine stp (cTW (dT (by omega)) (bnd (a := (m, a, (r : Int), det)) (scan (stp (cTW (dT (by omega)) rfl))) ?_))
    exact bnd (addO_of (by omega) (by omega)) rfl
  · simp only [if_neg hk]
    have hkl : k < m.length := by omega
    have hrl : r < m.length := by omega
    have hne := s3 hkl
    have h1 : okM p N (swapM m r k) := swapM_ok h hrl hkl
    have h1a : okM p q (swapM a r k) := swapM_ok ha (by omega) (by omega)
    have hr1 : r < (swapM m r k).length := by rw [swapM_len]; exact hrl
    have hr1a : r < (swapM a r k).length := by rw [swapM_len]; omega
    have hrow := okM_gr h1 hr1
    have hrowa := okM_gr h1a hr1a
    have hel := okM_el h1 hr1 (show c < N by omega)
    have hnz : el (gr (swapM m r k) r) c ≠ 0 := by rw [swapM_gr hrl hkl]; exact hne
    obtain ⟨_, i1, i2, i3⟩ := inverse_ hf (x := el (gr (swapM m r k) r) c) ⟨by omega, hel.2⟩
    have h2 : okM p N (pivA p c m m r k) := pivA_ok hp.1 h hrl hkl
    have h2a : okM p q (pivA p c m a r k) := pivA_ok hp.1 ha (by omega) (by omega)
    have hl2 : (pivA p c m m r k).length = m.length := pivA_len p c m m r k
    have hl2a : (pivA p c m a r k).length = a.length := pivA_len p c m a r k
    have hsw : ∃ d1, (0 ≤ d1 ∧ d1 < p) ∧ ((some (decide ((r : Int) < (k : Int)))).bind fun a11181 =>
              cond a11181
              ((idxO m (k : Int)).bind fun a11192 =>
                (idxO a (k : Int)).bind fun a11201 =>
                (idxO m (r : Int)).bind fun a11211 =>
                (idxO a (r : Int)).bind fun a11228 =>
                (swapO m (k : Int) (r : Int)).bind fun a11245 =>
                (swapO a (k : Int) (r : Int)).bind fun a11254 =>
                (F_spec_fdNeg p det).bind fun y11256 =>
                some (a11245, a11254, y11256))
              (some (m, a, det))) = some (swapM m r k, swapM a r k, d1) := by
      by_cases hrk : r < k
      · refine ⟨(p - det) % p, emod_in hp.1, stp (cTW (dT (by omega)) ?_)⟩
        refine bnd (idx_gr hkl) (bnd (idx_gr (by omega)) (bnd (idx_gr hrl) (bnd (idx_gr (by omega)) (bnd (swapO_ hkl hrl) (bnd (swapO_ (by omega) (by omega)) (bnd (fdNeg_ hp hd) ?_))))))
        rw [swapM_comm (by omega), swapM_comm (by omega)]
      · have e : k = r := by omega
        subst e
        refine ⟨det, hd, stp (cFW (dF (by omega)) ?_)⟩
        rw [swapM_self hrl, swapM_self (by omega)]
    obtain ⟨d1, hd1, hsw⟩ := hsw
    refine ⟨(d1 * el (gr (swapM m r k) r) c) % p, emod_in hp.1, ?_⟩
    unfold mrBody
    dsimp only
    refine stp (cTW (dT (by omega)) (bnd (a := (stepA p c m m r k, stepA p c m a r k, (r : Int) + 1, (d1 * el (gr (swapM m r k) r) c) % p)) (scan (stp (cFW (dF (by omega)) ?_))) ?_))
    · refine bnd hsw ?_
      dsimp only
      refine bnd (idx_gr hr1) (bnd (idx_el (by omega)) (bnd (fdMul_ hp hd1 hel) (bnd (idx_gr hr1) (bnd (fdInv_ hf ⟨by omega, hel.2⟩) (bnd (mxScale_ hp hrow.2 ⟨i2, i3⟩) (bnd (setO_of _ hr1) ?_))))))
      refine bnd (idx_gr hr1a) (bnd (fdInv_ hf ⟨by omega, hel.2⟩) (bnd (mxScale_ hp hrowa.2 ⟨i2, i3⟩) (bnd (setO_of _ hr1a) ?_)))
      change (forS _ (pivA p c m m r k).length 0 (pivA p c m m r k, pivA p c m a r k)).bind _ = _
      exact bnd (mrElim hp h2 h2a (by omega) (by omega) (by omega)) (bnd (addO_of (by omega) (by omega)) rfl)
    · exact bnd (addO_of (by omega) (by omega)) rfl
theorem mr_loop {p : Int} {n N q : Nat} (hf : fdB p = true) (hn : n ≤ N) (hN : N ≤ 1048576) : ∀ (d c : Nat) (m a : Rows) (r : Nat) (det : Int), c + d = n → okM p N m → okM p q a → a.length = m.length → m.length ≤ 1048576 → r ≤ m.length → (0 ≤ det ∧ det < p) →
    ∃ d2, whileO (mrBody p (n : Int)) (m, a, (r : Int), det, (c : Int)) = some ((redLoop p d c m a r).1, (redLoop p d c m a r).2.1, ((redLoop p d c m a r).2.2 : Int), d2)
  | 0, c, m, a, r, det, hc, h, ha, hl, hL, hr, hd => by
    refine ⟨det, whileO_end ?_⟩
    unfold mrBody
    exact stp (cFW (dF (by dsimp only; omega)) rfl)
  | d + 1, c, m, a, r, det, hc, h, ha, hl, hL, hr, hd => by
    obtain ⟨d2, hd2, hs⟩ := mr_step hf h ha hl hn hN hL hr (show c < n by omega) hd
    obtain ⟨s1, s2, s3⟩ := scanN_spec m c (m.length - r) r (by omega)
    rw [whileO_step hs]
    by_cases hk : scanN m c (m.length - r) r = m.length
    · rw [if_pos hk]
      obtain ⟨d3, h3⟩ := mr_loop hf hn hN d (c + 1) m a r d2 (by omega) h ha hl hL hr hd2
      refine ⟨d3, ?_⟩
      have e : redLoop p (d + 1) c m a r = redLoop p d (c + 1) m a r := by
        conv => lhs; unfold redLoop
        by_cases hrl : r < m.length
        · rw [if_pos hrl, if_pos hk]
        · rw [if_neg hrl]
          cases d with
          | zero => rfl
          | succ d => conv => rhs; unfold redLoop
                      rw [if_neg hrl]
      rw [e]; exact h3
    · rw [if_neg hk]
      have hkl : scanN m c (m.length - r) r < m.length := by omega
      have hrl : r < m.length := by omega
      have ha2 : okM p q (stepA p c m a r (scanN m c (m.length - r) r)) := stepA_ok (fdB_rng hf).1 ha (by omega) (by omega)
      obtain ⟨d3, h3⟩ := mr_loop hf hn hN d (c + 1) (stepA p c m m r (scanN m c (m.length - r) r)) (stepA p c m a r (scanN m c (m.length - r) r)) (r + 1) d2 (by omega) (stepA_ok (fdB_rng hf).1 h hrl hkl) ha2 (by rw [stepA_len, stepA_len]; exact hl) (by rw [stepA_len]; exact hL) (by rw [stepA_len]; omega) hd2
      refine ⟨d3, ?_⟩
      have e : redLoop p (d + 1) c m a r = redLoop p d (c + 1) (stepA p c m m r (scanN m c (m.length - r) r)) (stepA p c m a r (scanN m c (m.length - r) r)) (r + 1) := by
        conv => lhs; unfold redLoop
        rw [if_pos hrl, if_neg hk]
      rw [e]; exact h3

/-! ### identity matrices -/
def unitN (n i : Nat) : List Int := (List.replicate n 0).set i 1
def idN (n : Nat) : Rows := (List.range n).map (unitN n)
theorem unitN_ok {p : Int} (hp : 2 ≤ p) (n i : Nat) : okR p n (unitN n i) := by
  refine ⟨by simp [unitN], fun x hx => ?_⟩
  rcases List.mem_or_eq_of_mem_set hx with h | rfl
  · have := List.eq_of_mem_replicate h; omega
  · omega
theorem idN_len (n : Nat) : (idN n).length = n := by simp [idN]
theorem idN_ok {p : Int} (hp : 2 ≤ p) (n : Nat) : okM p n (idN n) := by
  intro x hx
  obtain ⟨i, hi, rfl⟩ := List.mem_map.1 hx
  exact unitN_ok hp n i
theorem mxZero_ {r c : Nat} (hr : r ≤ maxN) (hc : c ≤ maxN) : F_spec_mxZero (r : Int) (c : Int) = some ((c : Int), List.replicate r (List.replicate c 0)) := by
  refine bnd (makeO_of _ hr) (bnd (a := List.replicate r (List.replicate c 0)) ?_ rfl)
  have := forS_is (n := r) (fun i => partG (fun _ _ => List.replicate c (0 : Int)) (List.replicate r []) i) (f := fun (k13 : Nat) (s48 : List (List Int)) =>
      (makeO (c : Int) (0 : Int)).bind fun a58 =>
      (setO s48 ((k13 : Nat) : Int) a58).bind fun a69 =>
      some a69) (by
    intro i hi
    have hi' : i < (List.replicate r ([] : List Int)).length := by simpa using hi
    have := part_setG (g := fun _ _ => List.replicate c (0 : Int)) (m := List.replicate r []) hi'
    refine bnd (makeO_of _ hc) (bnd (setO_of _ (by rw [partG_len]; exact hi')) ?_)
    rw [← this])
  rw [partG0] at this
  have e := partGN (fun _ _ => List.replicate c (0 : Int)) (List.replicate r ([] : List Int))
  rw [List.length_replicate] at e
  rw [e] at this
  rw [List.length_replicate]
  refine this.trans (congrArg some ?_)
  apply List.ext_getElem?
  intro i
  rw [List.getElem?_mapIdx, List.getElem?_replicate, List.getElem?_replicate]
  split <;> rfl
theorem mxId_ {n : Nat} (hn : n ≤ 1048576) : F_spec_mxId (n : Int) = some ((n : Int), idN n) := by
  have hm : maxN = 1099511627776 := rfl
  refine bnd (mxZero_ (by omega) (by omega)) (bnd (whileO_is (fun i => (partG (fun i (_ : List Int) => unitN n i) (List.replicate n (List.replicate n 0)) i, (i : Int))) (t := idN n) n ?_ ?_) rfl)
  · intro i hi
    dsimp only
    have hi' : i < (List.replicate n (List.replicate n (0 : Int))).length := by simpa using hi
    have hl : i < (partG (fun i (_ : List Int) => unitN n i) (List.replicate n (List.replicate n 0)) i).length := by rw [partG_len]; exact hi'
    have hg : gr (partG (fun i (_ : List Int) => unitN n i) (List.replicate n (List.replicate n 0)) i) i = List.replicate n 0 := by
      rw [gr_part hi', if_neg (by omega)]
      unfold gr
      rw [List.getD_eq_getElem?_getD, List.getElem?_replicate, if_pos hi]; rfl
    have h1 := idx_gr hl
    rw [hg] at h1
    have := part_setG (g := fun i (_ : List Int) => unitN n i) (m := List.replicate n (List.replicate n 0)) hi'
    refine stp (cTW (dT (by omega)) (bnd h1 (bnd (setO_of _ (by simpa using hi)) (bnd (setO_of _ hl) (bnd (addO_of (by omega) (by omega)) ?_)))))
    rw [← this]; rfl
  · dsimp only
    refine stp (cFW (dF (by omega)) ?_)
    have e := partGN (fun i (_ : List Int) => unitN n i) (List.replicate n (List.replicate n (0 : Int)))
    rw [List.length_replicate] at e
    rw [e]
    congr 2
    apply List.ext_getElem?
    intro i
    unfold idN
    rw [List.getElem?_mapIdx, List.getElem?_replicate, List.getElem?_map]
    by_cases hi : i < n
    · rw [if_pos hi, List.getElem?_range hi]; rfl
    · rw [if_neg hi, List.getElem?_eq_none (by simpa using hi)]; rfl
theorem mxCopy_ {m : Mat} (hl : m.2.length ≤ 1048576) (h : ∀ r ∈ m.2, r.length ≤ maxN) : F_spec_mxCopy m = some m := by
  have hm : maxN = 1099511627776 := rfl
  refine bnd (a := m.2) ?_ rfl
  refine (forS_map (fun r => r) m.2 [] (by simp; omega) ?_).trans (by simp)
  intro j x s hx hs
  have hj : j < m.2.length := (List.getElem?_eq_some_iff.1 hx).1
  exact bnd (idxO_of hx) (bnd (own_ (h x (mem_of_get hx))) (bnd (appO_of (by simp at hs ⊢; omega)) rfl))
/-- the reduction of a matrix of n columns with its transforming matrix -/
def redT (p : Int) (n : Nat) (m : Rows) : Rows × Rows × Nat := redLoop p n 0 m (idN m.length) 0
theorem mxReduce_ {p : Int} {n : Nat} {m : Rows} (hf : fdB p = true) (h : okM p n m) (hn : n ≤ 1048576) (hl : m.length ≤ 1048576) :
    ∃ d, F_spec_mxReduce p ((n : Int), m) = some (((n : Int), (redT p n m).1), ((m.length : Int), (redT p n m).2.1), ((redT p n m).2.2 : Int), d) := by
  have hm : maxN = 1099511627776 := rfl
  have hp := fdB_rng hf
  obtain ⟨d, hd⟩ := mr_loop hf (Nat.le_refl n) hn n 0 m (idN m.length) 0 1 (by omega) h (idN_ok hp.1 m.length) (idN_len _) hl (by omega) ⟨by omega, by omega⟩
  refine ⟨d, bnd (a := ((n : Int), m, (m.length : Int), idN m.length)) (bnd (mxCopy_ hl (fun r hr => by have := (h r hr).1; omega)) (bnd (mxId_ hl) rfl)) ?_⟩
  exact bnd hd rfl

/-! ### linear equations -/
theorem redT_facts {p : Int} {n : Nat} {m : Rows} (hf : fdB p = true) (h : okM p n m) : (redT p n m).2.2 ≤ m.length ∧ (redT p n m).1.length = m.length ∧ (redT p n m).2.1.length = m.length ∧ okM p m.length (redT p n m).2.1 ∧ okM p n (redT p n m).1 ∧ Red p n ((redT p n m).1.take (redT p n m).2.2) := by
  have hp := fdB_rng hf
  obtain ⟨k1, k2, k3, k4, k5, k6, k7⟩ := redLoop_ok hp.1 n 0 m (idN m.length) 0 h (idN_ok hp.1 m.length) (idN_len _) (by omega)
  have e : (redT p n m).1.take (redT p n m).2.2 = redM p n m := by
    obtain ⟨e1, e2⟩ := redLoop_any p n 0 m (idN m.length) m 0
    unfold redT redM; rw [e1, e2]
  exact ⟨k6, k3, k4, k2, k1, by rw [e]; exact redM_red hf h⟩
def xsN (p : Int) (b t : Rows) (v : List Int) (z : List Int) : Nat → List Int
  | 0 => z
  | i + 1 => mapR (subG p ((p - el v (leadN (gr b i))) % p) (gr t i)) (xsN p b t v z i)
theorem neg_mul_mod (p x k y : Int) : (x - (p - k) % p * y) % p = (x + k * y) % p := by
  have e1 : (x - (p - k) % p * y) % p = (x - (p - k) * y) % p := by
    rw [Int.sub_emod, mul_mod1, ← Int.sub_emod]
  rw [e1]
  have : x - (p - k) * y = x + k * y + p * (-y) := by
    rw [Int.sub_mul, Int.mul_neg]; omega
  rw [this, Int.add_mul_emod_self_left]
theorem mapR_addR {p k : Int} {w : List Int} : ∀ (acc : List Int), w.length = acc.length → mapR (subG p ((p - k) % p) w) acc = addR p k acc w := fun acc hl => by
  refine ext_el (by rw [mapR_len, addR_len hl]) fun j hj => ?_
  rw [mapR_len] at hj
  rw [el_mapR hj, el_addR hj hl]
  unfold subG
  exact neg_mul_mod p (el acc j) k (el w j)
theorem fold2_snoc {α β σ : Type} (g : σ → α → β → σ) : ∀ (l : List α) (m : List β) (s : σ) (a : α) (b : β), l.length = m.length → fold2 g (l ++ [a]) (m ++ [b]) s = g (fold2 g l m s) a b
  | [], [], _, _, _, _ => rfl
  | [], _ :: _, _, _, _, h => by simp at h
  | _ :: _, [], _, _, _, h => by simp at h
  | x :: l, y :: m, s, a, b, h => fold2_snoc g l m (g s x y) a b (by simpa using h)
theorem xsN_comb {p : Int} {q : Nat} {b t : Rows} {v : List Int} (hp : 2 ≤ p) (ht : okM p q t) (hl : b.length ≤ t.length) : ∀ i, i ≤ b.length → xsN p b t v (List.replicate q 0) i = combR p q (t.take i) ((coordsL b v).take i)
  | 0, _ => by simp [xsN, combR, fold2]
  | i + 1, hi => by
    have hti : i < t.length := by omega
    have hci : i < (coordsL b v).length := by simp [coordsL]; omega
    have e1 : t.take (i + 1) = t.take i ++ [gr t i] := by rw [List.take_add_one, gr_get hti]; rfl
    have e2 : (coordsL b v).take (i + 1) = (coordsL b v).take i ++ [el v (leadN (gr b i))] := by rw [List.take_add_one, el_get hci, el_coords (by omega)]; rfl
    show mapR _ (xsN p b t v (List.replicate q 0) i) = _
    rw [xsN_comb hp ht hl i (by omega), e1, e2]
    unfold combR
    rw [fold2_snoc _ _ _ _ _ _ (by simp [coordsL]; omega)]
    have hok : okR p q (fold2 (fun acc row c => addR p c acc row) (t.take i) ((coordsL b v).take i) (List.replicate q 0)) := fold2_ok hp _ _ _ (okR_zero hp q) (fun x hx => ht x (List.mem_of_mem_take hx))
    exact mapR_addR _ (by rw [(okM_gr ht hti).1, hok.1])
def solB (p : Int) (n : Nat) (m : Rows) (v : List Int) : Bool := hasB p n ((redT p n m).1.take (redT p n m).2.2) v
def solX (p : Int) (n : Nat) (m : Rows) (v : List Int) : List Int := combR p m.length ((redT p n m).2.1.take (redT p n m).2.2) (coordsL ((redT p n m).1.take (redT p n m).2.2) v)
theorem mxSolve_ {p : Int} {n : Nat} {m : Rows} {v : List Int} (hf : fdB p = true) (h : okM p n m) (hv : okR p n v) (hn : n ≤ 1048576) (hl : m.length ≤ 1048576) : F_spec_mxSolve p ((n : Int), m) v = some (solX p n m v, solB p n m v) := by
  have hp := fdB_rng hf
  have hm : maxN = 1099511627776 := rfl
  obtain ⟨d, hd⟩ := mxReduce_ hf h hn hl
  obtain ⟨f1, f2, f3, f4, f5, f6⟩ := redT_facts hf h
  unfold solX solB
  generalize redT p n m = t at hd f1 f2 f3 f4 f5 f6
  obtain ⟨a, u, r⟩ := t
  dsimp only at f1 f2 f3 f4 f5 f6 hd ⊢
  have hbl : (a.take r).length = r := by rw [List.length_take]; omega
  have hvl := hv.1
  refine bnd hd (bnd (a := (List.replicate m.length 0, v)) (bnd (makeO_of _ (by show m.length ≤ maxN; omega)) (bnd (own_ (by omega)) rfl)) ?_)
  refine bnd (a := (xsN p (a.take r) u v (List.replicate m.length 0) r, restN p v (a.take r) r)) ?_ ?_
  · have := whileO_is (fun i => (xsN p (a.take r) u v (List.replicate m.length 0) i, restN p v (a.take r) i, (i : Int))) (t := (xsN p (a.take r) u v (List.replicate m.length 0) r, restN p v (a.take r) r)) r (f := fun (s391 : List Int × List Int × Int) =>
      (some (decide (s391.2.2 < (r : Int)))).bind fun a400 =>
      cond a400
      ((idxO a s391.2.2).bind fun a411 =>
        (F_spec_spLead a411).bind fun y414 =>
        (idxO s391.2.1 y414).bind fun a423 =>
        (idxO a s391.2.2).bind fun a431 =>
        (F_spec_mxLess p s391.2.1 a431 a423).bind fun y434 =>
        (idxO u s391.2.2).bind fun a444 =>
        (F_spec_fdNeg p a423).bind fun y447 =>
        (F_spec_mxLess p s391.1 a444 y447).bind fun y450 =>
        (addO s391.2.2 1).bind fun a453 =>
        some (.inl (y450, y434, a453)))
      (some (.inr (s391.1, s391.2.1)))) (by
      intro i hi
      dsimp only
      have hil : i < a.length := by omega
      have hg : gr (a.take r) i = gr a i := gr_take hi
      have hl1 := f6.lt i (by omega)
      have hro := okM_gr f5 hil
      obtain ⟨h1, h2⟩ := restN_el hp.1 f6 hv i (by omega)
      have h3 := h2 (by omega)
      have hok := restN_ok (b := a.take r) hp.1 hv i
      have hel := hok.2 _ (el_mem (r := restN p v (a.take r) i) (c := leadN (gr (a.take r) i)) (by rw [hok.1]; exact hl1))
      have hxs : okR p m.length (xsN p (a.take r) u v (List.replicate m.length 0) i) := by
        rw [xsN_comb hp.1 f4 (by omega) i (by omega)]
        exact combR_ok hp.1 (fun x hx => f4 x (List.mem_of_mem_take hx))
      have hur := okM_gr f4 (i := i) (by omega)
      rw [hg] at hl1 h3 hel
      refine stp (cTW (dT (by omega)) (bnd (idx_gr hil) (bnd (spLead_ (by omega)) (bnd (idx_el (by rw [hok.1]; exact hl1)) (bnd (idx_gr hil) (bnd (mxLess_ hp hok.2 hro.2 (by rw [hok.1, hro.1]) hel) (bnd (idx_gr (by omega)) (bnd (fdNeg_ hp hel) (bnd (mxLess_ hp hxs.2 hur.2 (by rw [hxs.1, hur.1]) (emod_in hp.1)) (bnd (addO_of (by omega) (by omega)) ?_))))))))))
      refine congrArg some (congrArg Sum.inl (Prod.ext ?_ (Prod.ext ?_ rfl)))
      · show mapR (subG p ((p - el _ _) % p) _) _ = mapR (subG p ((p - el v (leadN (gr (a.take r) i))) % p) (gr u i)) _
        rw [hg, h3]
      · show mapR _ _ = mapR (subG p (el _ (leadN (gr (a.take r) i))) (gr (a.take r) i)) _
        rw [hg]) (by dsimp only; exact stp (cFW (dF (by omega)) rfl))
    exact this
  · have e1 : xsN p (a.take r) u v (List.replicate m.length 0) r = combR p m.length (u.take r) (coordsL (a.take r) v) := by
      have := xsN_comb (v := v) (b := a.take r) hp.1 f4 (by omega) r (by omega)
      rw [this, List.take_of_length_le (l := coordsL (a.take r) v) (by simp [coordsL]; omega)]
    rw [e1]
    refine bnd (l1All _ 0 0) ?_
    refine congrArg some (Prod.ext rfl ?_)
    show List.all _ _ = decide _
    obtain ⟨h1, _⟩ := restN_el hp.1 f6 hv r (by omega)
    have hok := restN_ok (b := a.take r) hp.1 hv r
    have hco := combR_ok (cs := coordsL (a.take r) v) hp.1 f6.ok
    have hcl : (a.take r).length ≤ (coordsL (a.take r) v).length := by simp [coordsL]
    have key : ∀ j, j < n → (el (restN p v (a.take r) r) j = 0 ↔ el (combR p n (a.take r) (coordsL (a.take r) v)) j = el v j) := fun j hj => by
      rw [h1 j hj, el_combR hp.1 f6.ok hcl hj, sub_zero_iff (hv.2 _ (el_mem (by omega))), hbl]
      rw [sg_congr (g := fun i => el (coordsL (a.take r) v) i * el (gr (a.take r) i) j) (fun i hi => by rw [el_coords (by omega)])]
    rw [Bool.eq_iff_iff, List.all_eq_true, decide_eq_true_eq]
    constructor
    · intro h
      refine ext_el (by rw [hco.1, hv.1]) fun j hj => (key j (by rw [hco.1] at hj; exact hj)).1 ?_
      have := rng_true.1 (h _ (el_mem (r := restN p v (a.take r) r) (c := j) (by rw [hok.1]; rw [hco.1] at hj; exact hj)))
      omega
    · intro h x hx
      obtain ⟨j, hj, rfl⟩ := List.mem_iff_getElem.1 hx
      have := (key j (by rw [hok.1] at hj; exact hj)).2 (by rw [h])
      have e : el (restN p v (a.take r) r) j = (restN p v (a.take r) r)[j] := by have := el_get hj; rw [List.getElem?_eq_getElem hj] at this; exact (Option.some.inj this).symm
      rw [← e, this]; rfl
end Go.Proofs.YtnlbhdepagkjgaaDoor
