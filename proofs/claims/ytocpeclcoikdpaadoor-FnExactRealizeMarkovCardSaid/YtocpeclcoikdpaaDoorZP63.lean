/-
  Plain laws: the reference's reduction of a matrix with its transforming matrix; linear equations. No program in sight. No condition.
-/
import Derived.Test.YtocpeclcoikdpaaDoorZP18
import Derived.Test.YtocpeclcoikdpaaDoorZPL
namespace Go.Proofs.YtocpeclcoikdpaaDoor
set_option linter.unusedVariables false

theorem fdNeg_ {p a : Int} (hp : 2 ≤ p ∧ p ≤ 97) (ha : 0 ≤ a ∧ a < p) : F_spec_fdNeg p a = some ((p - a) % p) := by
  refine bnd (subO_of (by omega) (by omega)) (bnd (remO_of (by omega)) ?_)
  rw [Int.tmod_eq_emod_of_nonneg (by omega)]
theorem mxScale_ {p k : Int} {r : List Int} (hp : 2 ≤ p ∧ p ≤ 97) (h : inP p r) (hk : 0 ≤ k ∧ k < p) : F_spec_mxScale p r k = some (mapR (scaleG p k) r) := by
  have := forS_is (n := r.length) (fun j => part (scaleG p k) r j) (f := fun (k2 : Nat) (s47 : List Int) =>
      (idxO s47 ((k2 : Nat) : Int)).bind fun a62 =>
      (F_spec_fdMul p a62 k).bind fun y64 =>
      (setO s47 ((k2 : Nat) : Int) y64).bind fun a73 =>
      some a73) (by
    intro j hj
    exact bnd (idxO_of (part_get _ _ hj)) (bnd (fdMul_ hp (h _ (el_mem hj)) hk) (bnd (setO_of _ (by rw [part_len]; exact hj)) (congrArg some (part_set (scaleG p k) r hj)))))
  rw [part0, partN] at this
  exact bnd this rfl
theorem mxLess_ {p f : Int} {v w : List Int} (hp : 2 ≤ p ∧ p ≤ 97) (hv : inP p v) (hw : inP p w) (hl : v.length = w.length) (hf : 0 ≤ f ∧ f < p) : F_spec_mxLess p v w f = some (mapR (subG p f w) v) := by
  have := forS_is (n := v.length) (fun j => part (subG p f w) v j) (f := fun (k3 : Nat) (s72 : List Int) =>
      (idxO s72 ((k3 : Nat) : Int)).bind fun a88 =>
      (idxO w ((k3 : Nat) : Int)).bind fun a96 =>
      (F_spec_fdMul p f a96).bind fun y98 =>
      (F_spec_fdSub p a88 y98).bind fun y101 =>
      (setO s72 ((k3 : Nat) : Int) y101).bind fun a110 =>
      some a110) (by
    intro j hj
    have hjw : j < w.length := by omega
    have hm := emod_in (p := p) (x := f * el w j) hp.1
    refine bnd (idxO_of (part_get _ _ hj)) (bnd (idx_el hjw) (bnd (fdMul_ hp hf (hw _ (el_mem hjw))) (bnd (fdSub_ hp (hv _ (el_mem hj)) hm) (bnd (setO_of _ (by rw [part_len]; exact hj)) ?_))))
    rw [sub_mod]
    exact congrArg some (part_set (subG p f w) v hj))
  rw [part0, partN] at this
  exact bnd this rfl
theorem swapM_comm {m : Rows} {r k : Nat} (hrk : r ≠ k) : (m.set k (gr m r)).set r (gr m k) = swapM m r k := by
  unfold swapM; rw [List.set_comm _ _ (Ne.symm hrk)]
/-- the rounds over the rows -/
theorem mrElim {p : Int} {N q c r : Nat} {w v : Rows} (hp : 2 ≤ p ∧ p ≤ 97) (h : okM p N w) (hv : okM p q v) (hl : v.length = w.length) (hr : r < w.length) (hc : c < N) :
    forS (fun (k11319 : Nat) (s11522 : Rows × Rows) =>
                (idxO s11522.1 ((k11319 : Nat) : Int)).bind fun a11537 =>
                (idxO a11537 (c : Int)).bind fun a11546 =>
                ((some (!decide (((k11319 : Nat) : Int) = (r : Int)))).bind fun a11560 =>
                  cond a11560
                  ((some (!decide (a11546 = 0))).bind fun a11564 =>
                    some a11564)
                  (some false)).bind fun (s11554 : Bool) =>
                cond s11554
                ((idxO s11522.1 ((k11319 : Nat) : Int)).bind fun a11577 =>
                  (idxO s11522.1 (r : Int)).bind fun a11586 =>
                  (F_spec_mxLess p a11577 a11586 a11546).bind fun y11589 =>
                  (neqO ((k11319 : Nat) : Int) (r : Int)).bind fun _ =>
                  (setO s11522.1 ((k11319 : Nat) : Int) y11589).bind fun a11598 =>
                  (idxO s11522.2 ((k11319 : Nat) : Int)).bind fun a11607 =>
                  (idxO s11522.2 (r : Int)).bind fun a11616 =>
                  (F_spec_mxLess p a11607 a11616 a11546).bind fun y11619 =>
                  (neqO ((k11319 : Nat) : Int) (r : Int)).bind fun _ =>
                  (setO s11522.2 ((k11319 : Nat) : Int) y11619).bind fun a11628 =>
                  some (a11598, a11628))
                (some (s11522.1, s11522.2))) w.length 0 (w, v) = some (elimA p c r w w, elimA p c r w v) := by
  have := forS_is (n := w.length) (fun i => (partG (elimG p c r w w) w i, partG (elimG p c r w v) v i)) (f := fun (k11319 : Nat) (s11522 : Rows × Rows) =>
                (idxO s11522.1 ((k11319 : Nat) : Int)).bind fun a11537 =>
                (idxO a11537 (c : Int)).bind fun a11546 =>
                ((some (!decide (((k11319 : Nat) : Int) = (r : Int)))).bind fun a11560 =>
                  cond a11560
                  ((some (!decide (a11546 = 0))).bind fun a11564 =>
                    some a11564)
                  (some false)).bind fun (s11554 : Bool) =>
                cond s11554
                ((idxO s11522.1 ((k11319 : Nat) : Int)).bind fun a11577 =>
                  (idxO s11522.1 (r : Int)).bind fun a11586 =>
                  (F_spec_mxLess p a11577 a11586 a11546).bind fun y11589 =>
                  (neqO ((k11319 : Nat) : Int) (r : Int)).bind fun _ =>
                  (setO s11522.1 ((k11319 : Nat) : Int) y11589).bind fun a11598 =>
                  (idxO s11522.2 ((k11319 : Nat) : Int)).bind fun a11607 =>
                  (idxO s11522.2 (r : Int)).bind fun a11616 =>
                  (F_spec_mxLess p a11607 a11616 a11546).bind fun y11619 =>
                  (neqO ((k11319 : Nat) : Int) (r : Int)).bind fun _ =>
                  (setO s11522.2 ((k11319 : Nat) : Int) y11619).bind fun a11628 =>
                  some (a11598, a11628))
                (some (s11522.1, s11522.2))) (by
    intro i hi
    have hiv : i < v.length := by omega
    have hrv : r < v.length := by omega
    have g1 : gr (partG (elimG p c r w w) w i) i = gr w i := by rw [gr_part hi, if_neg (by omega)]
    have g2 : gr (partG (elimG p c r w v) v i) i = gr v i := by rw [gr_part hiv, if_neg (by omega)]
    have g3 : gr (partG (elimG p c r w w) w i) r = gr w r := by
      rw [gr_part hr]
      split
      · unfold elimG; rw [if_pos (Or.inl rfl)]
      · rfl
    have g4 : gr (partG (elimG p c r w v) v i) r = gr v r := by
      rw [gr_part hrv]
      split
      · unfold elimG; rw [if_pos (Or.inl rfl)]
      · rfl
    have l1 : i < (partG (elimG p c r w w) w i).length := by rw [partG_len]; exact hi
    have l2 : r < (partG (elimG p c r w w) w i).length := by rw [partG_len]; exact hr
    have l3 : i < (partG (elimG p c r w v) v i).length := by rw [partG_len]; exact hiv
    have l4 : r < (partG (elimG p c r w v) v i).length := by rw [partG_len]; exact hrv
    have i1 := idx_gr l1; have i2 := idx_gr l2; have i3 := idx_gr l3; have i4 := idx_gr l4
    rw [g1] at i1; rw [g3] at i2; rw [g2] at i3; rw [g4] at i4
    have s1 := part_setG (g := elimG p c r w w) (m := w) hi
    have s2 := part_setG (g := elimG p c r w v) (m := v) hiv
    have hrow := okM_gr h hi
    have hrr := okM_gr h hr
    have hrow2 := okM_gr hv hiv
    have hrr2 := okM_gr hv hrv
    refine bnd i1 (bnd (idx_el (by omega)) ?_)
    by_cases hir : i = r
    · refine bnd (a := false) (stp (cFW (nT (dT (by omega))) rfl)) (cFW rfl ?_)
      have e1 : elimG p c r w w i (gr w i) = gr w i := by unfold elimG; rw [if_pos (Or.inl hir)]
      have e2 : elimG p c r w v i (gr v i) = gr v i := by unfold elimG; rw [if_pos (Or.inl hir)]
      rw [← s1, ← s2, e1, e2]
      refine congrArg some (Prod.ext ?_ ?_)
      · show partG _ w i = _; conv => rhs; rw [← g1]
        rw [set_gr l1]
      · show partG _ v i = _; conv => rhs; rw [← g2]
        rw [set_gr l3]
    · by_cases h0 : el (gr w i) c = 0
      · refine bnd (a := false) (stp (cTW (nF (dF (by omega))) (stp (by rw [dT h0]; rfl)))) (cFW rfl ?_)
        have e1 : elimG p c r w w i (gr w i) = gr w i := by unfold elimG; rw [if_pos (Or.inr h0)]
        have e2 : elimG p c r w v i (gr v i) = gr v i := by unfold elimG; rw [if_pos (Or.inr h0)]
        rw [← s1, ← s2, e1, e2]
        refine congrArg some (Prod.ext ?_ ?_)
        · show partG _ w i = _; conv => rhs; rw [← g1]
          rw [set_gr l1]
        · show partG _ v i = _; conv => rhs; rw [← g2]
          rw [set_gr l3]
      · refine bnd (a := true) (stp (cTW (nF (dF (by omega))) (stp (by rw [dF h0]; rfl)))) (cTW rfl ?_)
        have hne : neqO ((i : Nat) : Int) (r : Int) = some () := by unfold neqO; rw [if_neg (by omega)]
        have hfe := okM_el h hi hc
        refine bnd i1 (bnd i2 (bnd (mxLess_ hp hrow.2 hrr.2 (by rw [hrow.1, hrr.1]) hfe) (bnd hne (bnd (setO_of _ l1) ?_))))
        refine bnd i3 (bnd i4 (bnd (mxLess_ hp hrow2.2 hrr2.2 (by rw [hrow2.1, hrr2.1]) hfe) (bnd hne (bnd (setO_of _ l3) ?_))))
        rw [← s1, ← s2]
        unfold elimG
        rw [if_neg (by intro h; rcases h with h | h; exact hir h; exact h0 h), if_neg (by intro h; rcases h with h | h; exact hir h; exact h0 h)])
  rw [partG0, partG0] at this
  have e1 := partGN (elimG p c r w w) w
  have e2 := partGN (elimG p c r w v) v
  rw [hl] at e2
  rw [e1, e2] at this
  exact this
/-- one round of the reference's reduction -/
noncomputable def mrBody (p n : Int) (s : Rows × Rows × Int × Int × Int) : Option ((Rows × Rows × Int × Int × Int) ⊕ (Rows × Rows × Int × Int)) :=
      (some (decide (s.2.2.2.2 < n))).bind fun a9772 =>
      cond a9772
      (((whileO (fun (s11024 : Int) =>
              ((some (decide (s11024 < ((s.1.length : Nat) : Int)))).bind fun a11062 =>
                cond a11062
                ((idxO s.1 s11024).bind fun a11072 =>
                  (idxO a11072 s.2.2.2.2).bind fun a11081 =>
                  (some (decide (a11081 = 0))).bind fun a11083 =>
                  some a11083)
                (some false)).bind fun (s11056 : Bool) =>
              cond s11056
              ((addO s11024 1).bind fun a11090 =>
                some (.inl a11090))
              (some (.inr s11024))) s.2.2.1).bind fun (s10898 : Int) =>
          (some (decide (s10898 = ((s.1.length : Nat) : Int)))).bind fun a11094 =>
          cond a11094
          (some (s.1, s.2.1, s.2.2.1, s.2.2.2.1))
          (((some (decide (s.2.2.1 < s10898))).bind fun a11181 =>
              cond a11181
              ((idxO s.1 s10898).bind fun a11192 =>
                (idxO s.2.1 s10898).bind fun a11201 =>
                (idxO s.1 s.2.2.1).bind fun a11211 =>
                (idxO s.2.1 s.2.2.1).bind fun a11228 =>
                (swapO s.1 s10898 s.2.2.1).bind fun a11245 =>
                (swapO s.2.1 s10898 s.2.2.1).bind fun a11254 =>
                (F_spec_fdNeg p s.2.2.2.1).bind fun y11256 =>
                some (a11245, a11254, y11256))
              (some (s.1, s.2.1, s.2.2.2.1))).bind fun (s11175 : List (List Int) × List (List Int) × Int) =>
            (idxO s11175.1 s.2.2.1).bind fun a11267 =>
            (idxO a11267 s.2.2.2.2).bind fun a11276 =>
            (F_spec_fdMul p s11175.2.2 a11276).bind fun y11278 =>
            (idxO s11175.1 s.2.2.1).bind fun a11288 =>
            (F_spec_fdInv p a11276).bind fun y11291 =>
            (F_spec_mxScale p a11288 y11291).bind fun y11294 =>
            (setO s11175.1 s.2.2.1 y11294).bind fun a11298 =>
            (idxO s11175.2.1 s.2.2.1).bind fun a11307 =>
            (F_spec_fdInv p a11276).bind fun y11310 =>
            (F_spec_mxScale p a11307 y11310).bind fun y11313 =>
            (setO s11175.2.1 s.2.2.1 y11313).bind fun a11317 =>
            (forS (fun (k11319 : Nat) (s11522 : List (List Int) × List (List Int)) =>
                (idxO s11522.1 ((k11319 : Nat) : Int)).bind fun a11537 =>
                (idxO a11537 s.2.2.2.2).bind fun a11546 =>
                ((some (!decide (((k11319 : Nat) : Int) = s.2.2.1))).bind fun a11560 =>
                  cond a11560
                  ((some (!decide (a11546 = 0))).bind fun a11564 =>
                    some a11564)
                  (some false)).bind fun (s11554 : Bool) =>
                cond s11554
                ((idxO s11522.1 ((k11319 : Nat) : Int)).bind fun a11577 =>
                  (idxO s11522.1 s.2.2.1).bind fun a11586 =>
                  (F_spec_mxLess p a11577 a11586 a11546).bind fun y11589 =>
                  (neqO ((k11319 : Nat) : Int) s.2.2.1).bind fun _ =>
                  (setO s11522.1 ((k11319 : Nat) : Int) y11589).bind fun a11598 =>
                  (idxO s11522.2 ((k11319 : Nat) : Int)).bind fun a11607 =>
                  (idxO s11522.2 s.2.2.1).bind fun a11616 =>
                  (F_spec_mxLess p a11607 a11616 a11546).bind fun y11619 =>
                  (neqO ((k11319 : Nat) : Int) s.2.2.1).bind fun _ =>
                  (setO s11522.2 ((k11319 : Nat) : Int) y11619).bind fun a11628 =>
                  some (a11598, a11628))
                (some (s11522.1, s11522.2))) a11298.length 0 (a11298, a11317)).bind fun (s11632 : List (List Int) × List (List Int)) =>
            (addO s.2.2.1 1).bind fun a11634 =>
            some (s11632.1, s11632.2, a11634, y11278))).bind fun (s10704 : List (List Int) × List (List Int) × Int × Int) =>
        (addO s.2.2.2.2 1).bind fun a11639 =>
        some (.inl (s10704.1, s10704.2.1, s10704.2.2.1, s10704.2.2.2, a11639)))
      (some (.inr (s.1, s.2.1, s.2.2.1, s.2.2.2.1)))
theorem mr_step {p : Int} {n N q c r : Nat} {m a : Rows} {det : Int} (hf : fdB p = true) (h : okM p N m) (ha : okM p q a) (hl : a.length = m.length) (hn : n ≤ N) (hN : N ≤ 1048576) (hL : m.length ≤ 1048576) (hr : r ≤ m.length) (hc : c < n) (hd : 0 ≤ det ∧ det < p) :
    ∃ d2, (0 ≤ d2 ∧ d2 < p) ∧ mrBody p (n : Int) (m, a, (r : Int), det, (c : Int)) = some (.inl (if scanN m c (m.length - r) r = m.length then (m, a, (r : Int), d2, (c : Int) + 1) else (stepA p c m m r (scanN m c (m.length - r) r), stepA p c m a r (scanN m c (m.length - r) r), (r : Int) + 1, d2, (c : Int) + 1))) := by
  have hp := fdB_rng hf
  have hsc : ∀ {f : Int → Option (Int ⊕ Int)}, (∀ k : Nat, k < m.length → f (k : Int) = some (if el (gr m k) c = 0 then .inl ((k : Int) + 1) else .inr (k : Int))) → f (m.length : Int) = some (.inr (m.length : Int)) → whileO f (r : Int) = some ((scanN m c (m.length - r) r : Nat) : Int) := fun h1 h2 => scan_ h1 h2 (m.length - r) r (by omega)
  obtain ⟨s1, s2, s3⟩ := scanN_spec m c (m.length - r) r (by omega)
  generalize scanN m c (m.length - r) r = k at hsc s1 s2 s3 ⊢
  have scan : ∀ {k : Int → Option (Rows × Rows × Int × Int)} {y}, k _ = y → (whileO (fun (s11024 : Int) =>
              ((some (decide (s11024 < ((m.length : Nat) : Int)))).bind fun a11062 =>
                cond a11062
                ((idxO m s11024).bind fun a11072 =>
                  (idxO a11072 (c : Int)).bind fun a11081 =>
                  (some (decide (a11081 = 0))).bind fun a11083 =>
                  some a11083)
                (some false)).bind fun (s11056 : Bool) =>
              cond s11056
              ((addO s11024 1).bind fun a11090 =>
                some (.inl a11090))
              (some (.inr s11024))) (r : Int)).bind k = y := fun hy => bnd (hsc (by
      intro i hi
      have hrow := okM_gr h hi
      refine bnd (a := decide (el (gr m i) c = 0)) (stp (cTW (dT (by omega)) (bnd (idx_gr hi) (bnd (idx_el (by omega)) rfl)))) ?_
      by_cases h0 : el (gr m i) c = 0
      · rw [if_pos h0]; exact cTW (dT h0) (bnd (addO_of (by omega) (by omega)) rfl)
      · rw [if_neg h0]; exact cFW (dF h0) rfl) (bnd (a := false) (stp (cFW (dF (by omega)) rfl)) (cFW rfl rfl))) hy
  by_cases hk : k = m.length
  · simp only [if_pos hk]
    refine ⟨det, hd, ?_⟩
    unfold mrBody
    dsimp only
    refine stp (cTW (dT (by omega)) (bnd (a := (m, a, (r : Int), det)) (scan (stp (cTW (dT (by omega)) rfl))) ?_))
    exact bnd (addO_of (by omega) (by omega)) rfl
  · simp only [if_neg hk]
    have hkl : k < m.length := by omega
    have hrl : r < m.length := by omega
    have hne := s3 hkl
    have h1 : okM p N (swapM m r k) := swapM_ok h hrl hkl
    have h1a : okM p q (swapM a r k) := swapM_ok ha (by omega) (by omega)
    have hr1 : r < (swapM m r k).length := by rw [swapM_len]; exact hrl
    have hr1a : r < (swapM a r k).length := by rw [swapM_len]; omega
    have hrow := okM_gr h1 hr1
    have hrowa := okM_gr h1a hr1a
    have hel := okM_el h1 hr1 (show c < N by omega)
    have hnz : el (gr (swapM m r k) r) c ≠ 0 := by rw [swapM_gr hrl hkl]; exact hne
    obtain ⟨_, i1, i2, i3⟩ := inverse_ hf (x := el (gr (swapM m r k) r) c) ⟨by omega, hel.2⟩
    have h2 : okM p N (pivA p c m m r k) := pivA_ok hp.1 h hrl hkl
    have h2a : okM p q (pivA p c m a r k) := pivA_ok hp.1 ha (by omega) (by omega)
    have hl2 : (pivA p c m m r k).length = m.length := pivA_len p c m m r k
    have hl2a : (pivA p c m a r k).length = a.length := pivA_len p c m a r k
    have hsw : ∃ d1, (0 ≤ d1 ∧ d1 < p) ∧ ((some (decide ((r : Int) < (k : Int)))).bind fun a11181 =>
              cond a11181
              ((idxO m (k : Int)).bind fun a11192 =>
                (idxO a (k : Int)).bind fun a11201 =>
                (idxO m (r : Int)).bind fun a11211 =>
                (idxO a (r : Int)).bind fun a11228 =>
                (swapO m (k : Int) (r : Int)).bind fun a11245 =>
                (swapO a (k : Int) (r : Int)).bind fun a11254 =>
                (F_spec_fdNeg p det).bind fun y11256 =>
                some (a11245, a11254, y11256))
              (some (m, a, det))) = some (swapM m r k, swapM a r k, d1) := by
      by_cases hrk : r < k
      · refine ⟨(p - det) % p, emod_in hp.1, stp (cTW (dT (by omega)) ?_)⟩
        refine bnd (idx_gr hkl) (bnd (idx_gr (by omega)) (bnd (idx_gr hrl) (bnd (idx_gr (by omega)) (bnd (swapO_ hkl hrl) (bnd (swapO_ (by omega) (by omega)) (bnd (fdNeg_ hp hd) ?_))))))
        rw [swapM_comm (by omega), swapM_comm (by omega)]
      · have e : k = r := by omega
        subst e
        refine ⟨det, hd, stp (cFW (dF (by omega)) ?_)⟩
        rw [swapM_self hrl, swapM_self (by omega)]
    obtain ⟨d1, hd1, hsw⟩ := hsw
    refine ⟨(d1 * el (gr (swapM m r k) r) c) % p, emod_in hp.1, ?_⟩
    unfold mrBody
    dsimp only
    refine stp (cTW (dT (by omega)) (bnd (a := (stepA p c m m r k, stepA p c m a r k, (r : Int) + 1, (d1 * el (gr (swapM m r k) r) c) % p)) (scan (stp (cFW (dF (by omega)) ?_))) ?_))
    · refine bnd hsw ?_
      dsimp only
      refine bnd (idx_gr hr1) (bnd (idx_el (by omega)) (bnd (fdMul_ hp hd1 hel) (bnd (idx_gr hr1) (bnd (fdInv_ hf ⟨by omega, hel.2⟩) (bnd (mxScale_ hp hrow.2 ⟨i2, i3⟩) (bnd (setO_of _ hr1) ?_))))))
      refine bnd (idx_gr hr1a) (bnd (fdInv_ hf ⟨by omega, hel.2⟩) (bnd (mxScale_ hp hrowa.2 ⟨i2, i3⟩) (bnd (setO_of _ hr1a) ?_)))
      change (forS _ (pivA p c m m r k).length 0 (pivA p c m m r k, pivA p c m a r k)).bind _ = _
      exact bnd (mrElim hp h2 h2a (by omega) (by omega) (by omega)) (bnd (addO_of (by omega) (by omega)) rfl)
    · exact bnd (addO_of (by omega) (by omega)) rfl
theorem mr_loop {p : Int} {n N q : Nat} (hf : fdB p = true) (hn : n ≤ N) (hN : N ≤ 1048576) : ∀ (d c : Nat) (m a : Rows) (r : Nat) (det : Int), c + d = n → okM p N m → okM p q a → a.length = m.length → m.length ≤ 1048576 → r ≤ m.length → (0 ≤ det ∧ det < p) →
    ∃ d2, whileO (mrBody p (n : Int)) (m, a, (r : Int), det, (c : Int)) = some ((redLoop p d c m a r).1, (redLoop p d c m a r).2.1, ((redLoop p d c m a r).2.2 : Int), d2)
  | 0, c, m, a, r, det, hc, h, ha, hl, hL, hr, hd => by
    refine ⟨det, whileO_end ?_⟩
    unfold mrBody
    exact stp (cFW (dF (by dsimp only; omega)) rfl)
  | d + 1, c, m, a, r, det, hc, h, ha, hl, hL, hr, hd => by
    obtain ⟨d2, hd2, hs⟩ := mr_step hf h ha hl hn hN hL hr (show c < n by omega) hd
    obtain ⟨s1, s2, s3⟩ := scanN_spec m c (m.length - r) r (by omega)
    rw [whileO_step hs]
    by_cases hk : scanN m c (m.length - r) r = m.length
    · rw [if_pos hk]
      obtain ⟨d3, h3⟩ := mr_loop hf hn hN d (c + 1) m a r d2 (by omega) h ha hl hL hr hd2
      refine ⟨d3, ?_⟩
      have e : redLoop p (d + 1) c m a r = redLoop p d (c + 1) m a r := by
        conv => lhs; unfold redLoop
        by_cases hrl : r < m.length
        · rw [if_pos hrl, if_pos hk]
        · rw [if_neg hrl]
          cases d with
          | zero => rfl
          | succ d =>
            conv => rhs; unfold redLoop
            rw [if_neg hrl]
      rw [e]; exact h3
    · rw [if_neg hk]
      have hkl : scanN m c (m.length - r) r < m.length := by omega
      have hrl : r < m.length := by omega
      have ha2 : okM p q (stepA p c m a r (scanN m c (m.length - r) r)) := stepA_ok (fdB_rng hf).1 ha (by omega) (by omega)
      obtain ⟨d3, h3⟩ := mr_loop hf hn hN d (c + 1) (stepA p c m m r (scanN m c (m.length - r) r)) (stepA p c m a r (scanN m c (m.length - r) r)) (r + 1) d2 (by omega) (stepA_ok (fdB_rng hf).1 h hrl hkl) ha2 (by rw [stepA_len, stepA_len]; exact hl) (by rw [stepA_len]; exact hL) (by rw [stepA_len]; omega) hd2
      refine ⟨d3, ?_⟩
      have e : redLoop p (d + 1) c m a r = redLoop p d (c + 1) (stepA p c m m r (scanN m c (m.length - r) r)) (stepA p c m a r (scanN m c (m.length - r) r)) (r + 1) := by
        conv => lhs; unfold redLoop
        rw [if_pos hrl, if_neg hk]
      rw [e]; exact h3

/-! ### identity matrices -/
def unitN (n i : Nat) : List Int := (List.replicate n 0).set i 1
def idN (n : Nat) : Rows := (List.range n).map (unitN n)
theorem unitN_ok {p : Int} (hp : 2 ≤ p) (n i : Nat) : okR p n (unitN n i) := by
  refine ⟨by simp [unitN], fun x hx => ?_⟩
  rcases List.mem_or_eq_of_mem_set hx with h | rfl
  · have := List.eq_of_mem_replicate h; omega
  · omega
theorem idN_len (n : Nat) : (idN n).length = n := by simp [idN]
theorem idN_ok {p : Int} (hp : 2 ≤ p) (n : Nat) : okM p n (idN n) := by
  intro x hx
  obtain ⟨i, hi, rfl⟩ := List.mem_map.1 hx
  exact unitN_ok hp n i
theorem mxZero_ {r c : Nat} (hr : r ≤ maxN) (hc : c ≤ maxN) : F_spec_mxZero (r : Int) (c : Int) = some ((c : Int), List.replicate r (List.replicate c 0)) := by
  refine bnd (makeO_of _ hr) (bnd (a := List.replicate r (List.replicate c 0)) ?_ rfl)
  have := forS_is (n := r) (fun i => partG (fun _ _ => List.replicate c (0 : Int)) (List.replicate r []) i) (f := fun (k13 : Nat) (s48 : List (List Int)) =>
      (makeO (c : Int) (0 : Int)).bind fun a58 =>
      (setO s48 ((k13 : Nat) : Int) a58).bind fun a69 =>
      some a69) (by
    intro i hi
    have hi' : i < (List.replicate r ([] : List Int)).length := by simpa using hi
    have := part_setG (g := fun _ _ => List.replicate c (0 : Int)) (m := List.replicate r []) hi'
    refine bnd (makeO_of _ hc) (bnd (setO_of _ (by rw [partG_len]; exact hi')) ?_)
    rw [← this])
  rw [partG0] at this
  have e := partGN (fun _ _ => List.replicate c (0 : Int)) (List.replicate r ([] : List Int))
  rw [List.length_replicate] at e
  rw [e] at this
  rw [List.length_replicate]
  refine this.trans (congrArg some ?_)
  apply List.ext_getElem?
  intro i
  rw [List.getElem?_mapIdx, List.getElem?_replicate, List.getElem?_replicate]
  split <;> rfl
theorem mxId_ {n : Nat} (hn : n ≤ 1048576) : F_spec_mxId (n : Int) = some ((n : Int), idN n) := by
  have hm : maxN = 1099511627776 := rfl
  refine bnd (mxZero_ (by omega) (by omega)) (bnd (whileO_is (fun i => (partG (fun i (_ : List Int) => unitN n i) (List.replicate n (List.replicate n 0)) i, (i : Int))) (t := idN n) n ?_ ?_) rfl)
  · intro i hi
    dsimp only
    have hi' : i < (List.replicate n (List.replicate n (0 : Int))).length := by simpa using hi
    have hl : i < (partG (fun i (_ : List Int) => unitN n i) (List.replicate n (List.replicate n 0)) i).length := by rw [partG_len]; exact hi'
    have hg : gr (partG (fun i (_ : List Int) => unitN n i) (List.replicate n (List.replicate n 0)) i) i = List.replicate n 0 := by
      rw [gr_part hi', if_neg (by omega)]
      unfold gr
      rw [List.getD_eq_getElem?_getD, List.getElem?_replicate, if_pos hi]; rfl
    have h1 := idx_gr hl
    rw [hg] at h1
    have := part_setG (g := fun i (_ : List Int) => unitN n i) (m := List.replicate n (List.replicate n 0)) hi'
    refine stp (cTW (dT (by omega)) (bnd h1 (bnd (setO_of _ (by simpa using hi)) (bnd (setO_of _ hl) (bnd (addO_of (by omega) (by omega)) ?_)))))
    rw [← this]; rfl
  · dsimp only
    refine stp (cFW (dF (by omega)) ?_)
    have e := partGN (fun i (_ : List Int) => unitN n i) (List.replicate n (List.replicate n (0 : Int)))
    rw [List.length_replicate] at e
    rw [e]
    congr 2
    apply List.ext_getElem?
    intro i
    unfold idN
    rw [List.getElem?_mapIdx, List.getElem?_replicate, List.getElem?_map]
    by_cases hi : i < n
    · rw [if_pos hi, List.getElem?_range hi]; rfl
    · rw [if_neg hi, List.getElem?_eq_none (by simpa using hi)]; rfl
theorem mxCopy_ {m : Mat} (hl : m.2.length ≤ 1048576) (h : ∀ r ∈ m.2, r.length ≤ maxN) : F_spec_mxCopy m = some m := by
  have hm : maxN = 1099511627776 := rfl
  refine bnd (a := m.2) ?_ rfl
  refine (forS_map (fun r => r) m.2 [] (by simp; omega) ?_).trans (by simp)
  intro j x s hx hs
  have hj : j < m.2.length := (List.getElem?_eq_some_iff.1 hx).1
  exact bnd (idxO_of hx) (bnd (own_ (h x (mem_of_get hx))) (bnd (appO_of (by simp at hs ⊢; omega)) rfl))
/-- the reduction of a matrix of n columns with its transforming matrix -/
def redT (p : Int) (n : Nat) (m : Rows) : Rows × Rows × Nat := redLoop p n 0 m (idN m.length) 0
theorem mxReduce_ {p : Int} {n : Nat} {m : Rows} (hf : fdB p = true) (h : okM p n m) (hn : n ≤ 1048576) (hl : m.length ≤ 1048576) :
    ∃ d, F_spec_mxReduce p ((n : Int), m) = some (((n : Int), (redT p n m).1), ((m.length : Int), (redT p n m).2.1), ((redT p n m).2.2 : Int), d) := by
  have hm : maxN = 1099511627776 := rfl
  have hp := fdB_rng hf
  obtain ⟨d, hd⟩ := mr_loop hf (Nat.le_refl n) hn n 0 m (idN m.length) 0 1 (by omega) h (idN_ok hp.1 m.length) (idN_len _) hl (by omega) ⟨by omega, by omega⟩
  refine ⟨d, bnd (a := ((n : Int), m, (m.length : Int), idN m.length)) (bnd (mxCopy_ hl (fun r hr => by have := (h r hr).1; omega)) (bnd (mxId_ hl) rfl)) ?_⟩
  exact bnd hd rfl

/-! ### linear equations -/
theorem redT_facts {p : Int} {n : Nat} {m : Rows} (hf : fdB p = true) (h : okM p n m) : (redT p n m).2.2 ≤ m.length ∧ (redT p n m).1.length = m.length ∧ (redT p n m).2.1.length = m.length ∧ okM p m.length (redT p n m).2.1 ∧ okM p n (redT p n m).1 ∧ Red p n ((redT p n m).1.take (redT p n m).2.2) := by
  have hp := fdB_rng hf
  obtain ⟨k1, k2, k3, k4, k5, k6, k7⟩ := redLoop_ok hp.1 n 0 m (idN m.length) 0 h (idN_ok hp.1 m.length) (idN_len _) (by omega)
  have e : (redT p n m).1.take (redT p n m).2.2 = redM p n m := by
    obtain ⟨e1, e2⟩ := redLoop_any p n 0 m (idN m.length) m 0
    unfold redT redM; rw [e1, e2]
  exact ⟨k6, k3, k4, k2, k1, by rw [e]; exact redM_red hf h⟩
def xsN (p : Int) (b t : Rows) (v : List Int) (z : List Int) : Nat → List Int
  | 0 => z
  | i + 1 => mapR (subG p ((p - el v (leadN (gr b i))) % p) (gr t i)) (xsN p b t v z i)
theorem neg_mul_mod (p x k y : Int) : (x - (p - k) % p * y) % p = (x + k * y) % p := by
  have e1 : (x - (p - k) % p * y) % p = (x - (p - k) * y) % p := by
    rw [Int.sub_emod, mul_mod1, ← Int.sub_emod]
  rw [e1]
  have : x - (p - k) * y = x + k * y + p * (-y) := by
    rw [Int.sub_mul, Int.mul_neg]; omega
  rw [this, Int.add_mul_emod_self_left]
theorem mapR_addR {p k : Int} {w : List Int} : ∀ (acc : List Int), w.length = acc.length → mapR (subG p ((p - k) % p) w) acc = addR p k acc w := fun acc hl => by
  refine ext_el (by rw [mapR_len, addR_len hl]) fun j hj => ?_
  rw [mapR_len] at hj
  rw [el_mapR hj, el_addR hj hl]
  unfold subG
  exact neg_mul_mod p (el acc j) k (el w j)
theorem fold2_snoc {α β σ : Type} (g : σ → α → β → σ) : ∀ (l : List α) (m : List β) (s : σ) (a : α) (b : β), l.length = m.length → fold2 g (l ++ [a]) (m ++ [b]) s = g (fold2 g l m s) a b
  | [], [], _, _, _, _ => rfl
  | [], _ :: _, _, _, _, h => by simp at h
  | _ :: _, [], _, _, _, h => by simp at h
  | x :: l, y :: m, s, a, b, h => fold2_snoc g l m (g s x y) a b (by simpa using h)
theorem xsN_comb {p : Int} {q : Nat} {b t : Rows} {v : List Int} (hp : 2 ≤ p) (ht : okM p q t) (hl : b.length ≤ t.length) : ∀ i, i ≤ b.length → xsN p b t v (List.replicate q 0) i = combR p q (t.take i) ((coordsL b v).take i)
  | 0, _ => by simp [xsN, combR, fold2]
  | i + 1, hi => by
    have hti : i < t.length := by omega
    have hci : i < (coordsL b v).length := by simp [coordsL]; omega
    have e1 : t.take (i + 1) = t.take i ++ [gr t i] := by rw [List.take_add_one, gr_get hti]; rfl
    have e2 : (coordsL b v).take (i + 1) = (coordsL b v).take i ++ [el v (leadN (gr b i))] := by rw [List.take_add_one, el_get hci, el_coords (by omega)]; rfl
    show mapR _ (xsN p b t v (List.replicate q 0) i) = _
    rw [xsN_comb hp ht hl i (by omega), e1, e2]
    unfold combR
    rw [fold2_snoc _ _ _ _ _ _ (by simp [coordsL]; omega)]
    have hok : okR p q (fold2 (fun acc row c => addR p c acc row) (t.take i) ((coordsL b v).take i) (List.replicate q 0)) := fold2_ok hp _ _ _ (okR_zero hp q) (fun x hx => ht x (List.mem_of_mem_take hx))
    exact mapR_addR _ (by rw [(okM_gr ht hti).1, hok.1])
def solB (p : Int) (n : Nat) (m : Rows) (v : List Int) : Bool := hasB p n ((redT p n m).1.take (redT p n m).2.2) v
def solX (p : Int) (n : Nat) (m : Rows) (v : List Int) : List Int := combR p m.length ((redT p n m).2.1.take (redT p n m).2.2) (coordsL ((redT p n m).1.take (redT p n m).2.2) v)
theorem mxSolve_ {p : Int} {n : Nat} {m : Rows} {v : List Int} (hf : fdB p = true) (h : okM p n m) (hv : okR p n v) (hn : n ≤ 1048576) (hl : m.length ≤ 1048576) : F_spec_mxSolve p ((n : Int), m) v = some (solX p n m v, solB p n m v) := by
  have hp := fdB_rng hf
  have hm : maxN = 1099511627776 := rfl
  obtain ⟨d, hd⟩ := mxReduce_ hf h hn hl
  obtain ⟨f1, f2, f3, f4, f5, f6⟩ := redT_facts hf h
  unfold solX solB
  generalize redT p n m = t at hd f1 f2 f3 f4 f5 f6
  obtain ⟨a, u, r⟩ := t
  dsimp only at f1 f2 f3 f4 f5 f6 hd ⊢
  have hbl : (a.take r).length = r := by rw [List.length_take]; omega
  have hvl := hv.1
  refine bnd hd (bnd (a := (List.replicate m.length 0, v)) (bnd (makeO_of _ (by show m.length ≤ maxN; omega)) (bnd (own_ (by omega)) rfl)) ?_)
  refine bnd (a := (xsN p (a.take r) u v (List.replicate m.length 0) r, restN p v (a.take r) r)) ?_ ?_
  · have := whileO_is (fun i => (xsN p (a.take r) u v (List.replicate m.length 0) i, restN p v (a.take r) i, (i : Int))) (t := (xsN p (a.take r) u v (List.replicate m.length 0) r, restN p v (a.take r) r)) r (f := fun (s391 : List Int × List Int × Int) =>
      (some (decide (s391.2.2 < (r : Int)))).bind fun a400 =>
      cond a400
      ((idxO a s391.2.2).bind fun a411 =>
        (F_spec_spLead a411).bind fun y414 =>
        (idxO s391.2.1 y414).bind fun a423 =>
        (idxO a s391.2.2).bind fun a431 =>
        (F_spec_mxLess p s391.2.1 a431 a423).bind fun y434 =>
        (idxO u s391.2.2).bind fun a444 =>
        (F_spec_fdNeg p a423).bind fun y447 =>
        (F_spec_mxLess p s391.1 a444 y447).bind fun y450 =>
        (addO s391.2.2 1).bind fun a453 =>
        some (.inl (y450, y434, a453)))
      (some (.inr (s391.1, s391.2.1)))) (by
      intro i hi
      dsimp only
      have hil : i < a.length := by omega
      have hg : gr (a.take r) i = gr a i := gr_take hi
      have hl1 := f6.lt i (by omega)
      have hro := okM_gr f5 hil
      obtain ⟨h1, h2⟩ := restN_el hp.1 f6 hv i (by omega)
      have h3 := h2 (by omega)
      have hok := restN_ok (b := a.take r) hp.1 hv i
      have hel := hok.2 _ (el_mem (r := restN p v (a.take r) i) (c := leadN (gr (a.take r) i)) (by rw [hok.1]; exact hl1))
      have hxs : okR p m.length (xsN p (a.take r) u v (List.replicate m.length 0) i) := by
        rw [xsN_comb hp.1 f4 (by omega) i (by omega)]
        exact combR_ok hp.1 (fun x hx => f4 x (List.mem_of_mem_take hx))
      have hur := okM_gr f4 (i := i) (by omega)
      rw [hg] at hl1 h3 hel
      refine stp (cTW (dT (by omega)) (bnd (idx_gr hil) (bnd (spLead_ (by omega)) (bnd (idx_el (by rw [hok.1]; exact hl1)) (bnd (idx_gr hil) (bnd (mxLess_ hp hok.2 hro.2 (by rw [hok.1, hro.1]) hel) (bnd (idx_gr (by omega)) (bnd (fdNeg_ hp hel) (bnd (mxLess_ hp hxs.2 hur.2 (by rw [hxs.1, hur.1]) (emod_in hp.1)) (bnd (addO_of (by omega) (by omega)) ?_))))))))))
      refine congrArg some (congrArg Sum.inl (Prod.ext ?_ (Prod.ext ?_ rfl)))
      · show mapR (subG p ((p - el _ _) % p) _) _ = mapR (subG p ((p - el v (leadN (gr (a.take r) i))) % p) (gr u i)) _
        rw [hg, h3]
      · show mapR _ _ = mapR (subG p (el _ (leadN (gr (a.take r) i))) (gr (a.take r) i)) _
        rw [hg]) (by dsimp only; exact stp (cFW (dF (by omega)) rfl))
    exact this
  · have e1 : xsN p (a.take r) u v (List.replicate m.length 0) r = combR p m.length (u.take r) (coordsL (a.take r) v) := by
      have := xsN_comb (v := v) (b := a.take r) hp.1 f4 (by omega) r (by omega)
      rw [this, List.take_of_length_le (l := coordsL (a.take r) v) (by simp [coordsL]; omega)]
    rw [e1]
    refine bnd (l1All _ 0 0) ?_
    refine congrArg some (Prod.ext rfl ?_)
    show List.all _ _ = decide _
    obtain ⟨h1, _⟩ := restN_el hp.1 f6 hv r (by omega)
    have hok := restN_ok (b := a.take r) hp.1 hv r
    have hco := combR_ok (cs := coordsL (a.take r) v) hp.1 f6.ok
    have hcl : (a.take r).length ≤ (coordsL (a.take r) v).length := by simp [coordsL]
    have key : ∀ j, j < n → (el (restN p v (a.take r) r) j = 0 ↔ el (combR p n (a.take r) (coordsL (a.take r) v)) j = el v j) := fun j hj => by
      rw [h1 j hj, el_combR hp.1 f6.ok hcl hj, sub_zero_iff (hv.2 _ (el_mem (by omega))), hbl]
      rw [sg_congr (g := fun i => el (coordsL (a.take r) v) i * el (gr (a.take r) i) j) (fun i hi => by rw [el_coords (by omega)])]
    rw [Bool.eq_iff_iff, List.all_eq_true, decide_eq_true_eq]
    constructor
    · intro h
      refine ext_el (by rw [hco.1, hv.1]) fun j hj => (key j (by rw [hco.1] at hj; exact hj)).1 ?_
      have := rng_true.1 (h _ (el_mem (r := restN p v (a.take r) r) (c := j) (by rw [hok.1]; rw [hco.1] at hj; exact hj)))
      omega
    · intro h x hx
      obtain ⟨j, hj, rfl⟩ := List.mem_iff_getElem.1 hx
      have := (key j (by rw [hok.1] at hj; exact hj)).2 (by rw [h])
      have e : el (restN p v (a.take r) r) j = (restN p v (a.take r) r)[j] := by have := el_get hj; rw [List.getElem?_eq_getElem hj] at this; exact (Option.some.inj this).symm
      rw [← e, this]; rfl
end Go.Proofs.YtocpeclcoikdpaaDoor
namespace Go.Proofs.YtocpeclcoikdpaaDoor
set_option linter.unusedVariables false

/-! ### lists of ports -/
/-- ports of n, strictly increasing -/
structure Ports (l : List Int) (n : Nat) : Prop where
  rng : ∀ k, k < l.length → 0 ≤ el l k ∧ el l k < (n : Int)
  inc : ∀ i j, i < j → j < l.length → el l i < el l j
theorem Ports.inj {l : List Int} {n : Nat} (h : Ports l n) {i j : Nat} (hi : i < l.length) (hj : j < l.length) (he : el l i = el l j) : i = j := by
  rcases Nat.lt_trichotomy i j with h1 | h1 | h1
  · have := h.inc i j h1 hj; omega
  · exact h1
  · have := h.inc j i h1 hi; omega
theorem Ports.len {l : List Int} {n : Nat} (h : Ports l n) : l.length ≤ n := by
  have key : ∀ k, k < l.length → (k : Int) ≤ el l k := fun k hk => by
    induction k with
    | zero => have := h.rng 0 hk; omega
    | succ k ih => have := ih (by omega); have := h.inc k (k + 1) (by omega) hk; omega
  rcases Nat.eq_zero_or_pos l.length with h0 | h0
  · omega
  · have := key (l.length - 1) (by omega)
    have := (h.rng (l.length - 1) (by omega)).2
    omega

/-! ### the other ports -/
def upL (n : Nat) : List Int := (List.range n).map fun q : Nat => (q : Int)
theorem upL_len (n : Nat) : (upL n).length = n := by simp [upL]
theorem upL_el {n q : Nat} (h : q < n) : el (upL n) q = (q : Int) := by
  have h1 := el_get (r := upL n) (c := q) (by rw [upL_len]; exact h)
  unfold upL at h1
  rw [List.getElem?_map, List.getElem?_range h] at h1
  exact (Option.some.inj h1).symm
theorem upTo_ {n : Nat} (hn : n ≤ 1048576) : F_impl_upTo (n : Int) = some (upL n) := by
  have hm : maxN = 1099511627776 := rfl
  refine bnd (zeros_ (by omega)) (bnd (a := upL n) ?_ rfl)
  have := forS_is (n := n) (fun k => part (fun j (_ : Int) => (j : Int)) (List.replicate n (0 : Int)) k) (f := fun (k6 : Nat) (s29 : List Int) =>
      (setO s29 ((k6 : Nat) : Int) ((k6 : Nat) : Int)).bind fun a44 =>
      some a44) (by
    intro k hk
    have hk' : k < (List.replicate n (0 : Int)).length := by simpa using hk
    exact bnd (setO_of _ (by rw [part_len]; exact hk')) (congrArg some (part_set (fun j (_ : Int) => (j : Int)) (List.replicate n 0) hk')))
  rw [part0] at this
  have e := partN (fun j (_ : Int) => (j : Int)) (List.replicate n (0 : Int))
  rw [List.length_replicate] at e
  rw [e] at this
  rw [List.length_replicate]
  refine this.trans (congrArg some ?_)
  refine ext_el (by rw [mapR_len, upL_len]; simp) fun j hj => ?_
  rw [mapR_len, List.length_replicate] at hj
  rw [el_mapR (by simpa using hj), upL_el hj]

/-! ### rows at ports -/
/-- indices below n -/
def below (l : List Int) (n : Nat) : Prop := ∀ k, k < l.length → 0 ≤ el l k ∧ el l k < (n : Int)

/-! ### ports that are always inputs -/
end Go.Proofs.YtocpeclcoikdpaaDoor
namespace Go.Proofs.YtocpeclcoikdpaaDoor
set_option linter.unusedVariables false

/-! ### rows beside rows -/
def catM (m a : Rows) : Rows := List.zipWith (fun x y => x ++ y) m a
theorem catM_len {m a : Rows} (h : a.length = m.length) : (catM m a).length = m.length := by simp [catM, h]
theorem catM_gr : ∀ {m a : Rows} {i : Nat}, a.length = m.length → gr (catM m a) i = gr m i ++ gr a i
  | [], [], i, _ => by simp [catM, gr]
  | [], _ :: _, _, h => by simp at h
  | _ :: _, [], _, h => by simp at h
  | x :: m, y :: a, 0, _ => by rw [gr_zero, gr_zero]; rfl
  | x :: m, y :: a, i + 1, h => by
    rw [gr_succ, gr_succ]
    show gr ((x ++ y) :: catM m a) (i + 1) = _
    rw [gr_succ]
    exact catM_gr (by simpa using h)
theorem el_app {x y : List Int} {j : Nat} : el (x ++ y) j = if j < x.length then el x j else el y (j - x.length) := by
  unfold el
  rw [List.getD_eq_getElem?_getD, List.getD_eq_getElem?_getD, List.getD_eq_getElem?_getD]
  split
  · rename_i h; rw [List.getElem?_append_left h]
  · rename_i h; rw [List.getElem?_append_right (by omega)]
theorem catM_ok {p : Int} {k q : Nat} {m a : Rows} (hl : a.length = m.length) (h : okM p k m) (ha : okM p q a) : okM p (k + q) (catM m a) := by
  intro x hx
  obtain ⟨i, hi, rfl⟩ := List.mem_iff_getElem.1 hx
  rw [catM_len hl] at hi
  have e : gr (catM m a) i = (catM m a)[i]'(by rw [catM_len hl]; exact hi) := by have := gr_get (m := catM m a) (i := i) (by rw [catM_len hl]; exact hi); rw [List.getElem?_eq_getElem] at this; exact (Option.some.inj this).symm
  rw [← e, catM_gr hl]
  exact okR_app (okM_gr h hi) (okM_gr ha (by omega))
theorem catM_el {p : Int} {k : Nat} {m a : Rows} (hl : a.length = m.length) (h : okM p k m) {i c : Nat} (hi : i < m.length) (hc : c < k) : el (gr (catM m a) i) c = el (gr m i) c := by
  rw [catM_gr hl, el_app, if_pos (by rw [(okM_gr h hi).1]; exact hc)]
theorem catM_scan {p : Int} {k : Nat} {m a : Rows} (hl : a.length = m.length) (h : okM p k m) {c : Nat} (hc : c < k) : ∀ (d i : Nat), i + d ≤ m.length → scanN (catM m a) c d i = scanN m c d i
  | 0, _, _ => rfl
  | d + 1, i, hi => by
    unfold scanN
    rw [catM_el hl h (by omega) hc, catM_scan hl h hc d (i + 1) (by omega)]
theorem catM_swap {m a : Rows} {r k i : Nat} (hl : a.length = m.length) (hr : r < m.length) (hk : k < m.length) : gr (swapM (catM m a) r k) i = gr (swapM m r k) i ++ gr (swapM a r k) i := by
  have hcl := catM_len hl
  rw [swapM_gr2 (by rw [hcl]; exact hr) (by rw [hcl]; exact hk), swapM_gr2 hr hk, swapM_gr2 (m := a) (by omega) (by omega)]
  split
  · exact catM_gr hl
  · split <;> exact catM_gr hl
theorem catM_step {p : Int} {c r k w q : Nat} {m a : Rows} (hf : fdB p = true) (h : okM p w m) (ha : okM p q a) (hl : a.length = m.length) (hr : r < m.length) (hk : k < m.length) (hc : c < w) (hne : el (gr m k) c ≠ 0) :
    stepA p c (catM m a) (catM m a) r k = catM (stepA p c m m r k) (stepA p c m a r k) := by
  have hp := fdB_rng hf
  have hcl := catM_len hl
  have hco := catM_ok hl h ha
  have hne2 : el (gr (catM m a) k) c ≠ 0 := by rw [catM_el hl h hk hc]; exact hne
  obtain ⟨f1, f2, f3⟩ := stepA_el hf hco hco rfl (by rw [hcl]; exact hr) (by rw [hcl]; exact hk) (by omega) hne2
  obtain ⟨g1, g2, g3⟩ := stepA_el hf h h rfl hr hk hc hne
  obtain ⟨k1, k2, k3⟩ := stepA_el hf h ha hl hr hk hc hne
  have l1 : (stepA p c (catM m a) (catM m a) r k).length = m.length := by rw [stepA_len, hcl]
  have l2 : (stepA p c m m r k).length = m.length := stepA_len p c m m r k
  have l3 : (stepA p c m a r k).length = m.length := by rw [stepA_len, hl]
  have o1 : okM p (w + q) (stepA p c (catM m a) (catM m a) r k) := stepA_ok hp.1 hco (by rw [hcl]; exact hr) (by rw [hcl]; exact hk)
  have o2 : okM p w (stepA p c m m r k) := stepA_ok hp.1 h hr hk
  have o3 : okM p q (stepA p c m a r k) := stepA_ok hp.1 ha (by omega) (by omega)
  rw [hcl] at f3
  have hrow : ∀ j, j < w + q → el (gr (stepA p c (catM m a) (catM m a) r k) r) j = el (gr (stepA p c m m r k) r ++ gr (stepA p c m a r k) r) j := fun j hj => by
    rw [f2 j hj, catM_el hl h hk hc, catM_gr hl, el_app, el_app, (okM_gr h hk).1, (okM_gr o2 (i := r) (by omega)).1]
    split
    · rw [g2 j (by omega)]
    · rw [k2 _ (by omega)]
  refine ext_gr (by rw [catM_len (by rw [l3, l2]), l1, l2]) fun i hi => ?_
  rw [l1] at hi
  rw [catM_gr (by rw [l3, l2])]
  have wi := (okM_gr o2 (i := i) (by omega)).1
  refine ext_el (by rw [List.length_append, (okM_gr o1 (i := i) (by omega)).1, wi, (okM_gr o3 (i := i) (by omega)).1]) fun j hj => ?_
  rw [(okM_gr o1 (i := i) (by omega)).1] at hj
  by_cases hir : i = r
  · subst hir; exact hrow j hj
  · have hsm : okM p w (swapM m r k) := swapM_ok h hr hk
    have ws := (okM_gr hsm (i := i) (by rw [swapM_len]; exact hi)).1
    have wr := (okM_gr o2 (i := r) (by omega)).1
    rw [f3 i hi hir j hj, hrow j hj, catM_swap hl hr hk, el_app, el_app, el_app, el_app, ws, wr, wi, if_pos hc]
    split
    · rename_i hjw; rw [g3 i hi hir j hjw]
    · rename_i hjw; rw [k3 i hi hir _ (by omega)]
theorem catM_loop {p : Int} {w q : Nat} (hf : fdB p = true) : ∀ (d c : Nat) (m a : Rows) (r : Nat), c + d ≤ w → okM p w m → okM p q a → a.length = m.length → r ≤ m.length →
    redLoop p d c (catM m a) (catM m a) r = (catM (redLoop p d c m a r).1 (redLoop p d c m a r).2.1, catM (redLoop p d c m a r).1 (redLoop p d c m a r).2.1, (redLoop p d c m a r).2.2)
  | 0, _, _, _, _, _, _, _, _, _ => rfl
  | d + 1, c, m, a, r, hd, h, ha, hl, hr => by
    have hcl := catM_len hl
    unfold redLoop
    rw [hcl]
    by_cases hrl : r < m.length
    · rw [if_pos hrl, if_pos hrl, catM_scan hl h (by omega) (m.length - r) r (by omega)]
      obtain ⟨s1, s2, s3⟩ := scanN_spec m c (m.length - r) r (by omega)
      split
      · exact catM_loop hf d (c + 1) m a r (by omega) h ha hl hr
      · rename_i hk
        have hkl : scanN m c (m.length - r) r < m.length := by omega
        rw [catM_step hf h ha hl hrl hkl (by omega) (s3 hkl)]
        have ha2 : okM p q (stepA p c m a r (scanN m c (m.length - r) r)) := stepA_ok (fdB_rng hf).1 ha (by omega) (by omega)
        exact catM_loop hf d (c + 1) (stepA p c m m r (scanN m c (m.length - r) r)) (stepA p c m a r (scanN m c (m.length - r) r)) (r + 1) (by omega) (stepA_ok (fdB_rng hf).1 h hrl hkl) ha2 (by rw [stepA_len, stepA_len]; exact hl) (by rw [stepA_len]; omega)
    · rw [if_neg hrl, if_neg hrl]

/-! ### choices -/
theorem inc_id {g : Nat → Nat} {k : Nat} (h1 : ∀ i, i < k → g i < k) (h2 : ∀ i j, i < j → j < k → g i < g j) : ∀ i, i < k → g i = i := by
  have lo : ∀ i, i < k → i ≤ g i := fun i hi => by
    induction i with
    | zero => exact Nat.zero_le _
    | succ i ih => have := ih (by omega); have := h2 i (i + 1) (by omega) hi; omega
  have hi : ∀ d i, i + d + 1 = k → g i ≤ i := fun d => by
    induction d with
    | zero => intro i hi; have := h1 i (by omega); omega
    | succ d ih => intro i hi; have := ih (i + 1) (by omega); have := h2 i (i + 1) (by omega) (by omega); omega
  intro i hik
  have := lo i hik
  have := hi (k - 1 - i) i (by omega)
  omega
end Go.Proofs.YtocpeclcoikdpaaDoor
namespace Go.Proofs.YtocpeclcoikdpaaDoor
set_option linter.unusedVariables false

/-! ### sums and functionals -/
theorem sg_app (f : Nat → Int) (a : Nat) : ∀ b, sg (a + b) f = sg a f + sg b (fun t => f (a + t))
  | 0 => by show sg a f = sg a f + 0; omega
  | b + 1 => by
    show sg (a + b) f + f (a + b) = sg a f + (sg b (fun t => f (a + t)) + f (a + b))
    rw [sg_app f a b]; omega
theorem dot_span {p : Int} {n : Nat} {m : Rows} {v : List Int} (f : Nat → Int) (h : ∀ i, i < m.length → sg n (fun j => f j * el (gr m i) j) % p = 0) (hv : inSpan p n m v) : sg n (fun j => f j * el v j) % p = 0 := by
  obtain ⟨x, hx⟩ := hv
  have e1 : sg n (fun j => f j * el v j) % p = sg n (fun j => f j * sg m.length (fun i => x i * el (gr m i) j)) % p :=
    sg_mod fun j hj => by rw [← mul_mod2, hx j hj, mul_mod2]
  rw [e1]
  have e2 : sg n (fun j => f j * sg m.length (fun i => x i * el (gr m i) j)) = sg m.length (fun i => x i * sg n (fun j => f j * el (gr m i) j)) := by
    rw [sg_congr (g := fun j => sg m.length (fun i => f j * (x i * el (gr m i) j))) (fun j _ => (sg_mul _ _ _).symm), sg_comm]
    refine sg_congr fun i _ => ?_
    rw [← sg_mul]
    exact sg_congr fun j _ => Int.mul_left_comm _ _ _
  rw [e2, sg_mod (g := fun _ => 0) (fun i hi => by rw [mul_mod_zero2 (h i hi)]; exact (Int.zero_emod p).symm), sg_zero (fun _ _ => rfl)]
  exact Int.zero_emod p
/-- x's product with the columns of m is zero -/
def lperp (p : Int) (n : Nat) (m : Rows) (x : List Int) : Prop := ∀ c, c < n → sg m.length (fun t => el x t * el (gr m t) c) % p = 0
theorem lperp_span {p : Int} {n : Nat} {m b : Rows} {v : List Int} (h : ∀ i, i < b.length → lperp p n m (gr b i)) (hv : inSpan p m.length b v) : lperp p n m v := by
  intro c hc
  have := dot_span (n := m.length) (m := b) (v := v) (fun t => el (gr m t) c) (fun i hi => by rw [← h i hi c hc]; exact congrArg (· % p) (sg_congr fun j _ => Int.mul_comm _ _)) hv
  rw [← this]; exact congrArg (· % p) (sg_congr fun j _ => Int.mul_comm _ _)

/-! ### by the steps of a reduction -/
theorem idN_gr {n i : Nat} (hi : i < n) : gr (idN n) i = unitN n i := by
  have h := gr_get (m := idN n) (i := i) (by rw [idN_len]; exact hi)
  unfold idN at h
  rw [List.getElem?_map, List.getElem?_range hi] at h
  exact (Option.some.inj h).symm
theorem unit_elN {n i j : Nat} (hi : i < n) : el (unitN n i) j = if i = j then 1 else 0 := by
  unfold unitN el
  rw [List.getD_eq_getElem?_getD, List.getElem?_set]
  by_cases h : i = j
  · subst h; rw [if_pos rfl, if_pos (by rw [List.length_replicate]; exact hi), if_pos rfl]; rfl
  · rw [if_neg h, if_neg h, ← List.getD_eq_getElem?_getD]; exact el_rep n j
theorem idN_all {p : Int} {n : Nat} (v : List Int) : inSpan p n (idN n) v := by
  refine ⟨fun i => el v i, fun j hj => ?_⟩
  rw [idN_len, sg_one (i0 := j) hj (fun i hi hne => by rw [idN_gr hi, unit_elN hi, if_neg hne, Int.mul_zero]), idN_gr hj, unit_elN hj, if_pos rfl, Int.mul_one]
theorem redT_rel {p : Int} {n : Nat} {m : Rows} (hf : fdB p = true) (h : okM p n m) : ∀ i, i < m.length → ∀ c, c < n → el (gr (redT p n m).1 i) c % p = sg m.length (fun t => el (gr (redT p n m).2.1 i) t * el (gr m t) c) % p := by
  have hp := fdB_rng hf
  obtain ⟨f1, f2, f3, f4, f5, f6⟩ := redT_facts hf h
  have hl : (idN m.length).length = m.length := idN_len _
  have h1 := catM_loop hf n 0 m (idN m.length) 0 (by omega) h (idN_ok hp.1 _) hl (Nat.zero_le _)
  have hC := catM_ok hl h (idN_ok hp.1 m.length)
  have h2 := (loop_span hf n 0 (catM m (idN m.length)) (catM m (idN m.length)) 0 (by omega) hC hC rfl (Nat.zero_le _)).1
  rw [h1] at h2
  change subSpan p (n + m.length) (catM (redT p n m).1 (redT p n m).2.1) (catM m (idN m.length)) at h2
  intro i hi c hc
  have hv := h2 i (by rw [catM_len (by omega)]; omega)
  rw [catM_gr (by omega)] at hv
  have key : ∀ a b : List Int, a.length = n → sg (n + m.length) (fun j => (if j < n then (if c = j then 1 else 0) else -(el (gr m (j - n)) c)) * el (a ++ b) j) = el a c - sg m.length (fun t => el b t * el (gr m t) c) := by
    intro a b ha
    rw [sg_app, sg_one (i0 := c) hc (fun j hj hne => by rw [if_pos hj, if_neg (fun hh => hne hh.symm), Int.zero_mul]), if_pos hc, if_pos rfl, Int.one_mul, el_app, if_pos (by omega), Int.sub_eq_add_neg, ← sg_neg]
    congr 1
    refine sg_congr fun t _ => ?_
    rw [if_neg (by omega), el_app, if_neg (by omega), show n + t - n = t by omega, show n + t - a.length = t by omega, Int.neg_mul, Int.mul_comm]
  have hd := dot_span (n := n + m.length) (m := catM m (idN m.length)) _ (fun i hi => by
    rw [catM_len hl] at hi
    rw [catM_gr hl, key _ _ (h _ (gr_mem hi)).1, idN_gr hi, sg_one (i0 := i) hi (fun t _ hne => by rw [unit_elN hi, if_neg (fun hh => hne hh.symm), Int.zero_mul]), unit_elN hi, if_pos rfl, Int.one_mul, Int.sub_self]
    exact Int.zero_emod p) hv
  rw [key _ _ (f5 _ (gr_mem (by omega))).1] at hd
  exact mod_of_sub hd
theorem redT_rest {p : Int} {n : Nat} {m : Rows} (hf : fdB p = true) (h : okM p n m) : ∀ i, (redT p n m).2.2 ≤ i → i < m.length → ∀ c, c < n → el (gr (redT p n m).1 i) c = 0 := by
  have h1 := redLoop_red hf n 0 m 0 (by omega) h (RedI.start m)
  obtain ⟨e1, e2⟩ := redLoop_any p n 0 m m (idN m.length) 0
  have f2 := (redT_facts hf h).2.1
  rw [e1, e2, Nat.zero_add] at h1
  intro i h2 h3 c hc
  exact h1.rest i h2 (by rw [← f2] at h3; exact h3) c hc
theorem redT_all {p : Int} {n : Nat} {m : Rows} (hf : fdB p = true) (h : okM p n m) (v : List Int) : inSpan p m.length (redT p n m).2.1 v := by
  have hp := fdB_rng hf
  exact inSpan_trans (loop_span hf n 0 m (idN m.length) 0 (by omega) h (idN_ok hp.1 _) (idN_len _) (Nat.zero_le _)).2 (idN_all v)
theorem gr_drop (m : Rows) (k i : Nat) : gr (m.drop k) i = gr m (k + i) := by
  unfold gr; rw [List.getD_eq_getElem?_getD, List.getD_eq_getElem?_getD, List.getElem?_drop]
def kerM (p : Int) (n : Nat) (m : Rows) : Rows := redM p m.length ((redT p n m).2.1.drop (redT p n m).2.2)
theorem ker_ok {p : Int} {n : Nat} {m : Rows} (hf : fdB p = true) (h : okM p n m) : okM p m.length ((redT p n m).2.1.drop (redT p n m).2.2) :=
  fun r hr => (redT_facts hf h).2.2.2.1 r (List.mem_of_mem_drop hr)
theorem kerM_iff {p : Int} {n : Nat} {m : Rows} (hf : fdB p = true) (h : okM p n m) (x : List Int) : inSpan p m.length (kerM p n m) x ↔ lperp p n m x := by
  have hp := fdB_rng hf
  obtain ⟨f1, f2, f3, f4, f5, f6⟩ := redT_facts hf h
  have hrel := redT_rel hf h
  have hrest := redT_rest hf h
  have hsp := redM_span hf (ker_ok hf h)
  constructor
  · intro hx
    refine lperp_span (b := (redT p n m).2.1.drop (redT p n m).2.2) (fun i hi c hc => ?_) (inSpan_trans hsp.1 hx)
    rw [List.length_drop] at hi
    rw [gr_drop, ← hrel _ (by omega) c hc, hrest _ (by omega) (by omega) c hc]
    exact Int.zero_emod p
  · intro hx
    refine inSpan_trans hsp.2 ?_
    obtain ⟨y, hy⟩ := redT_all hf h x
    rw [f3] at hy
    have hL : (redT p n m).2.2 + (m.length - (redT p n m).2.2) = m.length := by omega
    -- the first coefficients are zero
    have hz : ∀ i, i < (redT p n m).2.2 → y i % p = 0 := by
      have hi := f6.indep y (fun c hc => ?_)
      · intro i h1; exact hi i (by rw [List.length_take]; omega)
      · have hlen : ((redT p n m).1.take (redT p n m).2.2).length = (redT p n m).2.2 := by rw [List.length_take]; omega
        rw [hlen, sg_congr (g := fun i => y i * el (gr (redT p n m).1 i) c) (fun i h1 => by rw [gr_take h1])]
        have e0 : sg m.length (fun i => y i * el (gr (redT p n m).1 i) c) = sg (redT p n m).2.2 (fun i => y i * el (gr (redT p n m).1 i) c) := by
          conv => lhs; rw [← hL]
          rw [sg_app, sg_zero (k := m.length - (redT p n m).2.2) (fun t ht => by rw [hrest _ (by omega) (by omega) c hc, Int.mul_zero])]
          omega
        rw [← e0, sg_mod (g := fun i => y i * sg m.length (fun t => el (gr (redT p n m).2.1 i) t * el (gr m t) c)) (fun i hi => by rw [← mul_mod2, hrel i hi c hc, mul_mod2])]
        rw [← hx c hc]
        have e1 : sg m.length (fun i => y i * sg m.length (fun t => el (gr (redT p n m).2.1 i) t * el (gr m t) c)) = sg m.length (fun t => sg m.length (fun i => y i * el (gr (redT p n m).2.1 i) t) * el (gr m t) c) := by
          rw [sg_congr (g := fun i => sg m.length (fun t => y i * (el (gr (redT p n m).2.1 i) t * el (gr m t) c))) (fun i _ => (sg_mul _ _ _).symm), sg_comm]
          refine sg_congr fun t _ => ?_
          rw [← sg_mulr]
          exact sg_congr fun i _ => (Int.mul_assoc _ _ _).symm
        rw [e1]
        exact sg_mod fun t ht => by rw [← mul_mod1, ← hy t ht, mul_mod1]
    refine ⟨fun t => y ((redT p n m).2.2 + t), fun j hj => ?_⟩
    rw [hy j hj, List.length_drop, f3]
    conv => lhs; rw [← hL]
    rw [sg_app, Int.add_emod, sg_mod (k := (redT p n m).2.2) (g := fun _ => 0) (fun i hi => by rw [mul_mod_zero (hz i hi)]; exact (Int.zero_emod p).symm), sg_zero (k := (redT p n m).2.2) (f := fun _ => 0) (fun _ _ => rfl), Int.zero_emod, Int.zero_add, mod_mod]
    exact congrArg (· % p) (sg_congr fun t _ => by rw [gr_drop])
end Go.Proofs.YtocpeclcoikdpaaDoor
namespace Go.Proofs.YtocpeclcoikdpaaDoor
set_option linter.unusedVariables false

/-! ### by the leading indices -/
theorem el_setN {z : List Int} {i j : Nat} {v : Int} (h : i < z.length) : el (z.set i v) j = if i = j then v else el z j := by
  unfold el
  rw [List.getD_eq_getElem?_getD, List.getD_eq_getElem?_getD, List.getElem?_set]
  by_cases hij : i = j
  · rw [if_pos hij, if_pos hij, if_pos (by omega)]; rfl
  · rw [if_neg hij, if_neg hij]
end Go.Proofs.YtocpeclcoikdpaaDoor
namespace Go.Proofs.YtocpeclcoikdpaaDoor
set_option linter.unusedVariables false

/-! ### rows and columns exchanged -/
def colM (m : Rows) (j : Nat) : List Int := m.map fun r => el r j
theorem colM_el {m : Rows} {i j : Nat} (hi : i < m.length) : el (colM m j) i = el (gr m i) j := by
  have h1 := el_get (r := colM m j) (c := i) (by simp [colM]; exact hi)
  unfold colM at h1
  rw [List.getElem?_map, gr_get hi] at h1
  exact (Option.some.inj h1).symm

/-! ### products with zero -/
theorem lperp_cat {p : Int} {w o : Nat} {m a : Rows} {x : List Int} (hl : a.length = m.length) (h : okM p w m) : lperp p (w + o) (catM m a) x ↔ lperp p w m x ∧ lperp p o a x := by
  have e : ∀ c, sg (catM m a).length (fun t => el x t * el (gr (catM m a) t) c) = sg m.length (fun t => el x t * (if c < w then el (gr m t) c else el (gr a t) (c - w))) := fun c => by
    rw [catM_len hl]
    exact sg_congr fun t ht => by rw [catM_gr hl, el_app, (h _ (gr_mem ht)).1]
  constructor
  · intro hx
    refine ⟨fun c hc => ?_, fun c hc => ?_⟩
    · have := hx c (by omega)
      rw [e c, sg_congr (g := fun t => el x t * el (gr m t) c) (fun t _ => by rw [if_pos hc])] at this
      exact this
    · have := hx (w + c) (by omega)
      rw [e, sg_congr (g := fun t => el x t * el (gr a t) c) (fun t _ => by rw [if_neg (by omega), show w + c - w = c by omega])] at this
      rw [hl]; exact this
  · rintro ⟨h1, h2⟩ c hc
    rw [e c]
    by_cases hcw : c < w
    · rw [sg_congr (g := fun t => el x t * el (gr m t) c) (fun t _ => by rw [if_pos hcw])]
      exact h1 c hcw
    · rw [sg_congr (g := fun t => el x t * el (gr a t) (c - w)) (fun t _ => by rw [if_neg hcw]), ← hl]
      exact h2 _ (by omega)

/-! ### the states that are hidden -/
def cols (p : Int) (o : Nat) (A C : Rows) : Nat → Rows
  | 0 => C
  | k + 1 => mulM p o A (cols p o A C k)
section
variable {p : Int} {n o : Nat} {A C : Rows}
theorem cols_ok (hf : fdB p = true) (ho : o ≤ 200) (hA : okM p n A) (hAl : A.length = n) (hC : okM p o C) (hCl : C.length = n) : ∀ k, okM p o (cols p o A C k) ∧ (cols p o A C k).length = n
  | 0 => ⟨hC, hCl⟩
  | k + 1 => by
    have hm : maxN = 1099511627776 := rfl
    obtain ⟨h1, h2⟩ := cols_ok hf ho hA hAl hC hCl k
    exact ⟨mulM_ok (fdB_rng hf) (by omega) h1 hA (by omega), by unfold cols; rw [mulM_len, hAl]⟩
end
section
variable {p : Int} {n : Nat} {A B : Rows}
theorem rc_grow2 (hf : fdB p = true) (hn : n ≤ 200) (hA : okM p n A) (hAl : A.length = n) (hB : okM p n B) : ∀ d, (∀ j, j < d → (rc p n A B (j + 1)).length ≠ (rc p n A B j).length) → (rc p n A B 0).length + d ≤ (rc p n A B d).length
  | 0, _ => Nat.le_refl _
  | d + 1, h => by
    have h1 := rc_grow2 hf hn hA hAl hB d (fun j hj => h j (by omega))
    have h2 := red_len_le (fdB_rng hf).1 (rc_red hf hn hA hAl hB d) (rc_red hf hn hA hAl hB (d + 1)) (rc_step hf hn hA hAl hB d)
    have h3 := h d (by omega)
    omega
theorem rcN_before (hf : fdB p = true) (hn : n ≤ 200) (h0 : 0 < n) (hA : okM p n A) (hAl : A.length = n) (hB : okM p n B) : rcN p n A B = rc p n A B (n - 1) := by
  rcases first_of (P := fun j => (rc p n A B (j + 1)).length = (rc p n A B j).length) n with h | ⟨k, h1, h2, h3⟩
  · exfalso
    have h1 := rc_grow2 hf hn hA hAl hB n h
    have h2 := rc_len hf hn hA hAl hB n
    have h3 : (rc p n A B 0).length = 0 := by omega
    have h4 := h 0 h0
    have h5 : rc p n A B 0 = [] := List.eq_nil_of_length_eq_zero h3
    have h6 : (rc p n A B 1).length ≤ _ := (redM_ok (n := n) (fdB_rng hf).1 (rc_app hf hn hA hAl hB 0)).2.1
    rw [h5, List.length_append, mulM_len] at h6
    rw [h3] at h4
    simp at h6
    exact h4 (by rw [h6]; rfl)
  · have e1 := rc_stable hf hn hA hAl hB h3 (n - k)
    have e2 := rc_stable hf hn hA hAl hB h3 (n - 1 - k)
    rw [show k + (n - k) = n by omega] at e1
    rw [show k + (n - 1 - k) = n - 1 by omega] at e2
    unfold rcN
    rw [e1, e2]
end
def seenM (p : Int) (n o : Nat) (A C : Rows) : Nat → Rows
  | 0 => List.replicate n []
  | k + 1 => catM (seenM p n o A C k) (cols p o A C k)
section
variable {p : Int} {n o : Nat} {A C : Rows}
theorem seen_ok (hf : fdB p = true) (ho : o ≤ 200) (hA : okM p n A) (hAl : A.length = n) (hC : okM p o C) (hCl : C.length = n) : ∀ k, okM p (k * o) (seenM p n o A C k) ∧ (seenM p n o A C k).length = n
  | 0 => ⟨fun r hr => by
      rw [List.eq_of_mem_replicate hr]
      exact ⟨by simp, fun x hx => nomatch hx⟩, by simp [seenM]⟩
  | k + 1 => by
    obtain ⟨h1, h2⟩ := seen_ok hf ho hA hAl hC hCl k
    obtain ⟨k1, k2⟩ := cols_ok hf ho hA hAl hC hCl k
    unfold seenM
    rw [Nat.succ_mul]
    exact ⟨catM_ok (by omega) h1 k1, by rw [catM_len (by omega)]; exact h2⟩
theorem seen_perp (hf : fdB p = true) (ho : o ≤ 200) (hA : okM p n A) (hAl : A.length = n) (hC : okM p o C) (hCl : C.length = n) (x : List Int) : ∀ k, (lperp p (k * o) (seenM p n o A C k) x ↔ ∀ t, t < k → lperp p o (cols p o A C t) x)
  | 0 => ⟨fun _ t ht => by omega, fun _ c hc => by omega⟩
  | k + 1 => by
    obtain ⟨h1, h2⟩ := seen_ok hf ho hA hAl hC hCl k
    obtain ⟨k1, k2⟩ := cols_ok hf ho hA hAl hC hCl k
    unfold seenM
    rw [Nat.succ_mul, lperp_cat (by omega) h1, seen_perp hf ho hA hAl hC hCl x k]
    constructor
    · rintro ⟨h3, h4⟩ t ht
      by_cases htk : t = k
      · rw [htk]; exact h4
      · exact h3 t (by omega)
    · intro h3
      exact ⟨fun t ht => h3 t (by omega), h3 k (by omega)⟩
/-- the states that are hidden -/
def hidM (p : Int) (n o : Nat) (A C : Rows) : Rows := kerM p (n * o) (seenM p n o A C n)
end
end Go.Proofs.YtocpeclcoikdpaaDoor
namespace Go.Proofs.YtocpeclcoikdpaaDoor
set_option linter.unusedVariables false

theorem el_rmap {n j : Nat} (f : Nat → Int) (h : j < n) : el ((List.range n).map f) j = f j := by
  unfold el; rw [List.getD_eq_getElem?_getD, List.getElem?_map, List.getElem?_range h]; rfl
theorem gr_rmap {n j : Nat} (f : Nat → List Int) (h : j < n) : gr ((List.range n).map f) j = f j := by
  unfold gr; rw [List.getD_eq_getElem?_getD, List.getElem?_map, List.getElem?_range h]; rfl
theorem rmap_len {α : Type} {n : Nat} (f : Nat → α) : ((List.range n).map f).length = n := by simp
theorem rmapM_ok {p : Int} {n K : Nat} {f : Nat → List Int} (h : ∀ j, j < K → okR p n (f j)) : okM p n ((List.range K).map f) := by
  intro x hx
  obtain ⟨j, hj, rfl⟩ := List.mem_map.1 hx
  exact h j (List.mem_range.1 hj)

/-! ### systems: rows (m of K elements), what is wanted; the equations turned round -/
section
variable {p : Int} {s : List Int} {m K : Nat}
theorem sg_rev (f : Nat → Int) : ∀ m, sg m (fun i => f (m - 1 - i)) = sg m f
  | 0 => rfl
  | m + 1 => by
    rw [sg_shift]
    show f (m + 1 - 1 - 0) + _ = sg m f + f m
    rw [sg_congr (g := fun i => f (m - 1 - i)) (fun i hi => by rw [show m + 1 - 1 - (i + 1) = m - 1 - i by omega]), sg_rev f m, show m + 1 - 1 - 0 = m by omega]
    omega
end
/-- what the reduced equations say: a row that leads in the last column, or the coefficients -/
def fsX (m : Nat) (R : Rows) : Nat → List Int
  | 0 => List.replicate m 0
  | i + 1 => (fsX m R i).set (m - 1 - leadN (gr R i)) (el (gr R i) m)
def fsB (m : Nat) (R : Rows) : Bool := R.all fun r => !decide (leadN r = m)
section
variable {p : Int} {s : List Int} {m K : Nat}
theorem fsX_ok (hp : 2 ≤ p) {R : Rows} (hR : okM p (m + 1) R) : ∀ i, i ≤ R.length → okR p m (fsX m R i)
  | 0, _ => okR_zero hp m
  | i + 1, hi => by
    have ih := fsX_ok hp hR i (by omega)
    unfold fsX
    refine ⟨by rw [List.length_set]; exact ih.1, fun x hx => ?_⟩
    rcases List.mem_or_eq_of_mem_set hx with h | rfl
    · exact ih.2 x h
    · exact okM_el hR (by omega) (by omega)
theorem fsB_iff {R : Rows} : fsB m R = true ↔ ∀ i, i < R.length → leadN (gr R i) ≠ m := by
  unfold fsB
  rw [List.all_eq_true]
  constructor
  · intro h i hi he
    have := h _ (gr_mem hi)
    rw [he] at this
    simp at this
  · intro h r hr
    obtain ⟨t, ht, rfl⟩ := List.mem_iff_getElem.1 hr
    have e : gr R t = R[t] := by have := gr_get ht; rw [List.getElem?_eq_getElem ht] at this; exact (Option.some.inj this).symm
    have := h t ht
    rw [e] at this
    simp [this]
theorem fsX_el (hp : 2 ≤ p) {R : Rows} (hR : Red p (m + 1) R) (hb : fsB m R = true) : ∀ i, i ≤ R.length → (∀ t, t < i → el (fsX m R i) (m - 1 - leadN (gr R t)) = el (gr R t) m) ∧ ∀ q, q < m → (∀ t, t < i → leadN (gr R t) ≠ m - 1 - q) → el (fsX m R i) q = 0
  | 0, _ => ⟨fun t ht => by omega, fun q hq _ => el_rep m q⟩
  | i + 1, hi => by
    obtain ⟨h1, h2⟩ := fsX_el hp hR hb i (by omega)
    have hl := (fsX_ok hp hR.ok i (by omega)).1
    have hlt := fun t (ht : t < R.length) => hR.lt t ht
    have hne := fsB_iff.1 hb
    have hi1 := hlt i (by omega); have hi2 := hne i (by omega)
    refine ⟨fun t ht => ?_, fun q hq hn => ?_⟩
    · show el ((fsX m R i).set _ _) _ = _
      rw [el_setN (by omega)]
      by_cases hti : t = i
      · subst hti; rw [if_pos rfl]
      · have := hR.inc t i (by omega) (by omega)
        rw [if_neg (by omega)]
        exact h1 t (by omega)
    · show el ((fsX m R i).set _ _) _ = _
      rw [el_setN (by omega), if_neg (fun he => hn i (by omega) (by omega))]
      exact h2 q hq (fun t ht => hn t (by omega))
end
end Go.Proofs.YtocpeclcoikdpaaDoor
namespace Go.Proofs.YtocpeclcoikdpaaDoor
set_option linter.unusedVariables false

theorem redT_take {p : Int} {n : Nat} {m : Rows} : (redT p n m).1.take (redT p n m).2.2 = redM p n m := by
  obtain ⟨e1, e2⟩ := redLoop_any p n 0 m m (idN m.length) 0
  unfold redT redM
  rw [e1, e2]
theorem solB_iff {p : Int} {n : Nat} {m : Rows} {v : List Int} (hf : fdB p = true) (h : okM p n m) (hv : okR p n v) : solB p n m v = true ↔ inSpan p n m v := by
  obtain ⟨f1, f2, f3, f4, f5, f6⟩ := redT_facts hf h
  have hs := redM_span hf h
  unfold solB
  rw [hasB_iff hf f6 hv, redT_take]
  exact ⟨fun k => inSpan_trans hs.1 k, fun k => inSpan_trans hs.2 k⟩
theorem solX_ok {p : Int} {n : Nat} {m : Rows} {v : List Int} (hf : fdB p = true) (h : okM p n m) : okR p m.length (solX p n m v) := by
  obtain ⟨f1, f2, f3, f4, f5, f6⟩ := redT_facts hf h
  exact combR_ok (fdB_rng hf).1 (fun x hx => f4 x (List.mem_of_mem_take hx))
theorem solX_dot {p : Int} {n : Nat} {m : Rows} {v : List Int} (hf : fdB p = true) (h : okM p n m) (hv : okR p n v) (hb : solB p n m v = true) : ∀ j, j < n → sg m.length (fun t => el (solX p n m v) t * el (gr m t) j) % p = el v j := by
  have hp := fdB_rng hf
  obtain ⟨f1, f2, f3, f4, f5, f6⟩ := redT_facts hf h
  have hrel := redT_rel hf h
  have hb' : combR p n ((redT p n m).1.take (redT p n m).2.2) (coordsL ((redT p n m).1.take (redT p n m).2.2) v) = v := of_decide_eq_true hb
  intro j hj
  have hT : okM p m.length ((redT p n m).2.1.take (redT p n m).2.2) := fun x hx => f4 x (List.mem_of_mem_take hx)
  have lT : ((redT p n m).2.1.take (redT p n m).2.2).length = (redT p n m).2.2 := by rw [List.length_take]; omega
  have lR : ((redT p n m).1.take (redT p n m).2.2).length = (redT p n m).2.2 := by rw [List.length_take]; omega
  have lC : (coordsL ((redT p n m).1.take (redT p n m).2.2) v).length = (redT p n m).2.2 := by unfold coordsL; rw [List.length_map, lR]
  have e1 : el v j = sg (redT p n m).2.2 (fun i => el (coordsL ((redT p n m).1.take (redT p n m).2.2) v) i * el (gr (redT p n m).1 i) j) % p := by
    conv => lhs; rw [← hb']
    rw [el_combR hp.1 f6.ok (by omega) hj, lR]
    exact congrArg (· % p) (sg_congr fun i hi => by rw [gr_take hi])
  rw [e1]
  rw [sg_mod (g := fun t => sg (redT p n m).2.2 (fun i => el (coordsL ((redT p n m).1.take (redT p n m).2.2) v) i * el (gr (redT p n m).2.1 i) t) * el (gr m t) j) (fun t ht => by
    unfold solX
    rw [el_combR hp.1 hT (by omega) ht, mul_mod1, lT]
    exact congrArg (fun z => (z * el (gr m t) j) % p) (sg_congr fun i hi => by rw [gr_take hi]))]
  rw [sg_mod (f := fun i => el (coordsL ((redT p n m).1.take (redT p n m).2.2) v) i * el (gr (redT p n m).1 i) j) (g := fun i => el (coordsL ((redT p n m).1.take (redT p n m).2.2) v) i * sg m.length (fun t => el (gr (redT p n m).2.1 i) t * el (gr m t) j)) (fun i hi => by
    rw [← mul_mod2, hrel i (by omega) j hj, mul_mod2])]
  congr 1
  rw [sg_congr (g := fun t => sg (redT p n m).2.2 (fun i => el (coordsL ((redT p n m).1.take (redT p n m).2.2) v) i * el (gr (redT p n m).2.1 i) t * el (gr m t) j)) (fun t _ => (sg_mulr _ _ _).symm), sg_comm]
  refine sg_congr fun i _ => ?_
  rw [← sg_mul]
  exact sg_congr fun t _ => Int.mul_assoc _ _ _
section
variable {p : Int} {s : List Int} {m K : Nat}
end
end Go.Proofs.YtocpeclcoikdpaaDoor
namespace Go.Proofs.YtocpeclcoikdpaaDoor
set_option linter.unusedVariables false

end Go.Proofs.YtocpeclcoikdpaaDoor
namespace Go.Proofs.YtocpeclcoikdpaaDoor
set_option linter.unusedVariables false

/-! ### cleared vectors -/

/-! ### without the states that are not reached -/

/-! ### without the states that are hidden -/
theorem rowsN_tiny {m : Rows} (h : ∀ r ∈ m, r.length ≤ 24) (hl : m.length ≤ 24) : rowsN m ≤ 1000 := by
  unfold rowsN
  have := tot_le (n := rowN) (c := 24) (l := m) (fun r hr => h r hr)
  omega
end Go.Proofs.YtocpeclcoikdpaaDoor
namespace Go.Proofs.YtocpeclcoikdpaaDoor
set_option linter.unusedVariables false

/-! ### powers -/
def pw (p : Int) (n : Nat) (A B : Rows) : Nat → Rows
  | 0 => B
  | k + 1 => mulM p n (pw p n A B k) A
def stk (p : Int) (n : Nat) (A B : Rows) : Nat → Rows
  | 0 => []
  | k + 1 => stk p n A B k ++ pw p n A B k
theorem gr_mulM {p : Int} {o : Nat} {R M : Rows} {t : Nat} (ht : t < R.length) : gr (mulM p o R M) t = combR p o M (gr R t) := by
  have h1 := gr_get (m := mulM p o R M) (i := t) (by rw [mulM_len]; exact ht)
  unfold mulM at h1
  rw [List.getElem?_map, gr_get ht] at h1
  exact (Option.some.inj h1).symm
section
variable {p : Int} {n k : Nat} {A B : Rows}
theorem pw_ok (hf : fdB p = true) (hn : n ≤ 200) (hA : okM p n A) (hAl : A.length = n) (hB : okM p n B) (hBl : B.length = k) : ∀ j, okM p n (pw p n A B j) ∧ (pw p n A B j).length = k
  | 0 => ⟨hB, hBl⟩
  | j + 1 => by
    have hm : maxN = 1099511627776 := rfl
    obtain ⟨h1, h2⟩ := pw_ok hf hn hA hAl hB hBl j
    exact ⟨mulM_ok (fdB_rng hf) (by omega) hA h1 (by omega), by unfold pw; rw [mulM_len, h2]⟩
theorem stk_ok (hf : fdB p = true) (hn : n ≤ 200) (hA : okM p n A) (hAl : A.length = n) (hB : okM p n B) (hBl : B.length = k) : ∀ j, okM p n (stk p n A B j) ∧ (stk p n A B j).length = j * k
  | 0 => ⟨fun r hr => by simp [stk] at hr, by simp [stk]⟩
  | j + 1 => by
    obtain ⟨h1, h2⟩ := stk_ok hf hn hA hAl hB hBl j
    obtain ⟨k1, k2⟩ := pw_ok hf hn hA hAl hB hBl j
    exact ⟨okM_app h1 k1, by unfold stk; rw [List.length_append, h2, k2, Nat.succ_mul]⟩
theorem mulM_app (p : Int) (n : Nat) (R S A : Rows) : mulM p n (R ++ S) A = mulM p n R A ++ mulM p n S A := by unfold mulM; rw [List.map_append]
/-- a span goes over into a span -/
theorem mulM_span {R S : Rows} (hf : fdB p = true) (hA : okM p n A) (hAl : A.length = n) (hR : okM p n R) (hS : okM p n S) (h : subSpan p n R S) : subSpan p n (mulM p n R A) (mulM p n S A) := by
  have hp := (fdB_rng hf).1
  intro i hi
  rw [mulM_len] at hi
  obtain ⟨x, hx⟩ := h i hi
  refine ⟨x, fun j hj => ?_⟩
  rw [gr_mulM hi, mulM_len, el_combR hp hA (by rw [(hR _ (gr_mem hi)).1]; omega) hj, mod_mod]
  rw [sg_mod (f := fun t => el (gr R i) t * el (gr A t) j) (g := fun t => sg S.length (fun q => x q * el (gr S q) t) * el (gr A t) j) (fun t ht => by
    rw [← mul_mod1, hx t (by omega), mul_mod1])]
  rw [sg_mod (f := fun q => x q * el (gr (mulM p n S A) q) j) (g := fun q => x q * sg A.length (fun t => el (gr S q) t * el (gr A t) j)) (fun q hq => by
    rw [gr_mulM hq, el_combR hp hA (by rw [(hS _ (gr_mem hq)).1]; omega) hj, mul_mod2])]
  congr 1
  rw [sg_congr (g := fun t => sg S.length (fun q => x q * el (gr S q) t * el (gr A t) j)) (fun t _ => (sg_mulr _ _ _).symm), sg_comm]
  refine sg_congr fun q _ => ?_
  rw [← sg_mul]
  exact sg_congr fun t _ => Int.mul_assoc _ _ _
theorem stk_step (hf : fdB p = true) (hn : n ≤ 200) (hA : okM p n A) (hAl : A.length = n) (hB : okM p n B) (hBl : B.length = k) : ∀ j, subSpan p n (mulM p n (stk p n A B j) A) (stk p n A B (j + 1))
  | 0 => fun i hi => by simp [stk, mulM] at hi
  | j + 1 => by
    have e : mulM p n (stk p n A B (j + 1)) A = mulM p n (stk p n A B j) A ++ pw p n A B (j + 1) := mulM_app p n _ _ A
    rw [e]
    exact app_span (subSpan_trans (stk_step hf hn hA hAl hB hBl j) span_app1) span_app2
theorem rc_stk (hf : fdB p = true) (hn : n ≤ 200) (hA : okM p n A) (hAl : A.length = n) (hB : okM p n B) (hBl : B.length = k) : ∀ j, subSpan p n (rc p n A B j) (stk p n A B (j + 1))
  | 0 => subSpan_trans (redM_span hf hB).1 (by show subSpan p n B ([] ++ B); rw [List.nil_append]; exact subSpan_refl p n B)
  | j + 1 => by
    have ih := rc_stk hf hn hA hAl hB hBl j
    refine subSpan_trans (redM_span hf (rc_app hf hn hA hAl hB j)).1 (app_span (subSpan_trans ih span_app1) ?_)
    exact subSpan_trans (mulM_span hf hA hAl (rc_red hf hn hA hAl hB j).ok (stk_ok hf hn hA hAl hB hBl (j + 1)).1 ih) (stk_step hf hn hA hAl hB hBl (j + 1))
/-- all that is reached is reached in n steps -/
theorem rcN_stk (hf : fdB p = true) (hn : n ≤ 200) (hA : okM p n A) (hAl : A.length = n) (hB : okM p n B) (hBl : B.length = k) : subSpan p n (rcN p n A B) (stk p n A B n) := by
  rcases Nat.eq_zero_or_pos n with h0 | h0
  · intro i hi
    have := (rcN_red hf hn hA hAl hB).lt i hi
    omega
  · rw [rcN_before hf hn h0 hA hAl hB]
    have := rc_stk hf hn hA hAl hB hBl (n - 1)
    rwa [show n - 1 + 1 = n by omega] at this
end

/-! ### reduced lists with all leads -/
theorem red_full {p : Int} {n : Nat} {b : Rows} (h : Red p n b) (hl : b.length = n) {i j : Nat} (hi : i < n) : leadN (gr b i) = i ∧ (j < n → el (gr b i) j = if i = j then 1 else 0) := by
  have hid := inc_id (g := fun i => leadN (gr b i)) (k := n) (fun i hi => h.lt i (by omega)) (fun i j hij hj => h.inc i j hij (by omega))
  refine ⟨hid i hi, fun hj => ?_⟩
  by_cases hij : i = j
  · subst hij
    rw [if_pos rfl]
    have := h.one i (by omega)
    rwa [hid i hi] at this
  · rw [if_neg hij]
    have := h.zero j i (by omega) (by omega) (Ne.symm hij)
    rwa [hid j hj] at this
theorem red_whole {p : Int} {n : Nat} {b : Rows} (h : Red p n b) (hl : b.length = n) (v : List Int) : inSpan p n b v := by
  refine ⟨fun i => el v i, fun j hj => ?_⟩
  rw [hl, sg_one (i0 := j) hj (fun i hi hne => by rw [(red_full h hl hi).2 hj, if_neg hne, Int.mul_zero]), (red_full h hl hj).2 hj, if_pos rfl, Int.mul_one]
end Go.Proofs.YtocpeclcoikdpaaDoor
namespace Go.Proofs.YtocpeclcoikdpaaDoor
set_option linter.unusedVariables false

theorem el_drop3 (a : List Int) (k q : Nat) : el (a.drop k) q = el a (k + q) := by
  unfold el
  rw [List.getD_eq_getElem?_getD, List.getD_eq_getElem?_getD, List.getElem?_drop]
/-- a row times a column -/
def dt (p : Int) (x : List Int) (M : Rows) (j : Nat) : Int := sg M.length (fun i => el x i * el (gr M i) j) % p
section
variable {p : Int} {n o k : Nat} {A B C : Rows}
theorem dt_mul (hf : fdB p = true) (hA : okM p n A) (hAl : A.length = n) {c : Rows} (hc : okM p o c) (hcl : c.length = n) {x : List Int} (hx : x.length = n) {j : Nat} (hj : j < o) : dt p x (mulM p o A c) j = dt p (combR p n A x) c j := by
  have hp := (fdB_rng hf).1
  unfold dt
  rw [mulM_len, hAl, hcl]
  rw [sg_mod (g := fun t => el x t * sg n (fun i => el (gr A t) i * el (gr c i) j)) (fun t ht => by
    rw [gr_mulM (by omega), el_combR hp hc (by rw [(hA _ (gr_mem (by omega))).1]; omega) hj, mul_mod2, hcl])]
  rw [sg_mod (f := fun i => el (combR p n A x) i * el (gr c i) j) (g := fun i => sg n (fun t => el x t * el (gr A t) i) * el (gr c i) j) (fun i hi => by
    rw [el_combR hp hA (by omega) hi, mul_mod1, hAl])]
  congr 1
  rw [sg_congr (g := fun t => sg n (fun i => el x t * (el (gr A t) i * el (gr c i) j))) (fun t _ => (sg_mul _ _ _).symm), sg_comm]
  refine sg_congr fun i _ => ?_
  rw [← sg_mulr]
  exact sg_congr fun t _ => (Int.mul_assoc _ _ _).symm
theorem dt_cols (hf : fdB p = true) (hn : n ≤ 200) (ho : o ≤ 200) (hA : okM p n A) (hAl : A.length = n) (hB : okM p n B) (hBl : B.length = k) (hC : okM p o C) (hCl : C.length = n) {j : Nat} (hj : j < o) {s : Nat} (hs : s < k) :
    ∀ t i, dt p (gr (pw p n A B i) s) (cols p o A C t) j = dt p (gr (pw p n A B (i + t)) s) C j
  | 0, i => rfl
  | t + 1, i => by
    obtain ⟨h1, h2⟩ := pw_ok hf hn hA hAl hB hBl i
    obtain ⟨c1, c2⟩ := cols_ok hf ho hA hAl hC hCl t
    have e : gr (pw p n A B (i + 1)) s = combR p n A (gr (pw p n A B i) s) := gr_mulM (by omega)
    show dt p _ (mulM p o A (cols p o A C t)) j = _
    rw [dt_mul hf hA hAl c1 c2 (h1 _ (gr_mem (by omega))).1 hj, ← e, dt_cols hf hn ho hA hAl hB hBl hC hCl hj hs t (i + 1), show i + 1 + t = i + (t + 1) by omega]
end
theorem mkv_pw {p : Int} {n o : Nat} {s : SSt} : ∀ m, (mkv p n o s (m + 1)).2 = pw p n s.2.2.2.1 s.2.2.2.2.1 m
  | 0 => rfl
  | m + 1 => by
    show mulM p n (mkv p n o s (m + 1)).2 s.2.2.2.1 = _
    rw [mkv_pw m]; rfl
theorem mkv_pre {p : Int} {n o : Nat} {s : SSt} {k : Nat} (h : SSok p n k o s) : ∀ d q, (mkv p n o s (q + d)).1.take q = (mkv p n o s q).1
  | 0, q => by
    have := (mkv_ok h q).1
    rw [Nat.add_zero, List.take_of_length_le (by omega)]
  | d + 1, q => by
    have hl := (mkv_ok h (q + d)).1
    have ih := mkv_pre h d q
    rw [show q + (d + 1) = (q + d) + 1 by omega, mkv_succ]
    split
    · rw [List.take_append_of_le_length (by omega)]; exact ih
    · rw [List.take_append_of_le_length (by omega)]; exact ih
theorem mkv_at {p : Int} {n k o : Nat} {s : SSt} (h : SSok p n k o s) {m N : Nat} (hm : m + 1 < N) : (mkv p n o s N).1[m + 1]? = some ((o : Int), mulM p o (pw p n s.2.2.2.1 s.2.2.2.2.1 m) s.2.2.2.2.2.1) := by
  have h1 := mkv_pre h (N - (m + 2)) (m + 2)
  rw [show m + 2 + (N - (m + 2)) = N by omega] at h1
  have h2 : (mkv p n o s N).1[m + 1]? = (mkv p n o s (m + 2)).1[m + 1]? := by
    rw [← h1, List.getElem?_take, if_pos (by omega)]
  have hl := (mkv_ok h (m + 1)).1
  rw [h2, show m + 2 = (m + 1) + 1 by omega, mkv_succ, if_neg (by omega)]
  dsimp only
  rw [List.getElem?_append_right (by omega), hl, Nat.sub_self, mkv_pw]
  rfl
/-- two state spaces, both minimal, with the same outputs -/
structure Sim (p : Int) (n n' k o : Nat) (a b : SSt) : Prop where
  hf : fdB p = true
  sa : SSok p n k o a
  sb : SSok p n' k o b
  ra : (rcN p n a.2.2.2.1 a.2.2.2.2.1).length = n
  rb : (rcN p n' b.2.2.2.1 b.2.2.2.2.1).length = n'
  ha : (hidM p n o a.2.2.2.1 a.2.2.2.2.2.1).length = 0
  hb : (hidM p n' o b.2.2.2.1 b.2.2.2.2.2.1).length = 0
  eq : (mkv p n o a (n + n' + 1)).1 = (mkv p n' o b (n + n' + 1)).1
theorem Sim.symm {p : Int} {n n' k o : Nat} {a b : SSt} (h : Sim p n n' k o a b) : Sim p n' n k o b a :=
  ⟨h.hf, h.sb, h.sa, h.rb, h.ra, h.hb, h.ha, by rw [Nat.add_comm n' n]; exact h.eq.symm⟩
section
variable {p : Int} {n n' k o : Nat} {a b : SSt}
theorem Sim.mk0 (h : Sim p n n' k o a b) {m : Nat} (hm : m < n + n') {s j : Nat} (hs : s < k) (hj : j < o) :
    dt p (gr (pw p n a.2.2.2.1 a.2.2.2.2.1 m) s) a.2.2.2.2.2.1 j = dt p (gr (pw p n' b.2.2.2.1 b.2.2.2.2.1 m) s) b.2.2.2.2.2.1 j := by
  have hp := (fdB_rng h.hf).1
  have h1 := mkv_at h.sa (m := m) (N := n + n' + 1) (by omega)
  have h2 := mkv_at h.sb (m := m) (N := n + n' + 1) (by omega)
  rw [h.eq, h2] at h1
  have h3 : mulM p o (pw p n a.2.2.2.1 a.2.2.2.2.1 m) a.2.2.2.2.2.1 = mulM p o (pw p n' b.2.2.2.1 b.2.2.2.2.1 m) b.2.2.2.2.2.1 := (congrArg Prod.snd (Option.some.inj h1)).symm
  have na := h.sa.hn; have nb := h.sb.hn
  obtain ⟨a1, a2⟩ := pw_ok h.hf (by omega) h.sa.a.2 h.sa.a.1 h.sa.b.2 h.sa.b.1 m
  obtain ⟨b1, b2⟩ := pw_ok h.hf (by omega) h.sb.a.2 h.sb.a.1 h.sb.b.2 h.sb.b.1 m
  have ga := gr_mulM (p := p) (o := o) (M := a.2.2.2.2.2.1) (R := pw p n a.2.2.2.1 a.2.2.2.2.1 m) (t := s) (by omega)
  have gb := gr_mulM (p := p) (o := o) (M := b.2.2.2.2.2.1) (R := pw p n' b.2.2.2.1 b.2.2.2.2.1 m) (t := s) (by omega)
  rw [h3, gb] at ga
  unfold dt
  rw [← el_combR hp h.sa.c.2 (by rw [(a1 _ (gr_mem (by omega))).1, h.sa.c.1]; exact Nat.le_refl _) hj, ← el_combR hp h.sb.c.2 (by rw [(b1 _ (gr_mem (by omega))).1, h.sb.c.1]; exact Nat.le_refl _) hj, ga]
/-- the reached states of both, side by side -/
def zz (p : Int) (n n' : Nat) (a b : SSt) (K : Nat) : Rows := catM (stk p n' b.2.2.2.1 b.2.2.2.2.1 K) (stk p n a.2.2.2.1 a.2.2.2.2.1 K)
theorem Sim.stkA (h : Sim p n n' k o a b) (K : Nat) : okM p n (stk p n a.2.2.2.1 a.2.2.2.2.1 K) ∧ (stk p n a.2.2.2.1 a.2.2.2.2.1 K).length = K * k :=
  stk_ok h.hf (by have := h.sa.hn; omega) h.sa.a.2 h.sa.a.1 h.sa.b.2 h.sa.b.1 K
theorem Sim.stkB (h : Sim p n n' k o a b) (K : Nat) : okM p n' (stk p n' b.2.2.2.1 b.2.2.2.2.1 K) ∧ (stk p n' b.2.2.2.1 b.2.2.2.2.1 K).length = K * k := h.symm.stkA K
theorem Sim.zz_ok (h : Sim p n n' k o a b) (K : Nat) : okM p (n' + n) (zz p n n' a b K) ∧ (zz p n n' a b K).length = K * k := by
  obtain ⟨a1, a2⟩ := h.stkA K
  obtain ⟨b1, b2⟩ := h.stkB K
  exact ⟨catM_ok (by omega) b1 a1, by unfold zz; rw [catM_len (by omega), b2]⟩
/-- a row of the stack is a row of a power -/
theorem stk_row {p : Int} {n : Nat} {A B : Rows} {k : Nat} (hl : ∀ j, (pw p n A B j).length = k) : ∀ K i, i < (stk p n A B K).length → ∃ m s, m < K ∧ s < k ∧ i = m * k + s ∧ gr (stk p n A B K) i = gr (pw p n A B m) s
  | 0, i, hi => by simp [stk] at hi
  | K + 1, i, hi => by
    have hlen : ∀ K, (stk p n A B K).length = K * k := by
      intro K
      induction K with
      | zero => simp [stk]
      | succ K ih => unfold stk; rw [List.length_append, ih, hl K, Nat.succ_mul]
    by_cases h : i < (stk p n A B K).length
    · obtain ⟨m, s, h1, h2, h3, h4⟩ := stk_row hl K i h
      refine ⟨m, s, by omega, h2, h3, ?_⟩
      rw [← h4]; exact gr_app1 h
    · have e := hlen (K + 1)
      have e2 := hlen K
      rw [Nat.succ_mul] at e
      refine ⟨K, i - K * k, by omega, by omega, by omega, ?_⟩
      have := gr_app2 (a := stk p n A B K) (b := pw p n A B K) (i - K * k)
      rw [e2, show K * k + (i - K * k) = i by omega] at this
      exact this
/-- what is nothing on one side is nothing on the other -/
theorem Sim.ker (h : Sim p n n' k o a b) {K : Nat} (hK : K ≤ n' + 1) {v : List Int} (hv : inSpan p (n' + n) (zz p n n' a b K) v) (h0 : ∀ j, j < n' → el v j % p = 0) : ∀ j, j < n → el v (n' + j) % p = 0 := by
  have hp := (fdB_rng h.hf).1
  have na := h.sa.hn; have nb := h.sb.hn; have no := h.sa.ho
  obtain ⟨z1, z2⟩ := h.zz_ok K
  obtain ⟨a1, a2⟩ := h.stkA K
  obtain ⟨b1, b2⟩ := h.stkB K
  have pa := pw_ok h.hf (by omega) h.sa.a.2 h.sa.a.1 h.sa.b.2 h.sa.b.1
  have pb := pw_ok h.hf (by omega) h.sb.a.2 h.sb.a.1 h.sb.b.2 h.sb.b.1
  have main : ∀ t, t < n → lperp p o (cols p o a.2.2.2.1 a.2.2.2.2.2.1 t) (v.drop n') := by
    intro t ht j hj
    obtain ⟨ca1, ca2⟩ := cols_ok h.hf (by omega) h.sa.a.2 h.sa.a.1 h.sa.c.2 h.sa.c.1 t
    obtain ⟨cb1, cb2⟩ := cols_ok h.hf (by omega) h.sb.a.2 h.sb.a.1 h.sb.c.2 h.sb.c.1 t
    have hd := dot_span (n := n' + n) (m := zz p n n' a b K) (fun q => if q < n' then el (gr (cols p o b.2.2.2.1 b.2.2.2.2.2.1 t) q) j else - el (gr (cols p o a.2.2.2.1 a.2.2.2.2.2.1 t) (q - n')) j) (fun i hi => ?_) hv
    · rw [sg_app, Int.add_emod, show sg n' (fun q => (if q < n' then el (gr (cols p o b.2.2.2.1 b.2.2.2.2.2.1 t) q) j else - el (gr (cols p o a.2.2.2.1 a.2.2.2.2.2.1 t) (q - n')) j) * el v q) % p = 0 from by
        rw [sg_mod (g := fun _ => 0) (fun q hq => by rw [if_pos hq, mul_mod_zero2 (h0 q hq), Int.zero_emod]), sg_zero (fun _ _ => rfl), Int.zero_emod], Int.zero_add, mod_mod] at hd
      rw [sg_congr (g := fun q => -1 * (el (v.drop n') q * el (gr (cols p o a.2.2.2.1 a.2.2.2.2.2.1 t) q) j)) (fun q hq => by
        rw [if_neg (by omega), show n' + q - n' = q by omega, el_drop3, Int.neg_mul, Int.mul_comm, Int.neg_mul, Int.one_mul]), sg_mul] at hd
      have e : (-1 * sg n (fun q => el (v.drop n') q * el (gr (cols p o a.2.2.2.1 a.2.2.2.2.2.1 t) q) j)) % p = 0 := hd
      rw [ca2]
      have e2 := mul_mod_zero2 (a := -1) e
      rwa [← Int.mul_assoc, show (-1 * -1 : Int) = 1 by decide, Int.one_mul] at e2
    · have hil : i < K * k := by omega
      obtain ⟨m, s, m1, m2, m3, m4⟩ := stk_row (fun j => (pa j).2) K i (by omega)
      obtain ⟨m', s', m1', m2', m3', m4'⟩ := stk_row (fun j => (pb j).2) K i (by omega)
      obtain ⟨rfl, rfl⟩ : m = m' ∧ s = s' := by
        have e : m * k + s = m' * k + s' := by omega
        have hk : 0 < k := by omega
        have d1 : (m * k + s) / k = m := by rw [Nat.mul_comm, Nat.mul_add_div hk, Nat.div_eq_of_lt m2, Nat.add_zero]
        have d2 : (m' * k + s') / k = m' := by rw [Nat.mul_comm, Nat.mul_add_div hk, Nat.div_eq_of_lt m2', Nat.add_zero]
        have : m = m' := by rw [← d1, ← d2, e]
        subst this
        exact ⟨rfl, by omega⟩
      have g : gr (zz p n n' a b K) i = gr (pw p n' b.2.2.2.1 b.2.2.2.2.1 m) s ++ gr (pw p n a.2.2.2.1 a.2.2.2.2.1 m) s := by unfold zz; rw [catM_gr (by omega), m4, m4']
      have lb := ((pb m).1 _ (gr_mem (i := s) (by have := (pb m).2; omega))).1
      have e1 := dt_cols h.hf (by omega) (by omega) h.sa.a.2 h.sa.a.1 h.sa.b.2 h.sa.b.1 h.sa.c.2 h.sa.c.1 hj m2 t m
      have e2 := dt_cols h.hf (by omega) (by omega) h.sb.a.2 h.sb.a.1 h.sb.b.2 h.sb.b.1 h.sb.c.2 h.sb.c.1 hj m2 t m
      have e3 := h.mk0 (m := m + t) (by omega) m2 hj
      rw [← e1, ← e2] at e3
      unfold dt at e3
      rw [ca2, cb2] at e3
      rw [g, sg_app]
      rw [sg_congr (g := fun q => el (gr (pw p n' b.2.2.2.1 b.2.2.2.2.1 m) s) q * el (gr (cols p o b.2.2.2.1 b.2.2.2.2.2.1 t) q) j) (fun q hq => by rw [if_pos hq, el_app, if_pos (by omega), Int.mul_comm])]
      rw [sg_congr (k := n) (g := fun q => -1 * (el (gr (pw p n a.2.2.2.1 a.2.2.2.2.1 m) s) q * el (gr (cols p o a.2.2.2.1 a.2.2.2.2.2.1 t) q) j)) (fun q hq => by
        rw [if_neg (by omega), show n' + q - n' = q by omega, el_app, if_neg (by omega), show n' + q - (gr (pw p n' b.2.2.2.1 b.2.2.2.2.1 m) s).length = q by omega, Int.neg_mul, Int.mul_comm, Int.neg_mul, Int.one_mul]), sg_mul]
      rw [show ∀ x y : Int, x + -1 * y = x - y from fun x y => by omega, Int.sub_emod, e3, Int.sub_self]
      exact Int.zero_emod p
  obtain ⟨s1, s2⟩ := seen_ok h.hf (by omega) h.sa.a.2 h.sa.a.1 h.sa.c.2 h.sa.c.1 n
  have hsp := (kerM_iff h.hf s1 (v.drop n')).2 ((seen_perp h.hf (by omega) h.sa.a.2 h.sa.a.1 h.sa.c.2 h.sa.c.1 _ n).2 main)
  rw [s2] at hsp
  have hnil : kerM p (n * o) (seenM p n o a.2.2.2.1 a.2.2.2.2.2.1 n) = [] := List.eq_nil_of_length_eq_zero h.ha
  rw [hnil] at hsp
  obtain ⟨x, hx⟩ := hsp
  intro j hj
  have := hx j hj
  rw [el_drop3] at this
  rw [this]
  exact Int.zero_emod p
end
end Go.Proofs.YtocpeclcoikdpaaDoor
namespace Go.Proofs.YtocpeclcoikdpaaDoor
set_option linter.unusedVariables false

/-! ### both have as many states -/
theorem rc_many {p : Int} {n n' : Nat} {A B : Rows} (hf : fdB p = true) (hn : n' ≤ 200) (hA : okM p n' A) (hAl : A.length = n') (hB : okM p n' B) (hr : (rcN p n' A B).length = n') (h : n < n') : n + 1 ≤ (rc p n' A B n).length := by
  have h0 : (rc p n' A B 0).length ≠ 0 := fun h0 => by
    have e0 : rc p n' A B 0 = [] := List.eq_nil_of_length_eq_zero h0
    have h1 : (rc p n' A B 1).length ≤ _ := (redM_ok (n := n') (fdB_rng hf).1 (rc_app hf hn hA hAl hB 0)).2.1
    rw [e0, List.length_append, mulM_len] at h1
    have h2 := rc_stable hf hn hA hAl hB (k := 0) (by rw [h0]; simp at h1; exact List.length_eq_zero_iff.2 h1) n'
    rw [Nat.zero_add] at h2
    unfold rcN at hr
    rw [h2, h0] at hr
    omega
  rcases first_of (P := fun j => (rc p n' A B (j + 1)).length = (rc p n' A B j).length) n with h1 | ⟨k, h1, h2, h3⟩
  · have := rc_grow2 hf hn hA hAl hB n h1
    omega
  · have e1 := rc_stable hf hn hA hAl hB h3 (n - k)
    have e2 := rc_stable hf hn hA hAl hB h3 (n' - k)
    rw [show k + (n - k) = n by omega] at e1
    rw [show k + (n' - k) = n' by omega] at e2
    unfold rcN at hr
    rw [e1, ← e2, hr]
    omega
/-- the last columns of rows that span others span those columns -/
theorem drop_span {p : Int} {w n : Nat} {Z T : Rows} (h : subSpan p (w + n) Z T) : subSpan p n (Z.map (·.drop w)) (T.map (·.drop w)) := by
  have g : ∀ (M : Rows) (i : Nat), i < M.length → gr (M.map (·.drop w)) i = (gr M i).drop w := fun M i hi => by
    have h1 := gr_get (m := M.map (·.drop w)) (i := i) (by simpa using hi)
    rw [List.getElem?_map, gr_get hi] at h1
    exact (Option.some.inj h1).symm
  intro i hi
  rw [List.length_map] at hi
  obtain ⟨x, hx⟩ := h i hi
  refine ⟨x, fun j hj => ?_⟩
  rw [g Z i hi, el_drop3, hx (w + j) (by omega), List.length_map]
  exact congrArg (· % p) (sg_congr fun t ht => by rw [g T t ht, el_drop3])
section
variable {p : Int} {n n' k o : Nat} {a b : SSt}
theorem Sim.not_lt (h : Sim p n n' k o a b) : ¬ n' < n := by
  intro hlt
  have hp := (fdB_rng h.hf).1
  have na := h.sa.hn; have nb := h.sb.hn
  obtain ⟨z1, z2⟩ := h.zz_ok (n' + 1)
  obtain ⟨a1, a2⟩ := h.stkA (n' + 1)
  obtain ⟨b1, b2⟩ := h.stkB (n' + 1)
  have hR := redM_red h.hf z1
  have hs := redM_span h.hf z1
  -- every lead lies among the first columns
  have hl : ∀ i, i < (redM p (n' + n) (zz p n n' a b (n' + 1))).length → leadN (gr (redM p (n' + n) (zz p n n' a b (n' + 1))) i) < n' := by
    intro i hi
    apply Classical.byContradiction
    intro hge
    have h1 := h.ker (Nat.le_refl _) (hs.1 i hi) (fun j hj => by rw [leadN_z _ j (by omega)]; exact Int.zero_emod p)
    have h2 := hR.lt i hi
    have h3 := h1 (leadN (gr (redM p (n' + n) (zz p n n' a b (n' + 1))) i) - n') (by omega)
    rw [show n' + (leadN (gr (redM p (n' + n) (zz p n n' a b (n' + 1))) i) - n') = leadN (gr (redM p (n' + n) (zz p n n' a b (n' + 1))) i) by omega, hR.one i hi] at h3
    rw [emod_sm ⟨by omega, by omega⟩] at h3
    omega
  have hlen : (redM p (n' + n) (zz p n n' a b (n' + 1))).length ≤ n' := by
    rcases Nat.eq_zero_or_pos (redM p (n' + n) (zz p n n' a b (n' + 1))).length with h0 | h0
    · omega
    · have lo : ∀ i, i < (redM p (n' + n) (zz p n n' a b (n' + 1))).length → i ≤ leadN (gr (redM p (n' + n) (zz p n n' a b (n' + 1))) i) := by
        intro i
        induction i with
        | zero => intro _; exact Nat.zero_le _
        | succ i ih => intro hi; have := ih (by omega); have := hR.inc i (i + 1) (by omega) hi; omega
      have h1 := lo ((redM p (n' + n) (zz p n n' a b (n' + 1))).length - 1) (by omega)
      have h2 := hl ((redM p (n' + n) (zz p n n' a b (n' + 1))).length - 1) (by omega)
      omega
  have hTok : okM p n ((redM p (n' + n) (zz p n n' a b (n' + 1))).map (·.drop n')) := fun r hr => by
    obtain ⟨x, hx, rfl⟩ := List.mem_map.1 hr
    obtain ⟨k1, k2⟩ := hR.ok x hx
    exact ⟨by simp; omega, fun y hy => k2 y (List.mem_of_mem_drop hy)⟩
  have e : (zz p n n' a b (n' + 1)).map (·.drop n') = stk p n a.2.2.2.1 a.2.2.2.2.1 (n' + 1) := by
    refine ext_gr (by rw [List.length_map, z2, a2]) (fun i hi => ?_)
    rw [List.length_map] at hi
    have h1 := gr_get (m := (zz p n n' a b (n' + 1)).map (·.drop n')) (i := i) (by simpa using hi)
    rw [List.getElem?_map, gr_get hi] at h1
    rw [← Option.some.inj h1]
    unfold zz
    rw [catM_gr (by omega)]
    have := (b1 _ (gr_mem (i := i) (by omega))).1
    dsimp only
    rw [List.drop_append, this, Nat.sub_self, List.drop_zero, List.drop_of_length_le (by omega), List.nil_append]
  have hd := drop_span hs.2
  rw [e] at hd
  have hrc := rc_stk h.hf (by omega) h.sa.a.2 h.sa.a.1 h.sa.b.2 h.sa.b.1 n'
  have hm := rc_many h.hf (by omega) h.sa.a.2 h.sa.a.1 h.sa.b.2 h.ra hlt
  have hall := subSpan_trans (subSpan_trans hrc hd) (redM_span h.hf hTok).2
  have h1 := red_len_le hp (rc_red h.hf (by omega) h.sa.a.2 h.sa.a.1 h.sa.b.2 n') (redM_red h.hf hTok) hall
  have h2 := (redM_ok (n := n) hp hTok).2.1
  rw [List.length_map] at h2
  omega
theorem Sim.same (h : Sim p n n' k o a b) : n = n' := by
  have h1 := h.not_lt
  have h2 := h.symm.not_lt
  omega
end
section
variable {p : Int} {n k o : Nat} {a b : SSt}
/-- the stack of the other one spans everything -/
theorem Sim.whole (h : Sim p n n k o a b) (v : List Int) : inSpan p n (stk p n b.2.2.2.1 b.2.2.2.2.1 n) v := by
  have nb := h.sb.hn
  exact inSpan_trans (rcN_stk h.hf (by omega) h.sb.a.2 h.sb.a.1 h.sb.b.2 h.sb.b.1) (red_whole (rcN_red h.hf (by omega) h.sb.a.2 h.sb.a.1 h.sb.b.2) h.rb v)
end
end Go.Proofs.YtocpeclcoikdpaaDoor
namespace Go.Proofs.YtocpeclcoikdpaaDoor
set_option linter.unusedVariables false
section
variable {p : Int} {n k o : Nat} {a b : SSt}
end
end Go.Proofs.YtocpeclcoikdpaaDoor
namespace Go.Proofs.YtocpeclcoikdpaaDoor

abbrev Edg := Int × Int × List Int × List Int

/-! ### tables -/

/-! ### edges -/

/-! ### how often a wire occurs -/
def edI (e : Edg) : List Int := e.2.2.1
def edO (e : Edg) : List Int := e.2.2.2

/-! ### valid graphs -/

/-! ### the program's test -/
end Go.Proofs.YtocpeclcoikdpaaDoor
namespace Go.Proofs.YtocpeclcoikdpaaDoor

/-! ### loops by what holds in them -/
theorem whileO_num {σ τ : Type} {f : σ → Option (σ ⊕ τ)} (I : Nat → σ → Prop) (Q : τ → Prop) (N : Nat) (h : ∀ j s, j ≤ N → I j s → (∃ s', f s = some (.inl s') ∧ I (j + 1) s' ∧ j < N) ∨ (∃ t, f s = some (.inr t) ∧ Q t)) {s : σ} (hs : I 0 s) : ∃ t, whileO f s = some t ∧ Q t := by
  have key : ∀ d j s, j + d = N → I j s → ∃ t, whileO f s = some t ∧ Q t := by
    intro d
    induction d with
    | zero =>
      intro j s hj hI
      rcases h j s (by omega) hI with ⟨s', h1, h2, h3⟩ | ⟨t, h1, h2⟩
      · omega
      · exact ⟨t, whileO_end h1, h2⟩
    | succ d ih =>
      intro j s hj hI
      rcases h j s (by omega) hI with ⟨s', h1, h2, h3⟩ | ⟨t, h1, h2⟩
      · obtain ⟨t, k1, k2⟩ := ih (j + 1) s' (by omega) h2
        exact ⟨t, by rw [whileO_step h1]; exact k1, k2⟩
      · exact ⟨t, whileO_end h1, h2⟩
  exact key N 0 s (by omega) hs

/-! ### tables of marks -/
/-- the marks: is x marked? -/
def M (s : List Bool) (x : Int) : Prop := idxO s x = some true
instance (s : List Bool) (x : Int) : Decidable (M s x) := by unfold M; infer_instance
/-- how many are not marked -/
def left (s : List Bool) : Nat := s.count false

/-! ### what can be reached -/
inductive Rch (E : List Edg) (S : Int → Prop) : Int → Prop
  | base {x : Int} : S x → Rch E S x
  | step {e : Edg} {w v : Int} : e ∈ E → w ∈ edI e → Rch E S w → v ∈ edO e → Rch E S v
theorem Rch.mono {E : List Edg} {S S' : Int → Prop} (h : ∀ x, S x → Rch E S' x) {x : Int} (hx : Rch E S x) : Rch E S' x := by
  induction hx with
  | base hs => exact h _ hs
  | step he hw _ hv ih => exact .step he hw ih hv
/-- a set that is closed holds all that can be reached -/
theorem Rch.sub {E : List Edg} {S T : Int → Prop} (h0 : ∀ x, S x → T x) (h1 : ∀ e ∈ E, ∀ w ∈ edI e, T w → ∀ v ∈ edO e, T v) {x : Int} (hx : Rch E S x) : T x := by
  induction hx with
  | base hs => exact h0 _ hs
  | step he hw _ hv ih => exact h1 _ he _ hw ih _ hv

/-! ### the reference's search -/

/-! ### the program's search -/
end Go.Proofs.YtocpeclcoikdpaaDoor
namespace Go.Proofs.YtocpeclcoikdpaaDoor
set_option linter.unusedVariables false
structure Pr (p : Int) (n : Nat) (Z mine other : Rows) : Prop where
  m : okM p n mine
  o : okM p n other
  l : mine.length = other.length
  i : Indep p n other
  sp : ∀ t, t < other.length → inSpan p (n + n) Z (gr other t ++ gr mine t)
theorem Pr.le {p : Int} {n : Nat} {Z mine other : Rows} (hf : fdB p = true) (h : Pr p n Z mine other) : other.length ≤ n := by
  rw [← (indep_iff hf h.o).1 h.i]
  exact (redM_ok (n := n) (fdB_rng hf).1 h.o).2.2
theorem okM_one {p : Int} {n : Nat} {r : List Int} (h : okR p n r) : okM p n [r] := fun x hx => by rw [List.mem_singleton.1 hx]; exact h
theorem dep_span {p : Int} {n : Nat} {M : Rows} {y : List Int} (hf : fdB p = true) (hM : okM p n M) (hy : okR p n y) (hi : Indep p n M) (hd : (redM p n (M ++ [y])).length ≠ (M ++ [y]).length) : inSpan p n M y := by
  have hp := (fdB_rng hf).1
  have ho := okM_app hM (okM_one hy)
  have h1 := (indep_iff hf hM).1 hi
  have h2 := (redM_ok (n := n) hp ho).2.1
  have hs := redM_span hf ho
  have hsM := redM_span hf hM
  have hsub : subSpan p n (redM p n M) (redM p n (M ++ [y])) := subSpan_trans hsM.1 (subSpan_trans span_app1 hs.2)
  have h3 := red_len_le hp (redM_red hf hM) (redM_red hf ho) hsub
  rw [List.length_append, List.length_singleton] at h2 hd
  have he := red_eq hp (redM_red hf hM) (redM_red hf ho) hsub (by omega)
  have hyr : inSpan p n (M ++ [y]) y := by
    have := inSpan_row (p := p) (n := n) (m := M ++ [y]) (i := M.length) (by simp)
    rwa [show gr (M ++ [y]) M.length = y from by have := gr_app2 (a := M) (b := [y]) 0; rw [Nat.add_zero] at this; rw [this]; exact gr_zero _ _] at this
  refine inSpan_trans hsM.1 ?_
  rw [he]
  exact inSpan_trans hs.2 hyr
end Go.Proofs.YtocpeclcoikdpaaDoor
namespace Go.Proofs.YtocpeclcoikdpaaDoor
set_option linter.unusedVariables false
end Go.Proofs.YtocpeclcoikdpaaDoor
namespace Go.Proofs.YtocpeclcoikdpaaDoor
set_option linter.unusedVariables false
/-- the equations, their coefficients in the opposite order -/
def bkE (n : Nat) (E : Rows) : Rows := E.map fun r => ((List.range n).map fun i => el r (n - 1 - i)) ++ [el r n]
section
variable {p : Int} {n : Nat} {E : Rows}
theorem bkE_len : (bkE n E).length = E.length := by simp [bkE]
theorem bkE_gr {u : Nat} (hu : u < E.length) : gr (bkE n E) u = ((List.range n).map fun i => el (gr E u) (n - 1 - i)) ++ [el (gr E u) n] := by
  have h1 := gr_get (m := bkE n E) (i := u) (by rw [bkE_len]; exact hu)
  unfold bkE at h1
  rw [List.getElem?_map, gr_get hu] at h1
  exact (Option.some.inj h1).symm
theorem bkE_ok (hE : okM p (n + 1) E) : okM p (n + 1) (bkE n E) := by
  intro r hr
  obtain ⟨x, hx, rfl⟩ := List.mem_map.1 hr
  obtain ⟨k1, k2⟩ := hE x hx
  refine ⟨by simp, fun y hy => ?_⟩
  rcases List.mem_append.1 hy with hy | hy
  · obtain ⟨i, hi, rfl⟩ := List.mem_map.1 hy
    exact k2 _ (el_mem (by have := List.mem_range.1 hi; omega))
  · rw [List.mem_singleton.1 hy]; exact k2 _ (el_mem (by omega))
theorem bkE_el {u j : Nat} (hu : u < E.length) (hj : j < n) : el (gr (bkE n E) u) j = el (gr E u) (n - 1 - j) := by
  rw [bkE_gr hu, el_app, rmap_len, if_pos hj, el_rmap _ hj]
theorem bkE_last {u : Nat} (hu : u < E.length) : el (gr (bkE n E) u) n = el (gr E u) n := by
  rw [bkE_gr hu, el_app, rmap_len, if_neg (by omega), Nat.sub_self]; rfl
/-- the equations' solutions -/
def slv (p : Int) (n : Nat) (E : Rows) (x : Nat → Int) : Prop := ∀ u, u < E.length → sg n (fun i => x i * el (gr E u) i) % p = el (gr E u) n % p
def fsR (p : Int) (n : Nat) (E : Rows) : Rows := redM p (n + 1) (bkE n E)
theorem slv_dot {x : Nat → Int} (h : slv p n E x) {u : Nat} (hu : u < E.length) : sg (n + 1) (fun j => (if j < n then x (n - 1 - j) else -1) * el (gr (bkE n E) u) j) % p = 0 := by
  have e : sg (n + 1) (fun j => (if j < n then x (n - 1 - j) else -1) * el (gr (bkE n E) u) j) = sg n (fun i => x i * el (gr E u) i) - el (gr E u) n := by
    show sg n _ + _ = _
    dsimp only
    rw [if_neg (by omega), bkE_last hu, sg_congr (g := fun j => (fun i => x i * el (gr E u) i) (n - 1 - j)) (fun j hj => by dsimp only; rw [if_pos hj, bkE_el hu hj]), sg_rev (fun i => x i * el (gr E u) i) n]
    omega
  rw [e, Int.sub_emod, h u hu, Int.sub_self]
  exact Int.zero_emod p
theorem fsR_solves (hf : fdB p = true) (hE : okM p (n + 1) E) (hb : fsB n (fsR p n E) = true) : slv p n E (fun i => el (fsX n (fsR p n E) (fsR p n E).length) i) := by
  have hp := fdB_rng hf
  have hW := bkE_ok hE
  have hR := redM_red hf hW
  have hsp := (redM_span hf hW).2
  unfold fsR at hb ⊢
  generalize redM p (n + 1) (bkE n E) = R at hR hsp hb ⊢
  obtain ⟨e1, e2⟩ := fsX_el hp.1 hR hb R.length (Nat.le_refl _)
  have hne := fsB_iff.1 hb
  have key : ∀ i, i < R.length → sg (n + 1) (fun j => (if j < n then el (fsX n R R.length) (n - 1 - j) else -1) * el (gr R i) j) % p = 0 := by
    intro i hi
    have hl := hR.lt i hi; have hn := hne i hi
    show (sg n _ + _) % p = 0
    dsimp only
    rw [if_neg (by omega), sg_one (i0 := leadN (gr R i)) (k := n) (by omega) (fun j hj hji => by
      rw [if_pos hj]
      by_cases h1 : ∃ t, t < R.length ∧ leadN (gr R t) = j
      · obtain ⟨t, ht, rfl⟩ := h1
        rw [hR.zero t i ht hi (fun h2 => hji (by rw [h2])), Int.mul_zero]
      · rw [e2 (n - 1 - j) (by omega) (fun t ht he => h1 ⟨t, ht, by omega⟩), Int.zero_mul]), if_pos (by omega), e1 i hi, hR.one i hi, show el (gr R i) n * 1 + -1 * el (gr R i) n = 0 by omega]
    exact Int.zero_emod p
  intro u hu
  have hd := dot_span (m := R) (v := gr (bkE n E) u) (n := n + 1) _ key (hsp u (by rw [bkE_len]; exact hu))
  have e : sg (n + 1) (fun j => (if j < n then el (fsX n R R.length) (n - 1 - j) else -1) * el (gr (bkE n E) u) j) = sg n (fun i => el (fsX n R R.length) i * el (gr E u) i) - el (gr E u) n := by
    show sg n _ + _ = _
    dsimp only
    rw [if_neg (by omega), bkE_last hu, sg_congr (g := fun j => (fun i => el (fsX n R R.length) i * el (gr E u) i) (n - 1 - j)) (fun j hj => by
      dsimp only; rw [if_pos hj, bkE_el hu hj]), sg_rev (fun i => el (fsX n R R.length) i * el (gr E u) i) n]
    omega
  rw [e] at hd
  exact mod_of_sub hd
theorem fsR_of (hf : fdB p = true) (hE : okM p (n + 1) E) {x : Nat → Int} (h : slv p n E x) : fsB n (fsR p n E) = true := by
  have hp := fdB_rng hf
  have hW := bkE_ok hE
  have hR := redM_red hf hW
  have hsp := (redM_span hf hW).1
  unfold fsR
  generalize redM p (n + 1) (bkE n E) = R at hR hsp ⊢
  rw [fsB_iff]
  intro i hi he
  have hd := dot_span (m := bkE n E) (n := n + 1) (v := gr R i) _ (fun u hu => slv_dot h (by rw [bkE_len] at hu; exact hu)) (hsp i hi)
  have e : sg (n + 1) (fun j => (if j < n then x (n - 1 - j) else -1) * el (gr R i) j) = -1 := by
    show sg n _ + _ = _
    dsimp only
    have h1 := hR.one i hi
    rw [he] at h1
    rw [if_neg (by omega), h1, sg_zero (fun j hj => by rw [leadN_z (gr R i) j (by omega), Int.mul_zero])]
    rfl
  rw [e] at hd
  have h2 : (-1 : Int) % p = p - 1 := by
    rw [show (-1 : Int) = p - 1 + -1 * p by omega, Int.add_mul_emod_self_right, Int.emod_eq_of_lt (by omega) (by omega)]
  omega
theorem firstSolution_ (hf : fdB p = true) (hn : n ≤ 1000) (hE : okM p (n + 1) E) (hL : E.length ≤ 100000) :
    F_impl_firstSolution p E (n : Int) = some (if fsB n (fsR p n E) then (fsX n (fsR p n E) (fsR p n E).length, true) else ([], false)) := by
  have hm : maxN = 1099511627776 := rfl
  have hp := fdB_rng hf
  have hW := bkE_ok hE
  have hR := redM_red hf hW
  have hRl := (redM_ok (n := n + 1) hp.1 hW).2.2
  have hbl : (bkE n E).length = E.length := bkE_len
  refine bnd (a := bkE n E) ?_ ?_
  · have hall := forS_map (f := fun (k5 : Nat) (s439 : List (List Int)) =>
      (idxO E ((k5 : Nat) : Int)).bind fun a455 =>
      ((subO (n : Int) 1).bind fun a553 =>
        whileO (fun (s604 : List Int × Int) =>
          (some (decide ((0 : Int) ≤ s604.2))).bind fun a614 =>
          cond a614
          ((idxO a455 s604.2).bind fun a625 =>
            (appO s604.1 [a625]).bind fun a630 =>
            (subO s604.2 1).bind fun a635 =>
            some (.inl (a630, a635)))
          (some (.inr s604.1))) (([] : List Int), a553)).bind fun (s546 : List Int) =>
      (idxO a455 (n : Int)).bind fun a645 =>
      (appO s546 [a645]).bind fun a650 =>
      (appO s439 [a650]).bind fun a658 =>
      some a658) (fun r => ((List.range n).map fun i => el r (n - 1 - i)) ++ [el r n]) E [] (by simp; omega) (by
      intro t r s ht hs
      have hjl := (List.getElem?_eq_some_iff.1 ht).1
      have hlt := (hE r (mem_of_get ht)).1
      refine bnd (idxO_of ht) (bnd (a := (List.range n).map fun i => el r (n - 1 - i)) (bnd (subO_of (by omega) (by omega)) ?_) ?_)
      · have hwh := whileO_is (f := fun (s604 : List Int × Int) =>
          (some (decide ((0 : Int) ≤ s604.2))).bind fun a614 =>
          cond a614
          ((idxO r s604.2).bind fun a625 =>
            (appO s604.1 [a625]).bind fun a630 =>
            (subO s604.2 1).bind fun a635 =>
            some (.inl (a630, a635)))
          (some (.inr s604.1))) (fun q => ((List.range q).map fun i => el r (n - 1 - i), (n : Int) - 1 - (q : Int))) (t := (List.range n).map fun i => el r (n - 1 - i)) n (by
            intro q hq
            dsimp only
            refine stp (cTW (dT (by omega)) ?_)
            rw [show (n : Int) - 1 - (q : Int) = ((n - 1 - q : Nat) : Int) by omega]
            refine bnd (idx_el (by omega)) (bnd (appO_of (by rw [rmap_len]; show q + 1 ≤ _; omega)) (bnd (subO_of (by omega) (by omega)) ?_))
            rw [List.range_succ, List.map_append, show ((n - 1 - q : Nat) : Int) - 1 = (n : Int) - 1 - ((q + 1 : Nat) : Int) by omega]
            rfl) (by
            dsimp only
            exact stp (cFW (dF (by omega)) rfl))
        rw [show ((n : Int) - 1 - ((0 : Nat) : Int)) = (n : Int) - 1 by omega] at hwh
        exact hwh
      · exact bnd (idx_el (by omega)) (bnd (appO_of (by rw [rmap_len]; show n + 1 ≤ _; omega)) (bnd (appO_of (by simp at hs ⊢; omega)) rfl)))
    exact hall
  refine bnd (zeros_ (by omega)) (bnd (a := ((n + 1 : Nat) : Int)) ((addO_of (by omega) (by omega)).trans (congrArg some (by omega))) (bnd (reduced_ (n := n + 1) hf (Nat.le_refl _) (by omega) hW (by omega)) ?_))
  unfold fsR
  generalize redM p (n + 1) (bkE n E) = R at hR hRl ⊢
  have hstep : ∀ i, i < R.length → leadN (gr R i) ≠ n → (idxO R ((i : Nat) : Int)).bind (fun a816 =>
      (F_impl_lead a816).bind fun y820 =>
      (some (decide (y820 = (n : Int)))).bind fun a823 =>
      cond a823
      (some ((Sum.inr (([] : List Int), false)) : List Int ⊕ (List Int × Bool)))
      ((subO (n : Int) 1).bind fun a826 =>
        (subO a826 y820).bind fun a828 =>
        (idxO a816 (n : Int)).bind fun a836 =>
        (setO (fsX n R i) a828 a836).bind fun a844 =>
        some (Sum.inl a844))) = some (Sum.inl (fsX n R (i + 1))) := by
    intro i hi hne
    have hlt := hR.lt i hi
    have hw := (okM_gr hR.ok hi).1
    refine bnd (idx_gr hi) (bnd (lead_ _) (stp (cFW (dF (by omega)) (bnd (subO_of (by omega) (by omega)) (bnd (subO_of (by omega) (by omega)) ?_)))))
    rw [show (n : Int) - 1 - (leadN (gr R i) : Int) = ((n - 1 - leadN (gr R i) : Nat) : Int) by omega]
    exact bnd (idx_el (by omega)) (bnd (setO_of _ (by rw [(fsX_ok hp.1 hR.ok i (by omega)).1]; omega)) rfl)
  cases hb : fsB n R with
  | true =>
    have hne := fsB_iff.1 hb
    exact sqW (forO_is (fun i => fsX n R i) (fun i hi => hstep i hi (hne i hi))) rfl
  | false =>
    rcases first_of (P := fun i => leadN (gr R i) = n) R.length with h | ⟨k, h1, h2, h3⟩
    · have := fsB_iff.2 h
      rw [hb] at this; cases this
    · refine sqW (forO_stop (fun i => fsX n R i) (t := (([] : List Int), false)) k h1 (fun i hi => hstep i (by omega) (h2 i hi)) ?_) rfl
      exact bnd (idx_gr h1) (bnd (lead_ _) (stp (cTW (dT (by rw [h3])) rfl)))
end
/-! ### coordinates in independent rows -/
/-- the columns of rows, each with an element of another row -/
def colE (M : Rows) (v : List Int) (size : Nat) : Rows := (List.range size).map fun j => colM M j ++ [el v j]
section
variable {p : Int} {size : Nat} {M : Rows} {v : List Int}
theorem colE_len : (colE M v size).length = size := rmap_len _
theorem colE_gr {j : Nat} (hj : j < size) : gr (colE M v size) j = colM M j ++ [el v j] := gr_rmap _ hj
theorem colM_len (M : Rows) (j : Nat) : (colM M j).length = M.length := by simp [colM]
theorem colE_ok (hM : okM p size M) (hv : okR p size v) : okM p (M.length + 1) (colE M v size) := rmapM_ok fun j hj => by
  refine ⟨by simp [colM], fun x hx => ?_⟩
  rcases List.mem_append.1 hx with hx | hx
  · obtain ⟨r, hr, rfl⟩ := List.mem_map.1 hx
    exact (hM r hr).2 _ (el_mem (by rw [(hM r hr).1]; exact hj))
  · rw [List.mem_singleton.1 hx]; exact hv.2 _ (el_mem (by rw [hv.1]; exact hj))
theorem colE_slv {x : Nat → Int} : slv p M.length (colE M v size) x ↔ ∀ j, j < size → sg M.length (fun t => x t * el (gr M t) j) % p = el v j % p := by
  have e : ∀ j, j < size → (∀ i, i < M.length → el (gr (colE M v size) j) i = el (gr M i) j) ∧ el (gr (colE M v size) j) M.length = el v j := fun j hj => by
    rw [colE_gr hj]
    refine ⟨fun i hi => ?_, ?_⟩
    · rw [el_app, if_pos (by rw [colM_len]; exact hi), colM_el hi]
    · rw [el_app, if_neg (by rw [colM_len]; omega), colM_len, Nat.sub_self]; rfl
  unfold slv
  rw [colE_len]
  refine forall_congr' fun j => forall_congr' fun hj => ?_
  rw [(e j hj).2, sg_congr (g := fun t => x t * el (gr M t) j) (fun t ht => by rw [(e j hj).1 t ht])]
/-- two solutions in independent rows are one -/
theorem indep_unique (hi : Indep p size M) {x y : List Int} (hx : okR p M.length x) (hy : okR p M.length y) (h : ∀ j, j < size → sg M.length (fun t => el x t * el (gr M t) j) % p = sg M.length (fun t => el y t * el (gr M t) j) % p) : x = y := by
  have h1 := hi (fun t => el x t - el y t) (fun j hj => by
    rw [sg_congr (g := fun t => el x t * el (gr M t) j - el y t * el (gr M t) j) (fun t _ => Int.sub_mul _ _ _), sg_sub, Int.sub_emod, h j hj, Int.sub_self]
    exact Int.zero_emod p)
  refine ext_el (by rw [hx.1, hy.1]) (fun j hj => ?_)
  rw [hx.1] at hj
  have e := mod_of_sub (h1 j hj)
  rwa [emod_sm (hx.2 _ (el_mem (by rw [hx.1]; exact hj))), emod_sm (hy.2 _ (el_mem (by rw [hy.1]; exact hj)))] at e
theorem coords_same (hf : fdB p = true) (hM : okM p size M) (hi : Indep p size M) (hv : okR p size v) :
    (if fsB M.length (fsR p M.length (colE M v size)) then (fsX M.length (fsR p M.length (colE M v size)) (fsR p M.length (colE M v size)).length, true) else ([], false)) = (if solB p size M v = true then (solX p size M v, true) else ([], false)) := by
  have hE := colE_ok hM hv
  have hp := fdB_rng hf
  cases hb : solB p size M v with
  | true =>
    have hd := solX_dot hf hM hv hb
    have hs : slv p M.length (colE M v size) (fun t => el (solX p size M v) t) := colE_slv.2 fun j hj => by
      rw [hd j hj]; exact (emod_sm (hv.2 _ (el_mem (by rw [hv.1]; exact hj)))).symm
    have hfb := fsR_of hf hE hs
    have hfs := colE_slv.1 (fsR_solves hf hE hfb)
    rw [if_pos hfb, if_pos rfl]
    have e := indep_unique hi (fsX_ok hp.1 (redM_red hf (bkE_ok hE)).ok _ (Nat.le_refl _)) (solX_ok (v := v) hf hM) (fun j hj => by
      have := hfs j hj
      rw [hd j hj]
      refine Eq.trans this (emod_sm (hv.2 _ (el_mem (by rw [hv.1]; exact hj)))))
    exact congrArg (fun x => (x, true)) e
  | false =>
    have hfb : fsB M.length (fsR p M.length (colE M v size)) = false := by
      cases h : fsB M.length (fsR p M.length (colE M v size)) with
      | false => rfl
      | true =>
        have hfs := colE_slv.1 (fsR_solves hf hE h)
        have : solB p size M v = true := (solB_iff hf hM hv).2 ⟨_, fun j hj => (hfs j hj).symm⟩
        rw [hb] at this; cases this
    rw [hfb]; rfl
theorem chCoords_ {basis : Rows} {chosen : List Int} {N : Int} (hf : fdB p = true) (hM : okM p size M) (hi : Indep p size M) (hv : okR p size v) (hs : size ≤ 1000) (hl : M.length ≤ 1000) (hN : N = (size : Int)) :
    F_impl_chooser_coordinates (p, N, basis, chosen, M) v = some (if solB p size M v = true then (solX p size M v, true) else ([], false)) := by
  have hm : maxN = 1099511627776 := rfl
  subst hN
  have hloop := forS_is (n := size) (f := fun (k9 : Nat) (s267 : List (List Int)) =>
      (forS (fun (k282 : Nat) (s340 : List Int) =>
          (idxO M ((k282 : Nat) : Int)).bind fun a356 =>
          (idxO a356 ((k9 : Nat) : Int)).bind fun a366 =>
          (appO s340 [a366]).bind fun a371 =>
          some a371) M.length 0 ([] : List Int)).bind fun (s378 : List Int) =>
      (idxO v ((k9 : Nat) : Int)).bind fun a387 =>
      (appO s378 [a387]).bind fun a392 =>
      (appO s267 [a392]).bind fun a400 =>
      some a400) (fun j => colE M v j) (fun j hj => by
    have hin := forS_map (f := fun (k282 : Nat) (s340 : List Int) =>
          (idxO M ((k282 : Nat) : Int)).bind fun a356 =>
          (idxO a356 ((j : Nat) : Int)).bind fun a366 =>
          (appO s340 [a366]).bind fun a371 =>
          some a371) (fun r => el r j) M [] (by simp; omega) (fun t r s ht hs' => by
      have hjl := (List.getElem?_eq_some_iff.1 ht).1
      have hr := (hM r (mem_of_get ht)).1
      exact bnd (idxO_of ht) (bnd (idx_el (by omega)) (bnd (appO_of (by simp at hs' ⊢; omega)) rfl)))
    rw [List.nil_append] at hin
    refine bnd hin (bnd (idx_el (by rw [hv.1]; exact hj)) (bnd (appO_of (by simp; omega)) (bnd (appO_of (by rw [colE_len]; show j + 1 ≤ _; omega)) ?_)))
    show some (colE M v j ++ [colM M j ++ [el v j]]) = some (colE M v (j + 1))
    unfold colE
    rw [List.range_succ, List.map_append]; rfl)
  have h1 := firstSolution_ hf hl (colE_ok hM hv) (by rw [colE_len]; omega)
  refine bnd (cI_of (x := (size : Int)) ⟨by omega, by omega⟩) ?_
  rw [Int.toNat_natCast]
  refine bnd hloop (bnd h1 ?_)
  rw [coords_same hf hM hi hv]
end
end Go.Proofs.YtocpeclcoikdpaaDoor
