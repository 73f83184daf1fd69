/-
  Plain laws: the states that are hidden; minimal state spaces. No program in sight. No condition.
-/
import Derived.Test.YteikcdofblclhaaDoorZP27
namespace Go.Proofs.YteikcdofblclhaaDoor
set_option linter.unusedVariables false

theorem nuP_succ (p : Int) (n : Nat) (b : Rows) (j : Nat) : nuP p n b (j + 1) = if isL b j then nuP p n b j else nuP p n b j ++ [nvL p n b j b.length] := rfl
theorem spNull_ {p : Int} {n : Nat} {m : Rows} (hf : fdB p = true) (hn : n ≤ 1048576) (h : okM p n m) (hL : m.length ≤ 1048576) : F_spec_spNull p (n : Int) m = some (nulM p n m) := by
  have hm : maxN = 1099511627776 := rfl
  have hp := fdB_rng hf
  have hb := redM_red hf h
  have hbl := (redM_ok (n := n) hp.1 h).2.2
  refine bnd (spReduce_ hf (Nat.le_refl n) hn h hL) ?_
  unfold nulM
  generalize redM p n m = b at hb hbl ⊢
  refine bnd (makeO_of 0 (by omega)) ?_
  have hlen : (List.replicate n (0 : Int)).length = n := List.length_replicate
  refine bnd (a := ldL n b 0) ((forS_is (fun j => part (fun _ _ => -1) (List.replicate n 0) j) ?_).trans (by rw [partN]; rfl)) ?_
  · intro j hj
    refine bnd (setO_of _ (by rw [part_len]; exact hj)) ?_
    exact congrArg some (part_set (fun _ _ => -1) (List.replicate n 0) hj)
  refine bnd (forS_is (fun i => ldL n b i) ?_) ?_
  · intro i hi
    have hw := (okM_gr hb.ok hi).1
    exact bnd (idx_gr hi) (bnd (spLead_ (by omega)) (bnd (setO_of _ (by rw [ldL_len]; exact hb.lt i hi)) rfl))
  refine bnd (whileO_is (fun j => (nuP p n b j, (j : Int))) (t := nuP p n b n) n ?_ ?_) ?_
  · intro j hj
    dsimp only
    refine stp (cTW (dT (by omega)) (bnd (a := nuP p n b (j + 1)) ?_ (bnd (addO_of (by omega) (by omega)) rfl)))
    refine bnd (idx_el (by rw [ldL_len]; exact hj)) (stp ?_)
    have h1 := ldL_el hb.lt hj b.length (Nat.le_refl _)
    rw [← isL_iff] at h1
    rw [nuP_succ]
    by_cases h2 : isL b j = true
    · rw [if_pos h2]; exact cTW (dT (h1.2 h2)) rfl
    · rw [if_neg h2]
      refine cFW (dF (fun h3 => h2 (h1.1 h3))) (bnd (makeO_of 0 (by omega)) (bnd (setO_of _ (by rw [hlen]; exact hj)) (bnd (forS_is (fun i => nvL p n b j i) ?_) (bnd (appO_of (by have := (nuP_ok (n := n) (b := b) hp.1 j).2; show _ + 1 ≤ _; omega)) rfl))))
      intro i hi
      have hw := (okM_gr hb.ok hi).1
      exact bnd (idx_gr hi) (bnd (idx_gr hi) (bnd (idx_el (by omega)) (bnd (spLead_ (by omega)) (bnd (fdNeg_ hp (okM_el hb.ok hi hj)) (bnd (setO_of _ (by rw [(nvL_ok hp.1 i).1]; exact hb.lt i hi)) rfl)))))
  · dsimp only
    exact stp (cFW (dF (by omega)) rfl)
  exact bnd (spReduce_ hf (Nat.le_refl n) hn (nuP_ok hp.1 n).1 (by have := (nuP_ok (n := n) (b := b) hp.1 n).2; omega)) rfl

/-! ### rows and columns exchanged -/
def colM (m : Rows) (j : Nat) : List Int := m.map fun r => el r j
def trM (m : Rows) (cols : Nat) : Rows := (List.replicate cols ([] : List Int)).mapIdx fun j _ => colM m j
theorem trM_len (m : Rows) (cols : Nat) : (trM m cols).length = cols := by simp [trM]
theorem trM_gr {m : Rows} {cols j : Nat} (hj : j < cols) : gr (trM m cols) j = colM m j := by
  unfold trM gr
  rw [List.getD_eq_getElem?_getD, List.getElem?_mapIdx, List.getElem?_replicate, if_pos hj]
  rfl
theorem colM_el {m : Rows} {i j : Nat} (hi : i < m.length) : el (colM m j) i = el (gr m i) j := by
  have h1 := el_get (r := colM m j) (c := i) (by simp [colM]; exact hi)
  unfold colM at h1
  rw [List.getElem?_map, gr_get hi] at h1
  exact (Option.some.inj h1).symm
theorem trM_ok {p : Int} {w cols : Nat} {m : Rows} (h : okM p w m) (hc : cols ≤ w) : okM p m.length (trM m cols) := by
  intro r hr
  obtain ⟨j, hj, rfl⟩ := List.mem_iff_getElem.1 hr
  rw [trM_len] at hj
  have e : (trM m cols)[j] = colM m j := by
    rw [← trM_gr hj]
    have := gr_get (m := trM m cols) (i := j) (by rw [trM_len]; exact hj)
    rw [List.getElem?_eq_getElem (by rw [trM_len]; exact hj)] at this; exact Option.some.inj this
  rw [e]
  refine ⟨by simp [colM], fun x hx => ?_⟩
  obtain ⟨r, hr, rfl⟩ := List.mem_map.1 hx
  have h1 := h r hr
  exact h1.2 _ (el_mem (by omega))
theorem ssTurn_ {m : Rows} {cols w : Nat} (hc : cols ≤ 1048576) (hL : m.length ≤ 1048576) (hw : ∀ r ∈ m, cols ≤ r.length) : F_spec_ssTurn m (cols : Int) = some (trM m cols) := by
  have hm : maxN = 1099511627776 := rfl
  refine bnd (makeO_of [] (by omega)) (bnd (a := trM m cols) ?_ rfl)
  have hlen : (List.replicate cols ([] : List Int)).length = cols := List.length_replicate
  refine (forS_is (fun j => partG (fun j _ => colM m j) (List.replicate cols ([] : List Int)) j) ?_).trans (by rw [partGN]; rfl)
  intro j hj
  have hj' : j < cols := by rw [hlen] at hj; exact hj
  have hpl : j < (partG (fun j _ => colM m j) (List.replicate cols ([] : List Int)) j).length := by rw [partG_len]; exact hj
  have hg : gr (partG (fun j _ => colM m j) (List.replicate cols ([] : List Int)) j) j = [] := by
    rw [gr_part hj, if_neg (by omega)]
    unfold gr; rw [List.getD_eq_getElem?_getD, List.getElem?_replicate, if_pos hj']; rfl
  have e1 : partG (fun j _ => colM m j) (List.replicate cols ([] : List Int)) j = (partG (fun j _ => colM m j) (List.replicate cols ([] : List Int)) j).set j ((m.take 0).map fun r => el r j) := by
    conv => lhs; rw [← set_gr hpl, hg]
    rfl
  have e2 := part_setG (g := fun j _ => colM m j) (m := List.replicate cols ([] : List Int)) hj
  refine bnd (a := partG (fun j _ => colM m j) (List.replicate cols ([] : List Int)) (j + 1)) ?_ rfl
  rw [← e2]
  conv => lhs; rw [e1]
  refine (forS_is (fun k => (partG (fun j _ => colM m j) (List.replicate cols ([] : List Int)) j).set j ((m.take k).map fun r => el r j)) ?_).trans (by rw [List.take_length]; rfl)
  intro k hk
  have hset : j < ((partG (fun j _ => colM m j) (List.replicate cols ([] : List Int)) j).set j ((m.take k).map fun r => el r j)).length := by rw [List.length_set]; exact hpl
  refine bnd (idx_gr hk) (bnd (idx_gr hset) (bnd (idx_el (by have := hw _ (gr_mem hk); omega)) ?_))
  rw [gr_set hpl, if_pos rfl]
  refine bnd (appO_of (by simp; omega)) (bnd (setO_of _ hset) ?_)
  rw [List.set_set, List.take_add_one, gr_get hk, List.map_append]
  rfl

/-! ### products with zero -/
theorem lperp_cat {p : Int} {w o : Nat} {m a : Rows} {x : List Int} (hl : a.length = m.length) (h : okM p w m) : lperp p (w + o) (catM m a) x ↔ lperp p w m x ∧ lperp p o a x := by
  have e : ∀ c, sg (catM m a).length (fun t => el x t * el (gr (catM m a) t) c) = sg m.length (fun t => el x t * (if c < w then el (gr m t) c else el (gr a t) (c - w))) := fun c => by
    rw [catM_len hl]
    exact sg_congr fun t ht => by rw [catM_gr hl, el_app, (h _ (gr_mem ht)).1]
  constructor
  · intro hx
    refine ⟨fun c hc => ?_, fun c hc => ?_⟩
    · have := hx c (by omega)
      rw [e c, sg_congr (g := fun t => el x t * el (gr m t) c) (fun t _ => by rw [if_pos hc])] at this
      exact this
    · have := hx (w + c) (by omega)
      rw [e, sg_congr (g := fun t => el x t * el (gr a t) c) (fun t _ => by rw [if_neg (by omega), show w + c - w = c by omega])] at this
      rw [hl]; exact this
  · rintro ⟨h1, h2⟩ c hc
    rw [e c]
    by_cases hcw : c < w
    · rw [sg_congr (g := fun t => el x t * el (gr m t) c) (fun t _ => by rw [if_pos hcw])]
      exact h1 c hcw
    · rw [sg_congr (g := fun t => el x t * el (gr a t) (c - w)) (fun t _ => by rw [if_neg hcw]), ← hl]
      exact h2 _ (by omega)
/-- x A c is the product of x A and c -/
theorem lperp_mul {p : Int} {n o : Nat} {A c : Rows} {x : List Int} (hp : 2 ≤ p) (hA : okM p n A) (hAl : A.length = n) (hc : okM p o c) (hcl : c.length = n) (hx : x.length = n) :
    lperp p o (mulM p o A c) x ↔ lperp p o c (combR p n A x) := by
  have key : ∀ j, j < o → sg (mulM p o A c).length (fun t => el x t * el (gr (mulM p o A c) t) j) % p = sg c.length (fun i => el (combR p n A x) i * el (gr c i) j) % p := by
    intro j hj
    have g1 : ∀ t, t < A.length → gr (mulM p o A c) t = combR p o c (gr A t) := fun t ht => by
      have h1 := gr_get (m := mulM p o A c) (i := t) (by rw [mulM_len]; exact ht)
      unfold mulM at h1
      rw [List.getElem?_map, gr_get ht] at h1
      exact (Option.some.inj h1).symm
    rw [mulM_len, hAl, hcl]
    rw [sg_mod (g := fun t => el x t * sg n (fun i => el (gr A t) i * el (gr c i) j)) (fun t ht => by
      rw [g1 t (by omega), el_combR hp hc (by rw [(hA _ (gr_mem (by omega))).1]; omega) hj, mul_mod2, hcl])]
    rw [sg_mod (f := fun i => el (combR p n A x) i * el (gr c i) j) (g := fun i => sg n (fun t => el x t * el (gr A t) i) * el (gr c i) j) (fun i hi => by
      rw [el_combR hp hA (by omega) hi, mul_mod1, hAl])]
    congr 1
    rw [sg_congr (g := fun t => sg n (fun i => el x t * (el (gr A t) i * el (gr c i) j))) (fun t _ => (sg_mul _ _ _).symm), sg_comm]
    refine sg_congr fun i _ => ?_
    rw [← sg_mulr]
    exact sg_congr fun t _ => (Int.mul_assoc _ _ _).symm
  constructor
  · intro h j hj; rw [← key j hj]; exact h j hj
  · intro h j hj; rw [key j hj]; exact h j hj
theorem perp_mul {p : Int} {n : Nat} {A R : Rows} {x : List Int} (hp : 2 ≤ p) (hA : okM p n A) (hAl : A.length = n) (hR : okM p n R) (hx : x.length = n) :
    perp p n (mulM p n R (trM A n)) x ↔ perp p n R (combR p n A x) := by
  have hT : okM p n (trM A n) := by have := trM_ok hA (Nat.le_refl n); rw [hAl] at this; exact this
  have key : ∀ i, i < R.length → sg n (fun c => el (gr (mulM p n R (trM A n)) i) c * el x c) % p = sg n (fun t => el (gr R i) t * el (combR p n A x) t) % p := by
    intro i hi
    have g1 : gr (mulM p n R (trM A n)) i = combR p n (trM A n) (gr R i) := by
      have h1 := gr_get (m := mulM p n R (trM A n)) (i := i) (by rw [mulM_len]; exact hi)
      unfold mulM at h1
      rw [List.getElem?_map, gr_get hi] at h1
      exact (Option.some.inj h1).symm
    rw [g1]
    rw [sg_mod (g := fun c => sg n (fun t => el (gr R i) t * el (gr A c) t) * el x c) (fun c hc => by
      rw [el_combR hp hT (by rw [trM_len, (hR _ (gr_mem hi)).1]; exact Nat.le_refl _) hc, mul_mod1, trM_len]
      congr 2
      exact sg_congr fun t ht => by rw [trM_gr ht, colM_el (by omega)])]
    rw [sg_mod (f := fun t => el (gr R i) t * el (combR p n A x) t) (g := fun t => el (gr R i) t * sg n (fun c => el x c * el (gr A c) t)) (fun t ht => by
      rw [el_combR hp hA (by omega) ht, mul_mod2, hAl])]
    congr 1
    rw [sg_congr (g := fun c => sg n (fun t => el (gr R i) t * el (gr A c) t * el x c)) (fun c _ => (sg_mulr _ _ _).symm), sg_comm]
    refine sg_congr fun t _ => ?_
    rw [← sg_mul]
    exact sg_congr fun c _ => by rw [Int.mul_assoc, Int.mul_comm (el (gr A c) t)]
  constructor
  · intro h i hi; rw [← key i hi]; exact h i (by rw [mulM_len]; exact hi)
  · intro h i hi; rw [mulM_len] at hi; rw [key i hi]; exact h i hi
theorem perp_app {p : Int} {n : Nat} {a b : Rows} {x : List Int} : perp p n (a ++ b) x ↔ perp p n a x ∧ perp p n b x :=
  ⟨fun h => ⟨perp_sub h span_app1, perp_sub h span_app2⟩, fun ⟨h1, h2⟩ i hi => by
    by_cases h : i < a.length
    · rw [gr_app1 h]; exact h1 i h
    · rw [List.length_append] at hi
      rw [show i = a.length + (i - a.length) by omega, gr_app2]; exact h2 _ (by omega)⟩
theorem perp_red {p : Int} {n : Nat} {m : Rows} {x : List Int} (hf : fdB p = true) (h : okM p n m) : perp p n (redM p n m) x ↔ perp p n m x :=
  ⟨fun hx => perp_sub hx (redM_span hf h).2, fun hx => perp_sub hx (redM_span hf h).1⟩

/-! ### the states that are hidden -/
def cols (p : Int) (o : Nat) (A C : Rows) : Nat → Rows
  | 0 => C
  | k + 1 => mulM p o A (cols p o A C k)
section
variable {p : Int} {n o : Nat} {A C : Rows}
theorem cols_ok (hf : fdB p = true) (ho : o ≤ 200) (hA : okM p n A) (hAl : A.length = n) (hC : okM p o C) (hCl : C.length = n) : ∀ k, okM p o (cols p o A C k) ∧ (cols p o A C k).length = n
  | 0 => ⟨hC, hCl⟩
  | k + 1 => by
    have hm : maxN = 1099511627776 := rfl
    obtain ⟨h1, h2⟩ := cols_ok hf ho hA hAl hC hCl k
    exact ⟨mulM_ok (fdB_rng hf) (by omega) h1 hA (by omega), by unfold cols; rw [mulM_len, hAl]⟩
theorem rc_perp (hf : fdB p = true) (hn : n ≤ 200) (ho : o ≤ 200) (hA : okM p n A) (hAl : A.length = n) (hC : okM p o C) (hCl : C.length = n) : ∀ K (x : List Int), okR p n x →
    (perp p n (rc p n (trM A n) (trM C o) K) x ↔ ∀ t, t ≤ K → lperp p o (cols p o A C t) x)
  | 0, x, hx => by
    have hB : okM p n (trM C o) := by have := trM_ok hC (Nat.le_refl o); rw [hCl] at this; exact this
    have e : perp p n (rc p n (trM A n) (trM C o) 0) x ↔ lperp p o C x := by
      refine (perp_red hf hB).trans ?_
      constructor
      · intro h j hj
        rw [← h j (by rw [trM_len]; exact hj), hCl]
        exact congrArg (· % p) (sg_congr fun i hi => by rw [trM_gr hj, colM_el (by omega), Int.mul_comm])
      · intro h j hj
        rw [trM_len] at hj
        rw [← h j hj, hCl]
        exact congrArg (· % p) (sg_congr fun i hi => by rw [trM_gr hj, colM_el (by omega), Int.mul_comm])
    rw [e]
    exact ⟨fun h t ht => by rw [Nat.le_zero.1 ht]; exact h, fun h => h 0 (Nat.le_refl _)⟩
  | K + 1, x, hx => by
    have hp := fdB_rng hf
    have hT : okM p n (trM A n) := by have := trM_ok hA (Nat.le_refl n); rw [hAl] at this; exact this
    have hB : okM p n (trM C o) := by have := trM_ok hC (Nat.le_refl o); rw [hCl] at this; exact this
    have hR := (rc_red hf hn hT (trM_len A n) hB K).ok
    have hxA : okR p n (combR p n A x) := combR_ok hp.1 hA
    have h1 : perp p n (rc p n (trM A n) (trM C o) (K + 1)) x ↔ _ := (perp_red hf (rc_app hf hn hT (trM_len A n) hB K)).trans perp_app
    rw [h1, perp_mul hp.1 hA hAl hR hx.1, rc_perp hf hn ho hA hAl hC hCl K x hx, rc_perp hf hn ho hA hAl hC hCl K _ hxA]
    constructor
    · rintro ⟨h2, h3⟩ t ht
      cases t with
      | zero => exact h2 0 (by omega)
      | succ t =>
        obtain ⟨k1, k2⟩ := cols_ok hf ho hA hAl hC hCl t
        exact (lperp_mul hp.1 hA hAl k1 k2 hx.1).2 (h3 t (by omega))
    · intro h2
      refine ⟨fun t ht => h2 t (by omega), fun t ht => ?_⟩
      obtain ⟨k1, k2⟩ := cols_ok hf ho hA hAl hC hCl t
      exact (lperp_mul hp.1 hA hAl k1 k2 hx.1).1 (h2 (t + 1) (by omega))
end
section
variable {p : Int} {n : Nat} {A B : Rows}
theorem rc_grow2 (hf : fdB p = true) (hn : n ≤ 200) (hA : okM p n A) (hAl : A.length = n) (hB : okM p n B) : ∀ d, (∀ j, j < d → (rc p n A B (j + 1)).length ≠ (rc p n A B j).length) → (rc p n A B 0).length + d ≤ (rc p n A B d).length
  | 0, _ => Nat.le_refl _
  | d + 1, h => by
    have h1 := rc_grow2 hf hn hA hAl hB d (fun j hj => h j (by omega))
    have h2 := red_len_le (fdB_rng hf).1 (rc_red hf hn hA hAl hB d) (rc_red hf hn hA hAl hB (d + 1)) (rc_step hf hn hA hAl hB d)
    have h3 := h d (by omega)
    omega
theorem rcN_before (hf : fdB p = true) (hn : n ≤ 200) (h0 : 0 < n) (hA : okM p n A) (hAl : A.length = n) (hB : okM p n B) : rcN p n A B = rc p n A B (n - 1) := by
  rcases first_of (P := fun j => (rc p n A B (j + 1)).length = (rc p n A B j).length) n with h | ⟨k, h1, h2, h3⟩
  · exfalso
    have h1 := rc_grow2 hf hn hA hAl hB n h
    have h2 := rc_len hf hn hA hAl hB n
    have h3 : (rc p n A B 0).length = 0 := by omega
    have h4 := h 0 h0
    have h5 : rc p n A B 0 = [] := List.eq_nil_of_length_eq_zero h3
    have h6 : (rc p n A B 1).length ≤ _ := (redM_ok (n := n) (fdB_rng hf).1 (rc_app hf hn hA hAl hB 0)).2.1
    rw [h5, List.length_append, mulM_len] at h6
    rw [h3] at h4
    simp at h6
    exact h4 (by rw [h6]; rfl)
  · have e1 := rc_stable hf hn hA hAl hB h3 (n - k)
    have e2 := rc_stable hf hn hA hAl hB h3 (n - 1 - k)
    rw [show k + (n - k) = n by omega] at e1
    rw [show k + (n - 1 - k) = n - 1 by omega] at e2
    unfold rcN
    rw [e1, e2]
end
def seenM (p : Int) (n o : Nat) (A C : Rows) : Nat → Rows
  | 0 => List.replicate n []
  | k + 1 => catM (seenM p n o A C k) (cols p o A C k)
section
variable {p : Int} {n o : Nat} {A C : Rows}
theorem seen_ok (hf : fdB p = true) (ho : o ≤ 200) (hA : okM p n A) (hAl : A.length = n) (hC : okM p o C) (hCl : C.length = n) : ∀ k, okM p (k * o) (seenM p n o A C k) ∧ (seenM p n o A C k).length = n
  | 0 => ⟨fun r hr => by
      rw [List.eq_of_mem_replicate hr]
      exact ⟨by simp, fun x hx => nomatch hx⟩, by simp [seenM]⟩
  | k + 1 => by
    obtain ⟨h1, h2⟩ := seen_ok hf ho hA hAl hC hCl k
    obtain ⟨k1, k2⟩ := cols_ok hf ho hA hAl hC hCl k
    unfold seenM
    rw [Nat.succ_mul]
    exact ⟨catM_ok (by omega) h1 k1, by rw [catM_len (by omega)]; exact h2⟩
theorem seen_perp (hf : fdB p = true) (ho : o ≤ 200) (hA : okM p n A) (hAl : A.length = n) (hC : okM p o C) (hCl : C.length = n) (x : List Int) : ∀ k, (lperp p (k * o) (seenM p n o A C k) x ↔ ∀ t, t < k → lperp p o (cols p o A C t) x)
  | 0 => ⟨fun _ t ht => by omega, fun _ c hc => by omega⟩
  | k + 1 => by
    obtain ⟨h1, h2⟩ := seen_ok hf ho hA hAl hC hCl k
    obtain ⟨k1, k2⟩ := cols_ok hf ho hA hAl hC hCl k
    unfold seenM
    rw [Nat.succ_mul, lperp_cat (by omega) h1, seen_perp hf ho hA hAl hC hCl x k]
    constructor
    · rintro ⟨h3, h4⟩ t ht
      by_cases htk : t = k
      · rw [htk]; exact h4
      · exact h3 t (by omega)
    · intro h3
      exact ⟨fun t ht => h3 t (by omega), h3 k (by omega)⟩
/-- the states that are hidden -/
def hidM (p : Int) (n o : Nat) (A C : Rows) : Rows := kerM p (n * o) (seenM p n o A C n)
theorem hid_eq (hf : fdB p = true) (hn : n ≤ 200) (ho : o ≤ 200) (hA : okM p n A) (hAl : A.length = n) (hC : okM p o C) (hCl : C.length = n) : hidM p n o A C = nulM p n (rcN p n (trM A n) (trM C o)) := by
  have hp := fdB_rng hf
  obtain ⟨h1, h2⟩ := seen_ok hf ho hA hAl hC hCl n
  have hT : okM p n (trM A n) := by have := trM_ok hA (Nat.le_refl n); rw [hAl] at this; exact this
  have hB : okM p n (trM C o) := by have := trM_ok hC (Nat.le_refl o); rw [hCl] at this; exact this
  have r1 : Red p n (hidM p n o A C) := by have := kerM_red hf h1; rw [h2] at this; exact this
  have r2 : Red p n (nulM p n (rcN p n (trM A n) (trM C o))) := nulM_red hf
  have hR := (rcN_red hf hn hT (trM_len A n) hB).ok
  have main : ∀ x : List Int, okR p n x → (inSpan p n (hidM p n o A C) x ↔ inSpan p n (nulM p n (rcN p n (trM A n) (trM C o))) x) := by
    intro x hx
    have k1 := kerM_iff hf h1 x
    rw [h2] at k1
    rw [nulM_iff hf hR x]
    refine k1.trans ((seen_perp hf ho hA hAl hC hCl x n).trans ?_)
    by_cases h0 : 0 < n
    · rw [rcN_before hf hn h0 hT (trM_len A n) hB, rc_perp hf hn ho hA hAl hC hCl (n - 1) x hx]
      exact ⟨fun h t ht => h t (by omega), fun h t ht => h t (by omega)⟩
    · refine ⟨fun _ i hi => ?_, fun _ t ht => by omega⟩
      have : n = 0 := by omega
      subst this
      exact Int.zero_emod p
  exact red_unique hp.1 r1 r2 (fun i hi => (main _ (okM_gr r1.ok hi)).1 (inSpan_row hi)) (fun i hi => (main _ (okM_gr r2.ok hi)).2 (inSpan_row hi))
theorem hidM_red (hf : fdB p = true) (ho : o ≤ 200) (hA : okM p n A) (hAl : A.length = n) (hC : okM p o C) (hCl : C.length = n) : Red p n (hidM p n o A C) := by
  obtain ⟨h1, h2⟩ := seen_ok hf ho hA hAl hC hCl n
  have := kerM_red hf h1; rw [h2] at this; exact this
end
theorem catM_map {m a : Rows} (hl : a.length = m.length) : m.mapIdx (fun i r => r ++ gr a i) = catM m a := by
  refine List.ext_getElem (by rw [List.length_mapIdx, catM_len hl]) (fun i h1 h2 => ?_)
  rw [List.length_mapIdx] at h1
  have e : gr a i = a[i]'(by omega) := by have := gr_get (m := a) (i := i) (by omega); rw [List.getElem?_eq_getElem (by omega)] at this; exact (Option.some.inj this).symm
  simp only [catM, List.getElem_mapIdx, List.getElem_zipWith, e]
theorem hiddenI_ {p : Int} {n o : Nat} {s : SSt} (hf : fdB p = true) (h1 : s.1 = (n : Int)) (h3 : s.2.2.1 = (o : Int)) (hn : n ≤ 200) (ho : o ≤ 200) (hA : okM p n s.2.2.2.1) (hAl : s.2.2.2.1.length = n) (hC : okM p o s.2.2.2.2.2.1) (hCl : s.2.2.2.2.2.1.length = n) :
    F_impl_StateSpace_hidden s p = some (hidM p n o s.2.2.2.1 s.2.2.2.2.2.1) := by
  have hm : maxN = 1099511627776 := rfl
  obtain ⟨s1, ki, ko, A, B, C, D⟩ := s
  dsimp only at h1 h3 hA hAl hC hCl ⊢
  subst h1
  subst h3
  have hno : n * o ≤ 200 * 200 := Nat.mul_le_mul hn ho
  refine bnd (makeO_of [] (by omega)) (bnd (clones_ (m := C) (by omega) (rowsP_len hC (by omega))) (bnd (cI_of ⟨by omega, by omega⟩) (bnd (forS_is (fun k => (seenM p n o A C k, cols p o A C k)) ?_) ?_)))
  · intro k hk
    rw [Int.toNat_natCast] at hk
    obtain ⟨s1, s2⟩ := seen_ok hf ho hA hAl hC hCl k
    obtain ⟨c1, c2⟩ := cols_ok hf ho hA hAl hC hCl k
    have hko : k * o ≤ 200 * 200 := Nat.mul_le_mul (by omega) ho
    refine bnd (a := seenM p n o A C (k + 1)) ?_ (bnd (product_ (rows := A) (m := cols p o A C k) (fdB_rng hf) (by omega) c1 hA (by omega) (by omega)) rfl)
    refine (forS_is (fun j => partG (fun i r => r ++ gr (cols p o A C k) i) (seenM p n o A C k) j) ?_).trans (by rw [partGN, catM_map (by omega)]; rfl)
    intro j hj
    replace hj : j < (seenM p n o A C k).length := hj
    have hpl : j < (partG (fun i r => r ++ gr (cols p o A C k) i) (seenM p n o A C k) j).length := by rw [partG_len]; exact hj
    have hg : gr (partG (fun i r => r ++ gr (cols p o A C k) i) (seenM p n o A C k) j) j = gr (seenM p n o A C k) j := by rw [gr_part hj, if_neg (by omega)]
    have e2 := part_setG (g := fun i r => r ++ gr (cols p o A C k) i) (m := seenM p n o A C k) hj
    refine bnd (idx_gr hpl) (bnd (idx_gr (m := cols p o A C k) (by omega)) ?_)
    rw [hg]
    have w1 := (okM_gr s1 hj).1
    have w2 := (okM_gr c1 (i := j) (by omega)).1
    refine bnd (appO_of (by omega)) (bnd (setO_of _ hpl) ?_)
    exact congrArg some e2
  · obtain ⟨s1, s2⟩ := seen_ok hf ho hA hAl hC hCl n
    have e : ((n : Int) * (o : Int)) = ((n * o : Nat) : Int) := (Int.natCast_mul n o).symm
    refine bnd (a := ((n * o : Nat) : Int)) ((mulO_of (by rw [e]; omega) (by rw [e]; omega)).trans (by rw [e])) (bnd (kernel_ (m := seenM p n o A C n) hf (by omega) s1 (by omega)) rfl)
theorem hiddenS_ {p : Int} {n o : Nat} {s : SSt} (hf : fdB p = true) (h1 : s.1 = (n : Int)) (h3 : s.2.2.1 = (o : Int)) (hn : n ≤ 200) (ho : o ≤ 200) (hA : okM p n s.2.2.2.1) (hAl : s.2.2.2.1.length = n) (hC : okM p o s.2.2.2.2.2.1) (hCl : s.2.2.2.2.2.1.length = n) :
    F_spec_ssHidden p s = some (hidM p n o s.2.2.2.1 s.2.2.2.2.2.1) := by
  have hm : maxN = 1099511627776 := rfl
  obtain ⟨s1, ki, ko, A, B, C, D⟩ := s
  dsimp only at h1 h3 hA hAl hC hCl ⊢
  subst h1
  subst h3
  rw [hid_eq hf hn ho hA hAl hC hCl]
  have hT : okM p n (trM A n) := by have := trM_ok hA (Nat.le_refl n); rw [hAl] at this; exact this
  have hB : okM p n (trM C o) := by have := trM_ok hC (Nat.le_refl o); rw [hCl] at this; exact this
  refine bnd (bnd (ssTurn_ (m := A) (cols := n) (w := n) (by omega) (by omega) (fun r hr => by rw [(hA r hr).1]; exact Nat.le_refl _)) (bnd (ssTurn_ (m := C) (cols := o) (w := o) (by omega) (by omega) (fun r hr => by rw [(hC r hr).1]; exact Nat.le_refl _)) rfl)) ?_
  refine bnd (a := trM C o) (forS_is (fun _ => trM C o) ?_) ?_
  · intro j hj
    have hj' : j < o := by have : j < (trM C o).length := hj; rw [trM_len] at this; exact this
    have hjl : j < (trM C o).length := hj
    have hw := (okM_gr hB hjl).1
    refine bnd (idx_gr hjl) (stp ?_)
    by_cases h0 : n = 0
    · refine cTW (dT (by omega)) (bnd (makeO_of 0 (by omega)) (bnd (setO_of _ hjl) ?_))
      have e : gr (trM C o) j = List.replicate n 0 := by rw [h0]; exact List.eq_nil_of_length_eq_zero (by omega)
      rw [← e, set_gr hjl]
    · exact cFW (dF (by omega)) rfl
  · refine bnd (ssReach_ (s := ((n : Int), (o : Int), 0, trM A n, trM C o, [], [])) hf rfl hn hT (trM_len A n) hB (by show (trM C o).length ≤ _; rw [trM_len]; omega)) ?_
    have hl := rcN_len hf hn hT (trM_len A n) hB
    exact bnd (spNull_ (m := rcN p n (trM A n) (trM C o)) hf (by omega) (rcN_red hf hn hT (trM_len A n) hB).ok (by omega)) rfl
theorem SSok.hidS {p : Int} {n k o : Nat} {s : SSt} (h : SSok p n k o s) (hf : fdB p = true) : F_spec_ssHidden p s = some (hidM p n o s.2.2.2.1 s.2.2.2.2.2.1) := by
  have := h.hn; have := h.ho
  exact hiddenS_ hf h.h1 h.h3 (by omega) (by omega) h.a.2 h.a.1 h.c.2 h.c.1
theorem SSok.hidI {p : Int} {n k o : Nat} {s : SSt} (h : SSok p n k o s) (hf : fdB p = true) : F_impl_StateSpace_hidden s p = some (hidM p n o s.2.2.2.1 s.2.2.2.2.2.1) := by
  have := h.hn; have := h.ho
  exact hiddenI_ hf h.h1 h.h3 (by omega) (by omega) h.a.2 h.a.1 h.c.2 h.c.1
theorem SSok.hid_red {p : Int} {n k o : Nat} {s : SSt} (h : SSok p n k o s) (hf : fdB p = true) : Red p n (hidM p n o s.2.2.2.1 s.2.2.2.2.2.1) := by
  have := h.hn; have := h.ho
  exact hidM_red hf (by omega) h.a.2 h.a.1 h.c.2 h.c.1
theorem red_len {p : Int} {n : Nat} {b : Rows} (hf : fdB p = true) (h : Red p n b) : b.length ≤ n := by
  have := (redM_ok (n := n) (fdB_rng hf).1 h.ok).2.2
  rw [redM_self hf h] at this; exact this
end Go.Proofs.YteikcdofblclhaaDoor
