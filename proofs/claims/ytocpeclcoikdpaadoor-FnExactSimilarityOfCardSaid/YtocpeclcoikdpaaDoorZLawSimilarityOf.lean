/-
  Plain laws: the states that are hidden; minimal state spaces. No program in sight. No condition.
-/
import Derived.Test.YtocpeclcoikdpaaDoorZP27
import Derived.Test.YtocpeclcoikdpaaDoorZP16
namespace Go.Proofs.YtocpeclcoikdpaaDoor
set_option linter.unusedVariables false

theorem nuP_succ (p : Int) (n : Nat) (b : Rows) (j : Nat) : nuP p n b (j + 1) = if isL b j then nuP p n b j else nuP p n b j ++ [nvL p n b j b.length] := rfl
theorem spNull_ {p : Int} {n : Nat} {m : Rows} (hf : fdB p = true) (hn : n ≤ 1048576) (h : okM p n m) (hL : m.length ≤ 1048576) : F_spec_spNull p (n : Int) m = some (nulM p n m) := by
  have hm : maxN = 1099511627776 := rfl
  have hp := fdB_rng hf
  have hb := redM_red hf h
  have hbl := (redM_ok (n := n) hp.1 h).2.2
  refine bnd (spReduce_ hf (Nat.le_refl n) hn h hL) ?_
  unfold nulM
  generalize redM p n m = b at hb hbl ⊢
  refine bnd (makeO_of 0 (by omega)) ?_
  have hlen : (List.replicate n (0 : Int)).length = n := List.length_replicate
  refine bnd (a := ldL n b 0) ((forS_is (fun j => part (fun _ _ => -1) (List.replicate n 0) j) ?_).trans (by rw [partN]; rfl)) ?_
  · intro j hj
    refine bnd (setO_of _ (by rw [part_len]; exact hj)) ?_
    exact congrArg some (part_set (fun _ _ => -1) (List.replicate n 0) hj)
  refine bnd (forS_is (fun i => ldL n b i) ?_) ?_
  · intro i hi
    have hw := (okM_gr hb.ok hi).1
    exact bnd (idx_gr hi) (bnd (spLead_ (by omega)) (bnd (setO_of _ (by rw [ldL_len]; exact hb.lt i hi)) rfl))
  refine bnd (whileO_is (fun j => (nuP p n b j, (j : Int))) (t := nuP p n b n) n ?_ ?_) ?_
  · intro j hj
    dsimp only
    refine stp (cTW (dT (by omega)) (bnd (a := nuP p n b (j + 1)) ?_ (bnd (addO_of (by omega) (by omega)) rfl)))
    refine bnd (idx_el (by rw [ldL_len]; exact hj)) (stp ?_)
    have h1 := ldL_el hb.lt hj b.length (Nat.le_refl _)
    rw [← isL_iff] at h1
    rw [nuP_succ]
    by_cases h2 : isL b j = true
    · rw [if_pos h2]; exact cTW (dT (h1.2 h2)) rfl
    · rw [if_neg h2]
      refine cFW (dF (fun h3 => h2 (h1.1 h3))) (bnd (makeO_of 0 (by omega)) (bnd (setO_of _ (by rw [hlen]; exact hj)) (bnd (forS_is (fun i => nvL p n b j i) ?_) (bnd (appO_of (by have := (nuP_ok (n := n) (b := b) hp.1 j).2; show _ + 1 ≤ _; omega)) rfl))))
      intro i hi
      have hw := (okM_gr hb.ok hi).1
      exact bnd (idx_gr hi) (bnd (idx_gr hi) (bnd (idx_el (by omega)) (bnd (spLead_ (by omega)) (bnd (fdNeg_ hp (okM_el hb.ok hi hj)) (bnd (setO_of _ (by rw [(nvL_ok hp.1 i).1]; exact hb.lt i hi)) rfl)))))
  · dsimp only
    exact stp (cFW (dF (by omega)) rfl)
  exact bnd (spReduce_ hf (Nat.le_refl n) hn (nuP_ok hp.1 n).1 (by have := (nuP_ok (n := n) (b := b) hp.1 n).2; omega)) rfl

/-! ### rows and columns exchanged -/
def colM (m : Rows) (j : Nat) : List Int := m.map fun r => el r j
def trM (m : Rows) (cols : Nat) : Rows := (List.replicate cols ([] : List Int)).mapIdx fun j _ => colM m j
theorem trM_len (m : Rows) (cols : Nat) : (trM m cols).length = cols := by simp [trM]
theorem trM_gr {m : Rows} {cols j : Nat} (hj : j < cols) : gr (trM m cols) j = colM m j := by
  unfold trM gr
  rw [List.getD_eq_getElem?_getD, List.getElem?_mapIdx, List.getElem?_replicate, if_pos hj]
  rfl
theorem colM_el {m : Rows} {i j : Nat} (hi : i < m.length) : el (colM m j) i = el (gr m i) j := by
  have h1 := el_get (r := colM m j) (c := i) (by simp [colM]; exact hi)
  unfold colM at h1
  rw [List.getElem?_map, gr_get hi] at h1
  exact (Option.some.inj h1).symm
theorem trM_ok {p : Int} {w cols : Nat} {m : Rows} (h : okM p w m) (hc : cols ≤ w) : okM p m.length (trM m cols) := by
  intro r hr
  obtain ⟨j, hj, rfl⟩ := List.mem_iff_getElem.1 hr
  rw [trM_len] at hj
  have e : (trM m cols)[j] = colM m j := by
    rw [← trM_gr hj]
    have := gr_get (m := trM m cols) (i := j) (by rw [trM_len]; exact hj)
    rw [List.getElem?_eq_getElem (by rw [trM_len]; exact hj)] at this; exact Option.some.inj this
  rw [e]
  refine ⟨by simp [colM], fun x hx => ?_⟩
  obtain ⟨r, hr, rfl⟩ := List.mem_map.1 hx
  have h1 := h r hr
  exact h1.2 _ (el_mem (by omega))
theorem ssTurn_ {m : Rows} {cols w : Nat} (hc : cols ≤ 1048576) (hL : m.length ≤ 1048576) (hw : ∀ r ∈ m, cols ≤ r.length) : F_spec_ssTurn m (cols : Int) = some (trM m cols) := by
  have hm : maxN = 1099511627776 := rfl
  refine bnd (makeO_of [] (by omega)) (bnd (a := trM m cols) ?_ rfl)
  have hlen : (List.replicate cols ([] : List Int)).length = cols := List.length_replicate
  refine (forS_is (fun j => partG (fun j _ => colM m j) (List.replicate cols ([] : List Int)) j) ?_).trans (by rw [partGN]; rfl)
  intro j hj
  have hj' : j < cols := by rw [hlen] at hj; exact hj
  have hpl : j < (partG (fun j _ => colM m j) (List.replicate cols ([] : List Int)) j).length := by rw [partG_len]; exact hj
  have hg : gr (partG (fun j _ => colM m j) (List.replicate cols ([] : List Int)) j) j = [] := by
    rw [gr_part hj, if_neg (by omega)]
    unfold gr; rw [List.getD_eq_getElem?_getD, List.getElem?_replicate, if_pos hj']; rfl
  have e1 : partG (fun j _ => colM m j) (List.replicate cols ([] : List Int)) j = (partG (fun j _ => colM m j) (List.replicate cols ([] : List Int)) j).set j ((m.take 0).map fun r => el r j) := by
    conv => lhs; rw [← set_gr hpl, hg]
    rfl
  have e2 := part_setG (g := fun j _ => colM m j) (m := List.replicate cols ([] : List Int)) hj
  refine bnd (a := partG (fun j _ => colM m j) (List.replicate cols ([] : List Int)) (j + 1)) ?_ rfl
  rw [← e2]
  conv => lhs; rw [e1]
  refine (forS_is (fun k => (partG (fun j _ => colM m j) (List.replicate cols ([] : List Int)) j).set j ((m.take k).map fun r => el r j)) ?_).trans (by rw [List.take_length]; rfl)
  intro k hk
  have hset : j < ((partG (fun j _ => colM m j) (List.replicate cols ([] : List Int)) j).set j ((m.take k).map fun r => el r j)).length := by rw [List.length_set]; exact hpl
  refine bnd (idx_gr hk) (bnd (idx_gr hset) (bnd (idx_el (by have := hw _ (gr_mem hk); omega)) ?_))
  rw [gr_set hpl, if_pos rfl]
  refine bnd (appO_of (by simp; omega)) (bnd (setO_of _ hset) ?_)
  rw [List.set_set, List.take_add_one, gr_get hk, List.map_append]
  rfl

/-! ### products with zero -/
theorem lperp_cat {p : Int} {w o : Nat} {m a : Rows} {x : List Int} (hl : a.length = m.length) (h : okM p w m) : lperp p (w + o) (catM m a) x ↔ lperp p w m x ∧ lperp p o a x := by
  have e : ∀ c, sg (catM m a).length (fun t => el x t * el (gr (catM m a) t) c) = sg m.length (fun t => el x t * (if c < w then el (gr m t) c else el (gr a t) (c - w))) := fun c => by
    rw [catM_len hl]
    exact sg_congr fun t ht => by rw [catM_gr hl, el_app, (h _ (gr_mem ht)).1]
  constructor
  · intro hx
    refine ⟨fun c hc => ?_, fun c hc => ?_⟩
    · have := hx c (by omega)
      rw [e c, sg_congr (g := fun t => el x t * el (gr m t) c) (fun t _ => by rw [if_pos hc])] at this
      exact this
    · have := hx (w + c) (by omega)
      rw [e, sg_congr (g := fun t => el x t * el (gr a t) c) (fun t _ => by rw [if_neg (by omega), show w + c - w = c by omega])] at this
      rw [hl]; exact this
  · rintro ⟨h1, h2⟩ c hc
    rw [e c]
    by_cases hcw : c < w
    · rw [sg_congr (g := fun t => el x t * el (gr m t) c) (fun t _ => by rw [if_pos hcw])]
      exact h1 c hcw
    · rw [sg_congr (g := fun t => el x t * el (gr a t) (c - w)) (fun t _ => by rw [if_neg hcw]), ← hl]
      exact h2 _ (by omega)
/-- x A c is the product of x A and c -/
theorem lperp_mul {p : Int} {n o : Nat} {A c : Rows} {x : List Int} (hp : 2 ≤ p) (hA : okM p n A) (hAl : A.length = n) (hc : okM p o c) (hcl : c.length = n) (hx : x.length = n) :
    lperp p o (mulM p o A c) x ↔ lperp p o c (combR p n A x) := by
  have key : ∀ j, j < o → sg (mulM p o A c).length (fun t => el x t * el (gr (mulM p o A c) t) j) % p = sg c.length (fun i => el (combR p n A x) i * el (gr c i) j) % p := by
    intro j hj
    have g1 : ∀ t, t < A.length → gr (mulM p o A c) t = combR p o c (gr A t) := fun t ht => by
      have h1 := gr_get (m := mulM p o A c) (i := t) (by rw [mulM_len]; exact ht)
      unfold mulM at h1
      rw [List.getElem?_map, gr_get ht] at h1
      exact (Option.some.inj h1).symm
    rw [mulM_len, hAl, hcl]
    rw [sg_mod (g := fun t => el x t * sg n (fun i => el (gr A t) i * el (gr c i) j)) (fun t ht => by
      rw [g1 t (by omega), el_combR hp hc (by rw [(hA _ (gr_mem (by omega))).1]; omega) hj, mul_mod2, hcl])]
    rw [sg_mod (f := fun i => el (combR p n A x) i * el (gr c i) j) (g := fun i => sg n (fun t => el x t * el (gr A t) i) * el (gr c i) j) (fun i hi => by
      rw [el_combR hp hA (by omega) hi, mul_mod1, hAl])]
    congr 1
    rw [sg_congr (g := fun t => sg n (fun i => el x t * (el (gr A t) i * el (gr c i) j))) (fun t _ => (sg_mul _ _ _).symm), sg_comm]
    refine sg_congr fun i _ => ?_
    rw [← sg_mulr]
    exact sg_congr fun t _ => (Int.mul_assoc _ _ _).symm
  constructor
  · intro h j hj; rw [← key j hj]; exact h j hj
  · intro h j hj; rw [key j hj]; exact h j hj
theorem perp_mul {p : Int} {n : Nat} {A R : Rows} {x : List Int} (hp : 2 ≤ p) (hA : okM p n A) (hAl : A.length = n) (hR : okM p n R) (hx : x.length = n) :
    perp p n (mulM p n R (trM A n)) x ↔ perp p n R (combR p n A x) := by
  have hT : okM p n (trM A n) := by have := trM_ok hA (Nat.le_refl n); rw [hAl] at this; exact this
  have key : ∀ i, i < R.length → sg n (fun c => el (gr (mulM p n R (trM A n)) i) c * el x c) % p = sg n (fun t => el (gr R i) t * el (combR p n A x) t) % p := by
    intro i hi
    have g1 : gr (mulM p n R (trM A n)) i = combR p n (trM A n) (gr R i) := by
      have h1 := gr_get (m := mulM p n R (trM A n)) (i := i) (by rw [mulM_len]; exact hi)
      unfold mulM at h1
      rw [List.getElem?_map, gr_get hi] at h1
      exact (Option.some.inj h1).symm
    rw [g1]
    rw [sg_mod (g := fun c => sg n (fun t => el (gr R i) t * el (gr A c) t) * el x c) (fun c hc => by
      rw [el_combR hp hT (by rw [trM_len, (hR _ (gr_mem hi)).1]; exact Nat.le_refl _) hc, mul_mod1, trM_len]
      congr 2
      exact sg_congr fun t ht => by rw [trM_gr ht, colM_el (by omega)])]
    rw [sg_mod (f := fun t => el (gr R i) t * el (combR p n A x) t) (g := fun t => el (gr R i) t * sg n (fun c => el x c * el (gr A c) t)) (fun t ht => by
      rw [el_combR hp hA (by omega) ht, mul_mod2, hAl])]
    congr 1
    rw [sg_congr (g := fun c => sg n (fun t => el (gr R i) t * el (gr A c) t * el x c)) (fun c _ => (sg_mulr _ _ _).symm), sg_comm]
    refine sg_congr fun t _ => ?_
    rw [← sg_mul]
    exact sg_congr fun c _ => by rw [Int.mul_assoc, Int.mul_comm (el (gr A c) t)]
  constructor
  · intro h i hi; rw [← key i hi]; exact h i (by rw [mulM_len]; exact hi)
  · intro h i hi; rw [mulM_len] at hi; rw [key i hi]; exact h i hi
theorem perp_app {p : Int} {n : Nat} {a b : Rows} {x : List Int} : perp p n (a ++ b) x ↔ perp p n a x ∧ perp p n b x :=
  ⟨fun h => ⟨perp_sub h span_app1, perp_sub h span_app2⟩, fun ⟨h1, h2⟩ i hi => by
    by_cases h : i < a.length
    · rw [gr_app1 h]; exact h1 i h
    · rw [List.length_append] at hi
      rw [show i = a.length + (i - a.length) by omega, gr_app2]; exact h2 _ (by omega)⟩
theorem perp_red {p : Int} {n : Nat} {m : Rows} {x : List Int} (hf : fdB p = true) (h : okM p n m) : perp p n (redM p n m) x ↔ perp p n m x :=
  ⟨fun hx => perp_sub hx (redM_span hf h).2, fun hx => perp_sub hx (redM_span hf h).1⟩

/-! ### the states that are hidden -/
def cols (p : Int) (o : Nat) (A C : Rows) : Nat → Rows
  | 0 => C
  | k + 1 => mulM p o A (cols p o A C k)
section
variable {p : Int} {n o : Nat} {A C : Rows}
theorem cols_ok (hf : fdB p = true) (ho : o ≤ 200) (hA : okM p n A) (hAl : A.length = n) (hC : okM p o C) (hCl : C.length = n) : ∀ k, okM p o (cols p o A C k) ∧ (cols p o A C k).length = n
  | 0 => ⟨hC, hCl⟩
  | k + 1 => by
    have hm : maxN = 1099511627776 := rfl
    obtain ⟨h1, h2⟩ := cols_ok hf ho hA hAl hC hCl k
    exact ⟨mulM_ok (fdB_rng hf) (by omega) h1 hA (by omega), by unfold cols; rw [mulM_len, hAl]⟩
theorem rc_perp (hf : fdB p = true) (hn : n ≤ 200) (ho : o ≤ 200) (hA : okM p n A) (hAl : A.length = n) (hC : okM p o C) (hCl : C.length = n) : ∀ K (x : List Int), okR p n x →
    (perp p n (rc p n (trM A n) (trM C o) K) x ↔ ∀ t, t ≤ K → lperp p o (cols p o A C t) x)
  | 0, x, hx => by
    have hB : okM p n (trM C o) := by have := trM_ok hC (Nat.le_refl o); rw [hCl] at this; exact this
    have e : perp p n (rc p n (trM A n) (trM C o) 0) x ↔ lperp p o C x := by
      refine (perp_red hf hB).trans ?_
      constructor
      · intro h j hj
        rw [← h j (by rw [trM_len]; exact hj), hCl]
        exact congrArg (· % p) (sg_congr fun i hi => by rw [trM_gr hj, colM_el (by omega), Int.mul_comm])
      · intro h j hj
        rw [trM_len] at hj
        rw [← h j hj, hCl]
        exact congrArg (· % p) (sg_congr fun i hi => by rw [trM_gr hj, colM_el (by omega), Int.mul_comm])
    rw [e]
    exact ⟨fun h t ht => by rw [Nat.le_zero.1 ht]; exact h, fun h => h 0 (Nat.le_refl _)⟩
  | K + 1, x, hx => by
    have hp := fdB_rng hf
    have hT : okM p n (trM A n) := by have := trM_ok hA (Nat.le_refl n); rw [hAl] at this; exact this
    have hB : okM p n (trM C o) := by have := trM_ok hC (Nat.le_refl o); rw [hCl] at this; exact this
    have hR := (rc_red hf hn hT (trM_len A n) hB K).ok
    have hxA : okR p n (combR p n A x) := combR_ok hp.1 hA
    have h1 : perp p n (rc p n (trM A n) (trM C o) (K + 1)) x ↔ _ := (perp_red hf (rc_app hf hn hT (trM_len A n) hB K)).trans perp_app
    rw [h1, perp_mul hp.1 hA hAl hR hx.1, rc_perp hf hn ho hA hAl hC hCl K x hx, rc_perp hf hn ho hA hAl hC hCl K _ hxA]
    constructor
    · rintro ⟨h2, h3⟩ t ht
      cases t with
      | zero => exact h2 0 (by omega)
      | succ t =>
        obtain ⟨k1, k2⟩ := cols_ok hf ho hA hAl hC hCl t
        exact (lperp_mul hp.1 hA hAl k1 k2 hx.1).2 (h3 t (by omega))
    · intro h2
      refine ⟨fun t ht => h2 t (by omega), fun t ht => ?_⟩
      obtain ⟨k1, k2⟩ := cols_ok hf ho hA hAl hC hCl t
      exact (lperp_mul hp.1 hA hAl k1 k2 hx.1).1 (h2 (t + 1) (by omega))
end
section
variable {p : Int} {n : Nat} {A B : Rows}
theorem rc_grow2 (hf : fdB p = true) (hn : n ≤ 200) (hA : okM p n A) (hAl : A.length = n) (hB : okM p n B) : ∀ d, (∀ j, j < d → (rc p n A B (j + 1)).length ≠ (rc p n A B j).length) → (rc p n A B 0).length + d ≤ (rc p n A B d).length
  | 0, _ => Nat.le_refl _
  | d + 1, h => by
    have h1 := rc_grow2 hf hn hA hAl hB d (fun j hj => h j (by omega))
    have h2 := red_len_le (fdB_rng hf).1 (rc_red hf hn hA hAl hB d) (rc_red hf hn hA hAl hB (d + 1)) (rc_step hf hn hA hAl hB d)
    have h3 := h d (by omega)
    omega
theorem rcN_before (hf : fdB p = true) (hn : n ≤ 200) (h0 : 0 < n) (hA : okM p n A) (hAl : A.length = n) (hB : okM p n B) : rcN p n A B = rc p n A B (n - 1) := by
  rcases first_of (P := fun j => (rc p n A B (j + 1)).length = (rc p n A B j).length) n with h | ⟨k, h1, h2, h3⟩
  · exfalso
    have h1 := rc_grow2 hf hn hA hAl hB n h
    have h2 := rc_len hf hn hA hAl hB n
    have h3 : (rc p n A B 0).length = 0 := by omega
    have h4 := h 0 h0
    have h5 : rc p n A B 0 = [] := List.eq_nil_of_length_eq_zero h3
    have h6 : (rc p n A B 1).length ≤ _ := (redM_ok (n := n) (fdB_rng hf).1 (rc_app hf hn hA hAl hB 0)).2.1
    rw [h5, List.length_append, mulM_len] at h6
    rw [h3] at h4
    simp at h6
    exact h4 (by rw [h6]; rfl)
  · have e1 := rc_stable hf hn hA hAl hB h3 (n - k)
    have e2 := rc_stable hf hn hA hAl hB h3 (n - 1 - k)
    rw [show k + (n - k) = n by omega] at e1
    rw [show k + (n - 1 - k) = n - 1 by omega] at e2
    unfold rcN
    rw [e1, e2]
end
def seenM (p : Int) (n o : Nat) (A C : Rows) : Nat → Rows
  | 0 => List.replicate n []
  | k + 1 => catM (seenM p n o A C k) (cols p o A C k)
section
variable {p : Int} {n o : Nat} {A C : Rows}
theorem seen_ok (hf : fdB p = true) (ho : o ≤ 200) (hA : okM p n A) (hAl : A.length = n) (hC : okM p o C) (hCl : C.length = n) : ∀ k, okM p (k * o) (seenM p n o A C k) ∧ (seenM p n o A C k).length = n
  | 0 => ⟨fun r hr => by
      rw [List.eq_of_mem_replicate hr]
      exact ⟨by simp, fun x hx => nomatch hx⟩, by simp [seenM]⟩
  | k + 1 => by
    obtain ⟨h1, h2⟩ := seen_ok hf ho hA hAl hC hCl k
    obtain ⟨k1, k2⟩ := cols_ok hf ho hA hAl hC hCl k
    unfold seenM
    rw [Nat.succ_mul]
    exact ⟨catM_ok (by omega) h1 k1, by rw [catM_len (by omega)]; exact h2⟩
theorem seen_perp (hf : fdB p = true) (ho : o ≤ 200) (hA : okM p n A) (hAl : A.length = n) (hC : okM p o C) (hCl : C.length = n) (x : List Int) : ∀ k, (lperp p (k * o) (seenM p n o A C k) x ↔ ∀ t, t < k → lperp p o (cols p o A C t) x)
  | 0 => ⟨fun _ t ht => by omega, fun _ c hc => by omega⟩
  | k + 1 => by
    obtain ⟨h1, h2⟩ := seen_ok hf ho hA hAl hC hCl k
    obtain ⟨k1, k2⟩ := cols_ok hf ho hA hAl hC hCl k
    unfold seenM
    rw [Nat.succ_mul, lperp_cat (by omega) h1, seen_perp hf ho hA hAl hC hCl x k]
    constructor
    · rintro ⟨h3, h4⟩ t ht
      by_cases htk : t = k
      · rw [htk]; exact h4
      · exact h3 t (by omega)
    · intro h3
      exact ⟨fun t ht => h3 t (by omega), h3 k (by omega)⟩
/-- the states that are hidden -/
def hidM (p : Int) (n o : Nat) (A C : Rows) : Rows := kerM p (n * o) (seenM p n o A C n)
theorem hid_eq (hf : fdB p = true) (hn : n ≤ 200) (ho : o ≤ 200) (hA : okM p n A) (hAl : A.length = n) (hC : okM p o C) (hCl : C.length = n) : hidM p n o A C = nulM p n (rcN p n (trM A n) (trM C o)) := by
  have hp := fdB_rng hf
  obtain ⟨h1, h2⟩ := seen_ok hf ho hA hAl hC hCl n
  have hT : okM p n (trM A n) := by have := trM_ok hA (Nat.le_refl n); rw [hAl] at this; exact this
  have hB : okM p n (trM C o) := by have := trM_ok hC (Nat.le_refl o); rw [hCl] at this; exact this
  have r1 : Red p n (hidM p n o A C) := by have := kerM_red hf h1; rw [h2] at this; exact this
  have r2 : Red p n (nulM p n (rcN p n (trM A n) (trM C o))) := nulM_red hf
  have hR := (rcN_red hf hn hT (trM_len A n) hB).ok
  have main : ∀ x : List Int, okR p n x → (inSpan p n (hidM p n o A C) x ↔ inSpan p n (nulM p n (rcN p n (trM A n) (trM C o))) x) := by
    intro x hx
    have k1 := kerM_iff hf h1 x
    rw [h2] at k1
    rw [nulM_iff hf hR x]
    refine k1.trans ((seen_perp hf ho hA hAl hC hCl x n).trans ?_)
    by_cases h0 : 0 < n
    · rw [rcN_before hf hn h0 hT (trM_len A n) hB, rc_perp hf hn ho hA hAl hC hCl (n - 1) x hx]
      exact ⟨fun h t ht => h t (by omega), fun h t ht => h t (by omega)⟩
    · refine ⟨fun _ i hi => ?_, fun _ t ht => by omega⟩
      have : n = 0 := by omega
      subst this
      exact Int.zero_emod p
  exact red_unique hp.1 r1 r2 (fun i hi => (main _ (okM_gr r1.ok hi)).1 (inSpan_row hi)) (fun i hi => (main _ (okM_gr r2.ok hi)).2 (inSpan_row hi))
end
theorem catM_map {m a : Rows} (hl : a.length = m.length) : m.mapIdx (fun i r => r ++ gr a i) = catM m a := by
  refine List.ext_getElem (by rw [List.length_mapIdx, catM_len hl]) (fun i h1 h2 => ?_)
  rw [List.length_mapIdx] at h1
  have e : gr a i = a[i]'(by omega) := by have := gr_get (m := a) (i := i) (by omega); rw [List.getElem?_eq_getElem (by omega)] at this; exact (Option.some.inj this).symm
  simp only [catM, List.getElem_mapIdx, List.getElem_zipWith, e]
theorem hiddenI_ {p : Int} {n o : Nat} {s : SSt} (hf : fdB p = true) (h1 : s.1 = (n : Int)) (h3 : s.2.2.1 = (o : Int)) (hn : n ≤ 200) (ho : o ≤ 200) (hA : okM p n s.2.2.2.1) (hAl : s.2.2.2.1.length = n) (hC : okM p o s.2.2.2.2.2.1) (hCl : s.2.2.2.2.2.1.length = n) :
    F_impl_StateSpace_hidden s p = some (hidM p n o s.2.2.2.1 s.2.2.2.2.2.1) := by
  have hm : maxN = 1099511627776 := rfl
  obtain ⟨s1, ki, ko, A, B, C, D⟩ := s
  dsimp only at h1 h3 hA hAl hC hCl ⊢
  subst h1
  subst h3
  have hno : n * o ≤ 200 * 200 := Nat.mul_le_mul hn ho
  refine bnd (makeO_of [] (by omega)) (bnd (clones_ (m := C) (by omega) (rowsP_len hC (by omega))) (bnd (cI_of ⟨by omega, by omega⟩) (bnd (forS_is (fun k => (seenM p n o A C k, cols p o A C k)) ?_) ?_)))
  · intro k hk
    rw [Int.toNat_natCast] at hk
    obtain ⟨s1, s2⟩ := seen_ok hf ho hA hAl hC hCl k
    obtain ⟨c1, c2⟩ := cols_ok hf ho hA hAl hC hCl k
    have hko : k * o ≤ 200 * 200 := Nat.mul_le_mul (by omega) ho
    refine bnd (a := seenM p n o A C (k + 1)) ?_ (bnd (product_ (rows := A) (m := cols p o A C k) (fdB_rng hf) (by omega) c1 hA (by omega) (by omega)) rfl)
    refine (forS_is (fun j => partG (fun i r => r ++ gr (cols p o A C k) i) (seenM p n o A C k) j) ?_).trans (by rw [partGN, catM_map (by omega)]; rfl)
    intro j hj
    replace hj : j < (seenM p n o A C k).length := hj
    have hpl : j < (partG (fun i r => r ++ gr (cols p o A C k) i) (seenM p n o A C k) j).length := by rw [partG_len]; exact hj
    have hg : gr (partG (fun i r => r ++ gr (cols p o A C k) i) (seenM p n o A C k) j) j = gr (seenM p n o A C k) j := by rw [gr_part hj, if_neg (by omega)]
    have e2 := part_setG (g := fun i r => r ++ gr (cols p o A C k) i) (m := seenM p n o A C k) hj
    refine bnd (idx_gr hpl) (bnd (idx_gr (m := cols p o A C k) (by omega)) ?_)
    rw [hg]
    have w1 := (okM_gr s1 hj).1
    have w2 := (okM_gr c1 (i := j) (by omega)).1
    refine bnd (appO_of (by omega)) (bnd (setO_of _ hpl) ?_)
    exact congrArg some e2
  · obtain ⟨s1, s2⟩ := seen_ok hf ho hA hAl hC hCl n
    have e : ((n : Int) * (o : Int)) = ((n * o : Nat) : Int) := (Int.natCast_mul n o).symm
    refine bnd (a := ((n * o : Nat) : Int)) ((mulO_of (by rw [e]; omega) (by rw [e]; omega)).trans (by rw [e])) (bnd (kernel_ (m := seenM p n o A C n) hf (by omega) s1 (by omega)) rfl)
theorem hiddenS_ {p : Int} {n o : Nat} {s : SSt} (hf : fdB p = true) (h1 : s.1 = (n : Int)) (h3 : s.2.2.1 = (o : Int)) (hn : n ≤ 200) (ho : o ≤ 200) (hA : okM p n s.2.2.2.1) (hAl : s.2.2.2.1.length = n) (hC : okM p o s.2.2.2.2.2.1) (hCl : s.2.2.2.2.2.1.length = n) :
    F_spec_ssHidden p s = some (hidM p n o s.2.2.2.1 s.2.2.2.2.2.1) := by
  have hm : maxN = 1099511627776 := rfl
  obtain ⟨s1, ki, ko, A, B, C, D⟩ := s
  dsimp only at h1 h3 hA hAl hC hCl ⊢
  subst h1
  subst h3
  rw [hid_eq hf hn ho hA hAl hC hCl]
  have hT : okM p n (trM A n) := by have := trM_ok hA (Nat.le_refl n); rw [hAl] at this; exact this
  have hB : okM p n (trM C o) := by have := trM_ok hC (Nat.le_refl o); rw [hCl] at this; exact this
  refine bnd (bnd (ssTurn_ (m := A) (cols := n) (w := n) (by omega) (by omega) (fun r hr => by rw [(hA r hr).1]; exact Nat.le_refl _)) (bnd (ssTurn_ (m := C) (cols := o) (w := o) (by omega) (by omega) (fun r hr => by rw [(hC r hr).1]; exact Nat.le_refl _)) rfl)) ?_
  refine bnd (a := trM C o) (forS_is (fun _ => trM C o) ?_) ?_
  · intro j hj
    have hj' : j < o := by have : j < (trM C o).length := hj; rw [trM_len] at this; exact this
    have hjl : j < (trM C o).length := hj
    have hw := (okM_gr hB hjl).1
    refine bnd (idx_gr hjl) (stp ?_)
    by_cases h0 : n = 0
    · refine cTW (dT (by omega)) (bnd (makeO_of 0 (by omega)) (bnd (setO_of _ hjl) ?_))
      have e : gr (trM C o) j = List.replicate n 0 := by rw [h0]; exact List.eq_nil_of_length_eq_zero (by omega)
      rw [← e, set_gr hjl]
    · exact cFW (dF (by omega)) rfl
  · refine bnd (ssReach_ (s := ((n : Int), (o : Int), 0, trM A n, trM C o, [], [])) hf rfl hn hT (trM_len A n) hB (by show (trM C o).length ≤ _; rw [trM_len]; omega)) ?_
    have hl := rcN_len hf hn hT (trM_len A n) hB
    exact bnd (spNull_ (m := rcN p n (trM A n) (trM C o)) hf (by omega) (rcN_red hf hn hT (trM_len A n) hB).ok (by omega)) rfl
theorem SSok.hidS {p : Int} {n k o : Nat} {s : SSt} (h : SSok p n k o s) (hf : fdB p = true) : F_spec_ssHidden p s = some (hidM p n o s.2.2.2.1 s.2.2.2.2.2.1) := by
  have := h.hn; have := h.ho
  exact hiddenS_ hf h.h1 h.h3 (by omega) (by omega) h.a.2 h.a.1 h.c.2 h.c.1
theorem SSok.hidI {p : Int} {n k o : Nat} {s : SSt} (h : SSok p n k o s) (hf : fdB p = true) : F_impl_StateSpace_hidden s p = some (hidM p n o s.2.2.2.1 s.2.2.2.2.2.1) := by
  have := h.hn; have := h.ho
  exact hiddenI_ hf h.h1 h.h3 (by omega) (by omega) h.a.2 h.a.1 h.c.2 h.c.1
theorem red_len {p : Int} {n : Nat} {b : Rows} (hf : fdB p = true) (h : Red p n b) : b.length ≤ n := by
  have := (redM_ok (n := n) (fdB_rng hf).1 h.ok).2.2
  rw [redM_self hf h] at this; exact this
def minB (p : Int) (s : SSt) : Bool := decide (((rcN p s.1.toNat s.2.2.2.1 s.2.2.2.2.1).length : Int) = s.1) && decide (((hidM p s.1.toNat s.2.2.1.toNat s.2.2.2.1 s.2.2.2.2.2.1).length : Int) = 0)
end Go.Proofs.YtocpeclcoikdpaaDoor
namespace Go.Proofs.YtocpeclcoikdpaaDoor
set_option linter.unusedVariables false

/-! ### cleared vectors -/

/-! ### without the states that are not reached -/

/-! ### without the states that are hidden -/
end Go.Proofs.YtocpeclcoikdpaaDoor
namespace Go.Proofs.YtocpeclcoikdpaaDoor
set_option linter.unusedVariables false

/-! ### powers -/
def pw (p : Int) (n : Nat) (A B : Rows) : Nat → Rows
  | 0 => B
  | k + 1 => mulM p n (pw p n A B k) A
def stk (p : Int) (n : Nat) (A B : Rows) : Nat → Rows
  | 0 => []
  | k + 1 => stk p n A B k ++ pw p n A B k
theorem gr_mulM {p : Int} {o : Nat} {R M : Rows} {t : Nat} (ht : t < R.length) : gr (mulM p o R M) t = combR p o M (gr R t) := by
  have h1 := gr_get (m := mulM p o R M) (i := t) (by rw [mulM_len]; exact ht)
  unfold mulM at h1
  rw [List.getElem?_map, gr_get ht] at h1
  exact (Option.some.inj h1).symm
section
variable {p : Int} {n k : Nat} {A B : Rows}
theorem pw_ok (hf : fdB p = true) (hn : n ≤ 200) (hA : okM p n A) (hAl : A.length = n) (hB : okM p n B) (hBl : B.length = k) : ∀ j, okM p n (pw p n A B j) ∧ (pw p n A B j).length = k
  | 0 => ⟨hB, hBl⟩
  | j + 1 => by
    have hm : maxN = 1099511627776 := rfl
    obtain ⟨h1, h2⟩ := pw_ok hf hn hA hAl hB hBl j
    exact ⟨mulM_ok (fdB_rng hf) (by omega) hA h1 (by omega), by unfold pw; rw [mulM_len, h2]⟩
theorem stk_ok (hf : fdB p = true) (hn : n ≤ 200) (hA : okM p n A) (hAl : A.length = n) (hB : okM p n B) (hBl : B.length = k) : ∀ j, okM p n (stk p n A B j) ∧ (stk p n A B j).length = j * k
  | 0 => ⟨fun r hr => by simp [stk] at hr, by simp [stk]⟩
  | j + 1 => by
    obtain ⟨h1, h2⟩ := stk_ok hf hn hA hAl hB hBl j
    obtain ⟨k1, k2⟩ := pw_ok hf hn hA hAl hB hBl j
    exact ⟨okM_app h1 k1, by unfold stk; rw [List.length_append, h2, k2, Nat.succ_mul]⟩
theorem mulM_app (p : Int) (n : Nat) (R S A : Rows) : mulM p n (R ++ S) A = mulM p n R A ++ mulM p n S A := by unfold mulM; rw [List.map_append]
/-- a span goes over into a span -/
theorem mulM_span {R S : Rows} (hf : fdB p = true) (hA : okM p n A) (hAl : A.length = n) (hR : okM p n R) (hS : okM p n S) (h : subSpan p n R S) : subSpan p n (mulM p n R A) (mulM p n S A) := by
  have hp := (fdB_rng hf).1
  intro i hi
  rw [mulM_len] at hi
  obtain ⟨x, hx⟩ := h i hi
  refine ⟨x, fun j hj => ?_⟩
  rw [gr_mulM hi, mulM_len, el_combR hp hA (by rw [(hR _ (gr_mem hi)).1]; omega) hj, mod_mod]
  rw [sg_mod (f := fun t => el (gr R i) t * el (gr A t) j) (g := fun t => sg S.length (fun q => x q * el (gr S q) t) * el (gr A t) j) (fun t ht => by
    rw [← mul_mod1, hx t (by omega), mul_mod1])]
  rw [sg_mod (f := fun q => x q * el (gr (mulM p n S A) q) j) (g := fun q => x q * sg A.length (fun t => el (gr S q) t * el (gr A t) j)) (fun q hq => by
    rw [gr_mulM hq, el_combR hp hA (by rw [(hS _ (gr_mem hq)).1]; omega) hj, mul_mod2])]
  congr 1
  rw [sg_congr (g := fun t => sg S.length (fun q => x q * el (gr S q) t * el (gr A t) j)) (fun t _ => (sg_mulr _ _ _).symm), sg_comm]
  refine sg_congr fun q _ => ?_
  rw [← sg_mul]
  exact sg_congr fun t _ => Int.mul_assoc _ _ _
theorem stk_step (hf : fdB p = true) (hn : n ≤ 200) (hA : okM p n A) (hAl : A.length = n) (hB : okM p n B) (hBl : B.length = k) : ∀ j, subSpan p n (mulM p n (stk p n A B j) A) (stk p n A B (j + 1))
  | 0 => fun i hi => by simp [stk, mulM] at hi
  | j + 1 => by
    have e : mulM p n (stk p n A B (j + 1)) A = mulM p n (stk p n A B j) A ++ pw p n A B (j + 1) := mulM_app p n _ _ A
    rw [e]
    exact app_span (subSpan_trans (stk_step hf hn hA hAl hB hBl j) span_app1) span_app2
theorem rc_stk (hf : fdB p = true) (hn : n ≤ 200) (hA : okM p n A) (hAl : A.length = n) (hB : okM p n B) (hBl : B.length = k) : ∀ j, subSpan p n (rc p n A B j) (stk p n A B (j + 1))
  | 0 => subSpan_trans (redM_span hf hB).1 (by show subSpan p n B ([] ++ B); rw [List.nil_append]; exact subSpan_refl p n B)
  | j + 1 => by
    have ih := rc_stk hf hn hA hAl hB hBl j
    refine subSpan_trans (redM_span hf (rc_app hf hn hA hAl hB j)).1 (app_span (subSpan_trans ih span_app1) ?_)
    exact subSpan_trans (mulM_span hf hA hAl (rc_red hf hn hA hAl hB j).ok (stk_ok hf hn hA hAl hB hBl (j + 1)).1 ih) (stk_step hf hn hA hAl hB hBl (j + 1))
/-- all that is reached is reached in n steps -/
theorem rcN_stk (hf : fdB p = true) (hn : n ≤ 200) (hA : okM p n A) (hAl : A.length = n) (hB : okM p n B) (hBl : B.length = k) : subSpan p n (rcN p n A B) (stk p n A B n) := by
  rcases Nat.eq_zero_or_pos n with h0 | h0
  · intro i hi
    have := (rcN_red hf hn hA hAl hB).lt i hi
    omega
  · rw [rcN_before hf hn h0 hA hAl hB]
    have := rc_stk hf hn hA hAl hB hBl (n - 1)
    rwa [show n - 1 + 1 = n by omega] at this
end

/-! ### reduced lists with all leads -/
theorem red_full {p : Int} {n : Nat} {b : Rows} (h : Red p n b) (hl : b.length = n) {i j : Nat} (hi : i < n) : leadN (gr b i) = i ∧ (j < n → el (gr b i) j = if i = j then 1 else 0) := by
  have hid := inc_id (g := fun i => leadN (gr b i)) (k := n) (fun i hi => h.lt i (by omega)) (fun i j hij hj => h.inc i j hij (by omega))
  refine ⟨hid i hi, fun hj => ?_⟩
  by_cases hij : i = j
  · subst hij
    rw [if_pos rfl]
    have := h.one i (by omega)
    rwa [hid i hi] at this
  · rw [if_neg hij]
    have := h.zero j i (by omega) (by omega) (Ne.symm hij)
    rwa [hid j hj] at this
theorem red_whole {p : Int} {n : Nat} {b : Rows} (h : Red p n b) (hl : b.length = n) (v : List Int) : inSpan p n b v := by
  refine ⟨fun i => el v i, fun j hj => ?_⟩
  rw [hl, sg_one (i0 := j) hj (fun i hi hne => by rw [(red_full h hl hi).2 hj, if_neg hne, Int.mul_zero]), (red_full h hl hj).2 hj, if_pos rfl, Int.mul_one]
theorem whole_len {p : Int} {n : Nat} {b : Rows} (hf : fdB p = true) (h : Red p n b) (hw : ∀ v, inSpan p n b v) {R : Rows} (hR : Red p n R) (hl : R.length = n) : b.length = n := by
  have h1 := red_len_le (fdB_rng hf).1 hR h (fun i _ => hw _)
  have h2 := red_len hf h
  omega
end Go.Proofs.YtocpeclcoikdpaaDoor
namespace Go.Proofs.YtocpeclcoikdpaaDoor
set_option linter.unusedVariables false

theorem el_drop3 (a : List Int) (k q : Nat) : el (a.drop k) q = el a (k + q) := by
  unfold el
  rw [List.getD_eq_getElem?_getD, List.getD_eq_getElem?_getD, List.getElem?_drop]
/-- a row times a column -/
def dt (p : Int) (x : List Int) (M : Rows) (j : Nat) : Int := sg M.length (fun i => el x i * el (gr M i) j) % p
section
variable {p : Int} {n o k : Nat} {A B C : Rows}
theorem dt_mul (hf : fdB p = true) (hA : okM p n A) (hAl : A.length = n) {c : Rows} (hc : okM p o c) (hcl : c.length = n) {x : List Int} (hx : x.length = n) {j : Nat} (hj : j < o) : dt p x (mulM p o A c) j = dt p (combR p n A x) c j := by
  have hp := (fdB_rng hf).1
  unfold dt
  rw [mulM_len, hAl, hcl]
  rw [sg_mod (g := fun t => el x t * sg n (fun i => el (gr A t) i * el (gr c i) j)) (fun t ht => by
    rw [gr_mulM (by omega), el_combR hp hc (by rw [(hA _ (gr_mem (by omega))).1]; omega) hj, mul_mod2, hcl])]
  rw [sg_mod (f := fun i => el (combR p n A x) i * el (gr c i) j) (g := fun i => sg n (fun t => el x t * el (gr A t) i) * el (gr c i) j) (fun i hi => by
    rw [el_combR hp hA (by omega) hi, mul_mod1, hAl])]
  congr 1
  rw [sg_congr (g := fun t => sg n (fun i => el x t * (el (gr A t) i * el (gr c i) j))) (fun t _ => (sg_mul _ _ _).symm), sg_comm]
  refine sg_congr fun i _ => ?_
  rw [← sg_mulr]
  exact sg_congr fun t _ => (Int.mul_assoc _ _ _).symm
theorem dt_cols (hf : fdB p = true) (hn : n ≤ 200) (ho : o ≤ 200) (hA : okM p n A) (hAl : A.length = n) (hB : okM p n B) (hBl : B.length = k) (hC : okM p o C) (hCl : C.length = n) {j : Nat} (hj : j < o) {s : Nat} (hs : s < k) :
    ∀ t i, dt p (gr (pw p n A B i) s) (cols p o A C t) j = dt p (gr (pw p n A B (i + t)) s) C j
  | 0, i => rfl
  | t + 1, i => by
    obtain ⟨h1, h2⟩ := pw_ok hf hn hA hAl hB hBl i
    obtain ⟨c1, c2⟩ := cols_ok hf ho hA hAl hC hCl t
    have e : gr (pw p n A B (i + 1)) s = combR p n A (gr (pw p n A B i) s) := gr_mulM (by omega)
    show dt p _ (mulM p o A (cols p o A C t)) j = _
    rw [dt_mul hf hA hAl c1 c2 (h1 _ (gr_mem (by omega))).1 hj, ← e, dt_cols hf hn ho hA hAl hB hBl hC hCl hj hs t (i + 1), show i + 1 + t = i + (t + 1) by omega]
end
theorem mkv_pw {p : Int} {n o : Nat} {s : SSt} : ∀ m, (mkv p n o s (m + 1)).2 = pw p n s.2.2.2.1 s.2.2.2.2.1 m
  | 0 => rfl
  | m + 1 => by
    show mulM p n (mkv p n o s (m + 1)).2 s.2.2.2.1 = _
    rw [mkv_pw m]; rfl
theorem mkv_pre {p : Int} {n o : Nat} {s : SSt} {k : Nat} (h : SSok p n k o s) : ∀ d q, (mkv p n o s (q + d)).1.take q = (mkv p n o s q).1
  | 0, q => by
    have := (mkv_ok h q).1
    rw [Nat.add_zero, List.take_of_length_le (by omega)]
  | d + 1, q => by
    have hl := (mkv_ok h (q + d)).1
    have ih := mkv_pre h d q
    rw [show q + (d + 1) = (q + d) + 1 by omega, mkv_succ]
    split
    · rw [List.take_append_of_le_length (by omega)]; exact ih
    · rw [List.take_append_of_le_length (by omega)]; exact ih
theorem mkv_at {p : Int} {n k o : Nat} {s : SSt} (h : SSok p n k o s) {m N : Nat} (hm : m + 1 < N) : (mkv p n o s N).1[m + 1]? = some ((o : Int), mulM p o (pw p n s.2.2.2.1 s.2.2.2.2.1 m) s.2.2.2.2.2.1) := by
  have h1 := mkv_pre h (N - (m + 2)) (m + 2)
  rw [show m + 2 + (N - (m + 2)) = N by omega] at h1
  have h2 : (mkv p n o s N).1[m + 1]? = (mkv p n o s (m + 2)).1[m + 1]? := by
    rw [← h1, List.getElem?_take, if_pos (by omega)]
  have hl := (mkv_ok h (m + 1)).1
  rw [h2, show m + 2 = (m + 1) + 1 by omega, mkv_succ, if_neg (by omega)]
  dsimp only
  rw [List.getElem?_append_right (by omega), hl, Nat.sub_self, mkv_pw]
  rfl
/-- two state spaces, both minimal, with the same outputs -/
structure Sim (p : Int) (n n' k o : Nat) (a b : SSt) : Prop where
  hf : fdB p = true
  sa : SSok p n k o a
  sb : SSok p n' k o b
  ra : (rcN p n a.2.2.2.1 a.2.2.2.2.1).length = n
  rb : (rcN p n' b.2.2.2.1 b.2.2.2.2.1).length = n'
  ha : (hidM p n o a.2.2.2.1 a.2.2.2.2.2.1).length = 0
  hb : (hidM p n' o b.2.2.2.1 b.2.2.2.2.2.1).length = 0
  eq : (mkv p n o a (n + n' + 1)).1 = (mkv p n' o b (n + n' + 1)).1
theorem Sim.symm {p : Int} {n n' k o : Nat} {a b : SSt} (h : Sim p n n' k o a b) : Sim p n' n k o b a :=
  ⟨h.hf, h.sb, h.sa, h.rb, h.ra, h.hb, h.ha, by rw [Nat.add_comm n' n]; exact h.eq.symm⟩
section
variable {p : Int} {n n' k o : Nat} {a b : SSt}
theorem Sim.mk0 (h : Sim p n n' k o a b) {m : Nat} (hm : m < n + n') {s j : Nat} (hs : s < k) (hj : j < o) :
    dt p (gr (pw p n a.2.2.2.1 a.2.2.2.2.1 m) s) a.2.2.2.2.2.1 j = dt p (gr (pw p n' b.2.2.2.1 b.2.2.2.2.1 m) s) b.2.2.2.2.2.1 j := by
  have hp := (fdB_rng h.hf).1
  have h1 := mkv_at h.sa (m := m) (N := n + n' + 1) (by omega)
  have h2 := mkv_at h.sb (m := m) (N := n + n' + 1) (by omega)
  rw [h.eq, h2] at h1
  have h3 : mulM p o (pw p n a.2.2.2.1 a.2.2.2.2.1 m) a.2.2.2.2.2.1 = mulM p o (pw p n' b.2.2.2.1 b.2.2.2.2.1 m) b.2.2.2.2.2.1 := (congrArg Prod.snd (Option.some.inj h1)).symm
  have na := h.sa.hn; have nb := h.sb.hn
  obtain ⟨a1, a2⟩ := pw_ok h.hf (by omega) h.sa.a.2 h.sa.a.1 h.sa.b.2 h.sa.b.1 m
  obtain ⟨b1, b2⟩ := pw_ok h.hf (by omega) h.sb.a.2 h.sb.a.1 h.sb.b.2 h.sb.b.1 m
  have ga := gr_mulM (p := p) (o := o) (M := a.2.2.2.2.2.1) (R := pw p n a.2.2.2.1 a.2.2.2.2.1 m) (t := s) (by omega)
  have gb := gr_mulM (p := p) (o := o) (M := b.2.2.2.2.2.1) (R := pw p n' b.2.2.2.1 b.2.2.2.2.1 m) (t := s) (by omega)
  rw [h3, gb] at ga
  unfold dt
  rw [← el_combR hp h.sa.c.2 (by rw [(a1 _ (gr_mem (by omega))).1, h.sa.c.1]; exact Nat.le_refl _) hj, ← el_combR hp h.sb.c.2 (by rw [(b1 _ (gr_mem (by omega))).1, h.sb.c.1]; exact Nat.le_refl _) hj, ga]
/-- the reached states of both, side by side -/
def zz (p : Int) (n n' : Nat) (a b : SSt) (K : Nat) : Rows := catM (stk p n' b.2.2.2.1 b.2.2.2.2.1 K) (stk p n a.2.2.2.1 a.2.2.2.2.1 K)
theorem Sim.stkA (h : Sim p n n' k o a b) (K : Nat) : okM p n (stk p n a.2.2.2.1 a.2.2.2.2.1 K) ∧ (stk p n a.2.2.2.1 a.2.2.2.2.1 K).length = K * k :=
  stk_ok h.hf (by have := h.sa.hn; omega) h.sa.a.2 h.sa.a.1 h.sa.b.2 h.sa.b.1 K
theorem Sim.stkB (h : Sim p n n' k o a b) (K : Nat) : okM p n' (stk p n' b.2.2.2.1 b.2.2.2.2.1 K) ∧ (stk p n' b.2.2.2.1 b.2.2.2.2.1 K).length = K * k := h.symm.stkA K
theorem Sim.zz_ok (h : Sim p n n' k o a b) (K : Nat) : okM p (n' + n) (zz p n n' a b K) ∧ (zz p n n' a b K).length = K * k := by
  obtain ⟨a1, a2⟩ := h.stkA K
  obtain ⟨b1, b2⟩ := h.stkB K
  exact ⟨catM_ok (by omega) b1 a1, by unfold zz; rw [catM_len (by omega), b2]⟩
/-- a row of the stack is a row of a power -/
theorem stk_row {p : Int} {n : Nat} {A B : Rows} {k : Nat} (hl : ∀ j, (pw p n A B j).length = k) : ∀ K i, i < (stk p n A B K).length → ∃ m s, m < K ∧ s < k ∧ i = m * k + s ∧ gr (stk p n A B K) i = gr (pw p n A B m) s
  | 0, i, hi => by simp [stk] at hi
  | K + 1, i, hi => by
    have hlen : ∀ K, (stk p n A B K).length = K * k := by
      intro K
      induction K with
      | zero => simp [stk]
      | succ K ih => unfold stk; rw [List.length_append, ih, hl K, Nat.succ_mul]
    by_cases h : i < (stk p n A B K).length
    · obtain ⟨m, s, h1, h2, h3, h4⟩ := stk_row hl K i h
      refine ⟨m, s, by omega, h2, h3, ?_⟩
      rw [← h4]; exact gr_app1 h
    · have e := hlen (K + 1)
      have e2 := hlen K
      rw [Nat.succ_mul] at e
      refine ⟨K, i - K * k, by omega, by omega, by omega, ?_⟩
      have := gr_app2 (a := stk p n A B K) (b := pw p n A B K) (i - K * k)
      rw [e2, show K * k + (i - K * k) = i by omega] at this
      exact this
/-- what is nothing on one side is nothing on the other -/
theorem Sim.ker (h : Sim p n n' k o a b) {K : Nat} (hK : K ≤ n' + 1) {v : List Int} (hv : inSpan p (n' + n) (zz p n n' a b K) v) (h0 : ∀ j, j < n' → el v j % p = 0) : ∀ j, j < n → el v (n' + j) % p = 0 := by
  have hp := (fdB_rng h.hf).1
  have na := h.sa.hn; have nb := h.sb.hn; have no := h.sa.ho
  obtain ⟨z1, z2⟩ := h.zz_ok K
  obtain ⟨a1, a2⟩ := h.stkA K
  obtain ⟨b1, b2⟩ := h.stkB K
  have pa := pw_ok h.hf (by omega) h.sa.a.2 h.sa.a.1 h.sa.b.2 h.sa.b.1
  have pb := pw_ok h.hf (by omega) h.sb.a.2 h.sb.a.1 h.sb.b.2 h.sb.b.1
  have main : ∀ t, t < n → lperp p o (cols p o a.2.2.2.1 a.2.2.2.2.2.1 t) (v.drop n') := by
    intro t ht j hj
    obtain ⟨ca1, ca2⟩ := cols_ok h.hf (by omega) h.sa.a.2 h.sa.a.1 h.sa.c.2 h.sa.c.1 t
    obtain ⟨cb1, cb2⟩ := cols_ok h.hf (by omega) h.sb.a.2 h.sb.a.1 h.sb.c.2 h.sb.c.1 t
    have hd := dot_span (n := n' + n) (m := zz p n n' a b K) (fun q => if q < n' then el (gr (cols p o b.2.2.2.1 b.2.2.2.2.2.1 t) q) j else - el (gr (cols p o a.2.2.2.1 a.2.2.2.2.2.1 t) (q - n')) j) (fun i hi => ?_) hv
    · rw [sg_app, Int.add_emod, show sg n' (fun q => (if q < n' then el (gr (cols p o b.2.2.2.1 b.2.2.2.2.2.1 t) q) j else - el (gr (cols p o a.2.2.2.1 a.2.2.2.2.2.1 t) (q - n')) j) * el v q) % p = 0 from by
        rw [sg_mod (g := fun _ => 0) (fun q hq => by rw [if_pos hq, mul_mod_zero2 (h0 q hq), Int.zero_emod]), sg_zero (fun _ _ => rfl), Int.zero_emod], Int.zero_add, mod_mod] at hd
      rw [sg_congr (g := fun q => -1 * (el (v.drop n') q * el (gr (cols p o a.2.2.2.1 a.2.2.2.2.2.1 t) q) j)) (fun q hq => by
        rw [if_neg (by omega), show n' + q - n' = q by omega, el_drop3, Int.neg_mul, Int.mul_comm, Int.neg_mul, Int.one_mul]), sg_mul] at hd
      have e : (-1 * sg n (fun q => el (v.drop n') q * el (gr (cols p o a.2.2.2.1 a.2.2.2.2.2.1 t) q) j)) % p = 0 := hd
      rw [ca2]
      have e2 := mul_mod_zero2 (a := -1) e
      rwa [← Int.mul_assoc, show (-1 * -1 : Int) = 1 by decide, Int.one_mul] at e2
    · have hil : i < K * k := by omega
      obtain ⟨m, s, m1, m2, m3, m4⟩ := stk_row (fun j => (pa j).2) K i (by omega)
      obtain ⟨m', s', m1', m2', m3', m4'⟩ := stk_row (fun j => (pb j).2) K i (by omega)
      obtain ⟨rfl, rfl⟩ : m = m' ∧ s = s' := by
        have e : m * k + s = m' * k + s' := by omega
        have hk : 0 < k := by omega
        have d1 : (m * k + s) / k = m := by rw [Nat.mul_comm, Nat.mul_add_div hk, Nat.div_eq_of_lt m2, Nat.add_zero]
        have d2 : (m' * k + s') / k = m' := by rw [Nat.mul_comm, Nat.mul_add_div hk, Nat.div_eq_of_lt m2', Nat.add_zero]
        have : m = m' := by rw [← d1, ← d2, e]
        subst this
        exact ⟨rfl, by omega⟩
      have g : gr (zz p n n' a b K) i = gr (pw p n' b.2.2.2.1 b.2.2.2.2.1 m) s ++ gr (pw p n a.2.2.2.1 a.2.2.2.2.1 m) s := by unfold zz; rw [catM_gr (by omega), m4, m4']
      have lb := ((pb m).1 _ (gr_mem (i := s) (by have := (pb m).2; omega))).1
      have e1 := dt_cols h.hf (by omega) (by omega) h.sa.a.2 h.sa.a.1 h.sa.b.2 h.sa.b.1 h.sa.c.2 h.sa.c.1 hj m2 t m
      have e2 := dt_cols h.hf (by omega) (by omega) h.sb.a.2 h.sb.a.1 h.sb.b.2 h.sb.b.1 h.sb.c.2 h.sb.c.1 hj m2 t m
      have e3 := h.mk0 (m := m + t) (by omega) m2 hj
      rw [← e1, ← e2] at e3
      unfold dt at e3
      rw [ca2, cb2] at e3
      rw [g, sg_app]
      rw [sg_congr (g := fun q => el (gr (pw p n' b.2.2.2.1 b.2.2.2.2.1 m) s) q * el (gr (cols p o b.2.2.2.1 b.2.2.2.2.2.1 t) q) j) (fun q hq => by rw [if_pos hq, el_app, if_pos (by omega), Int.mul_comm])]
      rw [sg_congr (k := n) (g := fun q => -1 * (el (gr (pw p n a.2.2.2.1 a.2.2.2.2.1 m) s) q * el (gr (cols p o a.2.2.2.1 a.2.2.2.2.2.1 t) q) j)) (fun q hq => by
        rw [if_neg (by omega), show n' + q - n' = q by omega, el_app, if_neg (by omega), show n' + q - (gr (pw p n' b.2.2.2.1 b.2.2.2.2.1 m) s).length = q by omega, Int.neg_mul, Int.mul_comm, Int.neg_mul, Int.one_mul]), sg_mul]
      rw [show ∀ x y : Int, x + -1 * y = x - y from fun x y => by omega, Int.sub_emod, e3, Int.sub_self]
      exact Int.zero_emod p
  obtain ⟨s1, s2⟩ := seen_ok h.hf (by omega) h.sa.a.2 h.sa.a.1 h.sa.c.2 h.sa.c.1 n
  have hsp := (kerM_iff h.hf s1 (v.drop n')).2 ((seen_perp h.hf (by omega) h.sa.a.2 h.sa.a.1 h.sa.c.2 h.sa.c.1 _ n).2 main)
  rw [s2] at hsp
  have hnil : kerM p (n * o) (seenM p n o a.2.2.2.1 a.2.2.2.2.2.1 n) = [] := List.eq_nil_of_length_eq_zero h.ha
  rw [hnil] at hsp
  obtain ⟨x, hx⟩ := hsp
  intro j hj
  have := hx j hj
  rw [el_drop3] at this
  rw [this]
  exact Int.zero_emod p
end
end Go.Proofs.YtocpeclcoikdpaaDoor
namespace Go.Proofs.YtocpeclcoikdpaaDoor
set_option linter.unusedVariables false

/-! ### both have as many states -/
theorem rc_many {p : Int} {n n' : Nat} {A B : Rows} (hf : fdB p = true) (hn : n' ≤ 200) (hA : okM p n' A) (hAl : A.length = n') (hB : okM p n' B) (hr : (rcN p n' A B).length = n') (h : n < n') : n + 1 ≤ (rc p n' A B n).length := by
  have h0 : (rc p n' A B 0).length ≠ 0 := fun h0 => by
    have e0 : rc p n' A B 0 = [] := List.eq_nil_of_length_eq_zero h0
    have h1 : (rc p n' A B 1).length ≤ _ := (redM_ok (n := n') (fdB_rng hf).1 (rc_app hf hn hA hAl hB 0)).2.1
    rw [e0, List.length_append, mulM_len] at h1
    have h2 := rc_stable hf hn hA hAl hB (k := 0) (by rw [h0]; simp at h1; exact List.length_eq_zero_iff.2 h1) n'
    rw [Nat.zero_add] at h2
    unfold rcN at hr
    rw [h2, h0] at hr
    omega
  rcases first_of (P := fun j => (rc p n' A B (j + 1)).length = (rc p n' A B j).length) n with h1 | ⟨k, h1, h2, h3⟩
  · have := rc_grow2 hf hn hA hAl hB n h1
    omega
  · have e1 := rc_stable hf hn hA hAl hB h3 (n - k)
    have e2 := rc_stable hf hn hA hAl hB h3 (n' - k)
    rw [show k + (n - k) = n by omega] at e1
    rw [show k + (n' - k) = n' by omega] at e2
    unfold rcN at hr
    rw [e1, ← e2, hr]
    omega
/-- the last columns of rows that span others span those columns -/
theorem drop_span {p : Int} {w n : Nat} {Z T : Rows} (h : subSpan p (w + n) Z T) : subSpan p n (Z.map (·.drop w)) (T.map (·.drop w)) := by
  have g : ∀ (M : Rows) (i : Nat), i < M.length → gr (M.map (·.drop w)) i = (gr M i).drop w := fun M i hi => by
    have h1 := gr_get (m := M.map (·.drop w)) (i := i) (by simpa using hi)
    rw [List.getElem?_map, gr_get hi] at h1
    exact (Option.some.inj h1).symm
  intro i hi
  rw [List.length_map] at hi
  obtain ⟨x, hx⟩ := h i hi
  refine ⟨x, fun j hj => ?_⟩
  rw [g Z i hi, el_drop3, hx (w + j) (by omega), List.length_map]
  exact congrArg (· % p) (sg_congr fun t ht => by rw [g T t ht, el_drop3])
section
variable {p : Int} {n n' k o : Nat} {a b : SSt}
theorem Sim.not_lt (h : Sim p n n' k o a b) : ¬ n' < n := by
  intro hlt
  have hp := (fdB_rng h.hf).1
  have na := h.sa.hn; have nb := h.sb.hn
  obtain ⟨z1, z2⟩ := h.zz_ok (n' + 1)
  obtain ⟨a1, a2⟩ := h.stkA (n' + 1)
  obtain ⟨b1, b2⟩ := h.stkB (n' + 1)
  have hR := redM_red h.hf z1
  have hs := redM_span h.hf z1
  -- every lead lies among the first columns
  have hl : ∀ i, i < (redM p (n' + n) (zz p n n' a b (n' + 1))).length → leadN (gr (redM p (n' + n) (zz p n n' a b (n' + 1))) i) < n' := by
    intro i hi
    apply Classical.byContradiction
    intro hge
    have h1 := h.ker (Nat.le_refl _) (hs.1 i hi) (fun j hj => by rw [leadN_z _ j (by omega)]; exact Int.zero_emod p)
    have h2 := hR.lt i hi
    have h3 := h1 (leadN (gr (redM p (n' + n) (zz p n n' a b (n' + 1))) i) - n') (by omega)
    rw [show n' + (leadN (gr (redM p (n' + n) (zz p n n' a b (n' + 1))) i) - n') = leadN (gr (redM p (n' + n) (zz p n n' a b (n' + 1))) i) by omega, hR.one i hi] at h3
    rw [emod_sm ⟨by omega, by omega⟩] at h3
    omega
  have hlen : (redM p (n' + n) (zz p n n' a b (n' + 1))).length ≤ n' := by
    rcases Nat.eq_zero_or_pos (redM p (n' + n) (zz p n n' a b (n' + 1))).length with h0 | h0
    · omega
    · have lo : ∀ i, i < (redM p (n' + n) (zz p n n' a b (n' + 1))).length → i ≤ leadN (gr (redM p (n' + n) (zz p n n' a b (n' + 1))) i) := by
        intro i
        induction i with
        | zero => intro _; exact Nat.zero_le _
        | succ i ih => intro hi; have := ih (by omega); have := hR.inc i (i + 1) (by omega) hi; omega
      have h1 := lo ((redM p (n' + n) (zz p n n' a b (n' + 1))).length - 1) (by omega)
      have h2 := hl ((redM p (n' + n) (zz p n n' a b (n' + 1))).length - 1) (by omega)
      omega
  have hTok : okM p n ((redM p (n' + n) (zz p n n' a b (n' + 1))).map (·.drop n')) := fun r hr => by
    obtain ⟨x, hx, rfl⟩ := List.mem_map.1 hr
    obtain ⟨k1, k2⟩ := hR.ok x hx
    exact ⟨by simp; omega, fun y hy => k2 y (List.mem_of_mem_drop hy)⟩
  have e : (zz p n n' a b (n' + 1)).map (·.drop n') = stk p n a.2.2.2.1 a.2.2.2.2.1 (n' + 1) := by
    refine ext_gr (by rw [List.length_map, z2, a2]) (fun i hi => ?_)
    rw [List.length_map] at hi
    have h1 := gr_get (m := (zz p n n' a b (n' + 1)).map (·.drop n')) (i := i) (by simpa using hi)
    rw [List.getElem?_map, gr_get hi] at h1
    rw [← Option.some.inj h1]
    unfold zz
    rw [catM_gr (by omega)]
    have := (b1 _ (gr_mem (i := i) (by omega))).1
    dsimp only
    rw [List.drop_append, this, Nat.sub_self, List.drop_zero, List.drop_of_length_le (by omega), List.nil_append]
  have hd := drop_span hs.2
  rw [e] at hd
  have hrc := rc_stk h.hf (by omega) h.sa.a.2 h.sa.a.1 h.sa.b.2 h.sa.b.1 n'
  have hm := rc_many h.hf (by omega) h.sa.a.2 h.sa.a.1 h.sa.b.2 h.ra hlt
  have hall := subSpan_trans (subSpan_trans hrc hd) (redM_span h.hf hTok).2
  have h1 := red_len_le hp (rc_red h.hf (by omega) h.sa.a.2 h.sa.a.1 h.sa.b.2 n') (redM_red h.hf hTok) hall
  have h2 := (redM_ok (n := n) hp hTok).2.1
  rw [List.length_map] at h2
  omega
theorem Sim.same (h : Sim p n n' k o a b) : n = n' := by
  have h1 := h.not_lt
  have h2 := h.symm.not_lt
  omega
end
/-- rows that belong to the units -/
structure Ans (p : Int) (n : Nat) (Z X : Rows) : Prop where
  ok : okM p n X
  len : X.length = n
  sp : ∀ i, i < n → inSpan p (n + n) Z (unitN n i ++ gr X i)
section
variable {p : Int} {n k o : Nat} {a b : SSt}
theorem Sim.ans (h : Sim p n n k o a b) {X Y : Rows} (hX : Ans p n (zz p n n a b n) X) (hY : Ans p n (zz p n n a b n) Y) : X = Y := by
  refine ext_gr (by rw [hX.len, hY.len]) (fun i hi => ?_)
  rw [hX.len] at hi
  have ux := (hX.ok _ (gr_mem (i := i) (by rw [hX.len]; exact hi)))
  have uy := (hY.ok _ (gr_mem (i := i) (by rw [hY.len]; exact hi)))
  have hu : (unitN n i).length = n := by simp [unitN]
  have hd : inSpan p (n + n) (zz p n n a b n) ((List.range (n + n)).map fun j => el (unitN n i ++ gr X i) j - el (unitN n i ++ gr Y i) j) := by
    refine inSpan_comb2 1 (-1) (hX.sp i hi) (hY.sp i hi) (fun j hj => ?_)
    have : el ((List.range (n + n)).map fun j => el (unitN n i ++ gr X i) j - el (unitN n i ++ gr Y i) j) j = el (unitN n i ++ gr X i) j - el (unitN n i ++ gr Y i) j := by
      conv => lhs; unfold el
      rw [List.getD_eq_getElem?_getD, List.getElem?_map, List.getElem?_range hj]; rfl
    rw [this]
    congr 1
    omega
  have hg : ∀ j, j < n + n → el ((List.range (n + n)).map fun j => el (unitN n i ++ gr X i) j - el (unitN n i ++ gr Y i) j) j = el (unitN n i ++ gr X i) j - el (unitN n i ++ gr Y i) j := fun j hj => by
    conv => lhs; unfold el
    rw [List.getD_eq_getElem?_getD, List.getElem?_map, List.getElem?_range hj]; rfl
  have hk := h.ker (K := n) (by omega) hd (fun j hj => by
    rw [hg j (by omega), el_app, if_pos (by omega), el_app, if_pos (by omega), Int.sub_self]; exact Int.zero_emod p)
  refine ext_el (by rw [ux.1, uy.1]) (fun j hj => ?_)
  rw [ux.1] at hj
  have hj2 := hk j hj
  rw [hg (n + j) (by omega), el_app, if_neg (by omega), el_app, if_neg (by omega), hu, show n + j - n = j by omega] at hj2
  have e := mod_of_sub hj2
  rwa [emod_sm (ux.2 _ (el_mem (by omega))), emod_sm (uy.2 _ (el_mem (by omega)))] at e
/-- the stack of the other one spans everything -/
theorem Sim.whole (h : Sim p n n k o a b) (v : List Int) : inSpan p n (stk p n b.2.2.2.1 b.2.2.2.2.1 n) v := by
  have nb := h.sb.hn
  exact inSpan_trans (rcN_stk h.hf (by omega) h.sb.a.2 h.sb.a.1 h.sb.b.2 h.sb.b.1) (red_whole (rcN_red h.hf (by omega) h.sb.a.2 h.sb.a.1 h.sb.b.2) h.rb v)
theorem Sim.full (h : Sim p n n k o a b) {M : Rows} (hM : okM p n M) (hw : ∀ v, inSpan p n M v) : (redM p n M).length = n := by
  have nb := h.sb.hn
  exact whole_len h.hf (redM_red h.hf hM) (fun v => inSpan_trans (redM_span h.hf hM).2 (hw v)) (rcN_red h.hf (by omega) h.sb.a.2 h.sb.a.1 h.sb.b.2) h.rb
end
end Go.Proofs.YtocpeclcoikdpaaDoor
namespace Go.Proofs.YtocpeclcoikdpaaDoor
set_option linter.unusedVariables false
theorem reachedRows_ {p : Int} {n k o : Nat} {s : SSt} (h : SSok p n k o s) (hf : fdB p = true) : F_impl_StateSpace_reachedRows s p = some (stk p n s.2.2.2.1 s.2.2.2.2.1 n) := by
  have hm : maxN = 1099511627776 := rfl
  have e1 := h.h1; have hn := h.hn; have hk := h.hk
  have hB := clones_ (m := s.2.2.2.2.1) (by have := h.b.1; omega) (fun r hr => by have := (h.b.2 r hr).1; omega)
  have loop := forS_is (n := n) (f := fun (k16 : Nat) (s43 : List (List Int) × List (List Int)) =>
      (appO s43.1 s43.2).bind fun a56 =>
      (F_impl_product p s43.2 s.2.2.2.1 s.1).bind fun y61 =>
      some (a56, y61)) (fun j => (stk p n s.2.2.2.1 s.2.2.2.2.1 j, pw p n s.2.2.2.1 s.2.2.2.2.1 j)) (fun j hj => by
    obtain ⟨s1, s2⟩ := stk_ok hf (by omega) h.a.2 h.a.1 h.b.2 h.b.1 j
    obtain ⟨p1, p2⟩ := pw_ok hf (by omega) h.a.2 h.a.1 h.b.2 h.b.1 j
    have hjk : j * k ≤ 24 * 8 := Nat.mul_le_mul (by omega) hk
    have hp := product_ (n := n) h.hp (by omega) h.a.2 p1 (by rw [h.a.1]; exact Nat.le_refl _) (by omega)
    refine bnd (appO_of (by dsimp only; omega)) ?_
    rw [e1]
    exact bnd hp rfl)
  refine bnd hB (bnd (cI_of (x := s.1) ⟨by omega, by omega⟩) ?_)
  rw [show s.1.toNat = n by omega]
  exact bnd loop rfl
/-- what the reduction of one side makes of the other -/
def simX (p : Int) (n : Nat) (a b : SSt) : Rows := (redLoop p n 0 (stk p n b.2.2.2.1 b.2.2.2.2.1 n) (stk p n a.2.2.2.1 a.2.2.2.2.1 n) 0).2.1.take n
section
variable {p : Int} {n k o : Nat} {a b : SSt}
theorem Sim.stk_le (h : Sim p n n k o a b) : n ≤ n * k := by
  obtain ⟨b1, b2⟩ := h.stkB n
  have h1 := h.full b1 h.whole
  have h2 := (redM_ok (n := n) (fdB_rng h.hf).1 b1).2.1
  omega
theorem Sim.simX_ans (h : Sim p n n k o a b) : Ans p n (zz p n n a b n) (simX p n a b) := by
  have hp := (fdB_rng h.hf).1
  obtain ⟨a1, a2⟩ := h.stkA n
  obtain ⟨b1, b2⟩ := h.stkB n
  have hle := h.stk_le
  obtain ⟨z1, z2⟩ := h.zz_ok n
  obtain ⟨k1, k2, k3, k4, k5, k6, k7⟩ := redLoop_ok hp n 0 (stk p n b.2.2.2.1 b.2.2.2.2.1 n) (stk p n a.2.2.2.1 a.2.2.2.2.1 n) 0 b1 a1 (by omega) (Nat.zero_le _)
  have hc := catM_loop h.hf n 0 (stk p n b.2.2.2.1 b.2.2.2.2.1 n) (stk p n a.2.2.2.1 a.2.2.2.2.1 n) 0 (by omega) b1 a1 (by omega) (Nat.zero_le _)
  have hs := (loop_span h.hf n 0 (zz p n n a b n) (zz p n n a b n) 0 (by omega) z1 z1 rfl (Nat.zero_le _)).1
  unfold zz at hs
  rw [hc] at hs
  dsimp only at hs
  have hfull := h.full b1 h.whole
  have hred := redM_red h.hf b1
  obtain ⟨e1, e2⟩ := redLoop_any p n 0 (stk p n b.2.2.2.1 b.2.2.2.2.1 n) (stk p n a.2.2.2.1 a.2.2.2.2.1 n) (stk p n b.2.2.2.1 b.2.2.2.2.1 n) 0
  refine ⟨fun r hr => ?_, ?_, fun i hi => ?_⟩
  · exact k2 r (List.mem_of_mem_take hr)
  · unfold simX; rw [List.length_take]; omega
  · have hrow : gr (redLoop p n 0 (stk p n b.2.2.2.1 b.2.2.2.2.1 n) (stk p n a.2.2.2.1 a.2.2.2.2.1 n) 0).1 i = unitN n i := by
      have hu : gr (redM p n (stk p n b.2.2.2.1 b.2.2.2.2.1 n)) i = unitN n i := by
        refine ext_el (by rw [(hred.ok _ (gr_mem (by omega))).1]; simp [unitN]) (fun j hj => ?_)
        rw [(hred.ok _ (gr_mem (by omega))).1] at hj
        rw [(red_full hred hfull hi).2 hj, unit_elN hi]
      rw [← hu, e1]
      unfold redM
      refine (gr_take ?_).symm
      unfold redM at hfull
      rw [List.length_take] at hfull
      omega
    have h1 := hs i (by rw [catM_len (by omega)]; omega)
    rw [catM_gr (by omega), hrow] at h1
    unfold simX
    rw [gr_take hi]
    exact h1
end
end Go.Proofs.YtocpeclcoikdpaaDoor
namespace Go.Proofs.YtocpeclcoikdpaaDoor

abbrev Edg := Int × Int × List Int × List Int

/-! ### tables -/

/-! ### edges -/

/-! ### how often a wire occurs -/
def edI (e : Edg) : List Int := e.2.2.1
def edO (e : Edg) : List Int := e.2.2.2

/-! ### valid graphs -/

/-! ### the program's test -/
end Go.Proofs.YtocpeclcoikdpaaDoor
namespace Go.Proofs.YtocpeclcoikdpaaDoor

/-! ### loops by what holds in them -/
theorem whileO_num {σ τ : Type} {f : σ → Option (σ ⊕ τ)} (I : Nat → σ → Prop) (Q : τ → Prop) (N : Nat) (h : ∀ j s, j ≤ N → I j s → (∃ s', f s = some (.inl s') ∧ I (j + 1) s' ∧ j < N) ∨ (∃ t, f s = some (.inr t) ∧ Q t)) {s : σ} (hs : I 0 s) : ∃ t, whileO f s = some t ∧ Q t := by
  have key : ∀ d j s, j + d = N → I j s → ∃ t, whileO f s = some t ∧ Q t := by
    intro d
    induction d with
    | zero =>
      intro j s hj hI
      rcases h j s (by omega) hI with ⟨s', h1, h2, h3⟩ | ⟨t, h1, h2⟩
      · omega
      · exact ⟨t, whileO_end h1, h2⟩
    | succ d ih =>
      intro j s hj hI
      rcases h j s (by omega) hI with ⟨s', h1, h2, h3⟩ | ⟨t, h1, h2⟩
      · obtain ⟨t, k1, k2⟩ := ih (j + 1) s' (by omega) h2
        exact ⟨t, by rw [whileO_step h1]; exact k1, k2⟩
      · exact ⟨t, whileO_end h1, h2⟩
  exact key N 0 s (by omega) hs
theorem forS_inv {σ : Type} {f : Nat → σ → Option σ} (I : Nat → σ → Prop) : ∀ (n k : Nat) (s : σ), I k s → (∀ j s, k ≤ j → j < k + n → I j s → ∃ s', f j s = some s' ∧ I (j + 1) s') → ∃ r, forS f n k s = some r ∧ I (k + n) r
  | 0, k, s, h0, _ => ⟨s, rfl, h0⟩
  | n + 1, k, s, h0, h => by
    obtain ⟨s', h1, h2⟩ := h k s (Nat.le_refl _) (by omega) h0
    obtain ⟨r, h3, h4⟩ := forS_inv I n (k + 1) s' h2 (fun j s hj hl hi => h j s (by omega) (by omega) hi)
    refine ⟨r, ?_, by rwa [show k + 1 + n = k + (n + 1) by omega] at h4⟩
    show (f k s).bind _ = _
    rw [h1]; exact h3
theorem forS_rel {σ : Type} {f : Nat → σ → Option σ} {n : Nat} {s : σ} (I : Nat → σ → Prop) (h0 : I 0 s) (h : ∀ j s, j < n → I j s → ∃ s', f j s = some s' ∧ I (j + 1) s') : ∃ r, forS f n 0 s = some r ∧ I n r := by
  obtain ⟨r, h1, h2⟩ := forS_inv (f := f) I n 0 s h0 (fun j s _ hl hi => h j s (by omega) hi)
  exact ⟨r, h1, by rwa [Nat.zero_add] at h2⟩

/-! ### tables of marks -/
/-- the marks: is x marked? -/
def M (s : List Bool) (x : Int) : Prop := idxO s x = some true
instance (s : List Bool) (x : Int) : Decidable (M s x) := by unfold M; infer_instance
/-- how many are not marked -/
def left (s : List Bool) : Nat := s.count false

/-! ### what can be reached -/
inductive Rch (E : List Edg) (S : Int → Prop) : Int → Prop
  | base {x : Int} : S x → Rch E S x
  | step {e : Edg} {w v : Int} : e ∈ E → w ∈ edI e → Rch E S w → v ∈ edO e → Rch E S v
theorem Rch.mono {E : List Edg} {S S' : Int → Prop} (h : ∀ x, S x → Rch E S' x) {x : Int} (hx : Rch E S x) : Rch E S' x := by
  induction hx with
  | base hs => exact h _ hs
  | step he hw _ hv ih => exact .step he hw ih hv
/-- a set that is closed holds all that can be reached -/
theorem Rch.sub {E : List Edg} {S T : Int → Prop} (h0 : ∀ x, S x → T x) (h1 : ∀ e ∈ E, ∀ w ∈ edI e, T w → ∀ v ∈ edO e, T v) {x : Int} (hx : Rch E S x) : T x := by
  induction hx with
  | base hs => exact h0 _ hs
  | step he hw _ hv ih => exact h1 _ he _ hw ih _ hv

/-! ### the reference's search -/

/-! ### the program's search -/
end Go.Proofs.YtocpeclcoikdpaaDoor
namespace Go.Proofs.YtocpeclcoikdpaaDoor
set_option linter.unusedVariables false
structure Pr (p : Int) (n : Nat) (Z mine other : Rows) : Prop where
  m : okM p n mine
  o : okM p n other
  l : mine.length = other.length
  i : Indep p n other
  sp : ∀ t, t < other.length → inSpan p (n + n) Z (gr other t ++ gr mine t)
theorem Pr.le {p : Int} {n : Nat} {Z mine other : Rows} (hf : fdB p = true) (h : Pr p n Z mine other) : other.length ≤ n := by
  rw [← (indep_iff hf h.o).1 h.i]
  exact (redM_ok (n := n) (fdB_rng hf).1 h.o).2.2
theorem okM_one {p : Int} {n : Nat} {r : List Int} (h : okR p n r) : okM p n [r] := fun x hx => by rw [List.mem_singleton.1 hx]; exact h
theorem dep_span {p : Int} {n : Nat} {M : Rows} {y : List Int} (hf : fdB p = true) (hM : okM p n M) (hy : okR p n y) (hi : Indep p n M) (hd : (redM p n (M ++ [y])).length ≠ (M ++ [y]).length) : inSpan p n M y := by
  have hp := (fdB_rng hf).1
  have ho := okM_app hM (okM_one hy)
  have h1 := (indep_iff hf hM).1 hi
  have h2 := (redM_ok (n := n) hp ho).2.1
  have hs := redM_span hf ho
  have hsM := redM_span hf hM
  have hsub : subSpan p n (redM p n M) (redM p n (M ++ [y])) := subSpan_trans hsM.1 (subSpan_trans span_app1 hs.2)
  have h3 := red_len_le hp (redM_red hf hM) (redM_red hf ho) hsub
  rw [List.length_append, List.length_singleton] at h2 hd
  have he := red_eq hp (redM_red hf hM) (redM_red hf ho) hsub (by omega)
  have hyr : inSpan p n (M ++ [y]) y := by
    have := inSpan_row (p := p) (n := n) (m := M ++ [y]) (i := M.length) (by simp)
    rwa [show gr (M ++ [y]) M.length = y from by have := gr_app2 (a := M) (b := [y]) 0; rw [Nat.add_zero] at this; rw [this]; exact gr_zero _ _] at this
  refine inSpan_trans hsM.1 ?_
  rw [he]
  exact inSpan_trans hs.2 hyr
theorem inner_ {p : Int} {n : Nat} {Z Y X m0 o0 : Rows} {N : Int} (hf : fdB p = true) (hn : n ≤ 24) (hN : N = (n : Int)) (hY : okM p n Y) (hX : okM p n X) (hl : X.length = Y.length) (hs : ∀ t, t < Y.length → inSpan p (n + n) Z (gr Y t ++ gr X t)) (h0 : Pr p n Z m0 o0) :
    ∃ r, forS (fun (k : Nat) (s : List (List Int) × List (List Int)) =>
              ((appO ([] : List (List Int)) s.2).bind fun a22218 =>
                (idxO Y ((k : Nat) : Int)).bind fun a22229 =>
                (appO a22218 [a22229]).bind fun a22237 =>
                some a22237).bind fun (s22156 : List (List Int)) =>
              (F_spec_spReduce p N s22156).bind fun y22377 =>
              (some (decide (((y22377.length : Nat) : Int) = ((s22156.length : Nat) : Int)))).bind fun a22382 =>
              cond a22382
              ((idxO X ((k : Nat) : Int)).bind fun a22392 =>
                (appO s.1 [a22392]).bind fun a22400 =>
                some (a22400, s22156))
              (some (s.1, s.2))) Y.length 0 (m0, o0) = some r ∧ Pr p n Z r.1 r.2 ∧ subSpan p n o0 r.2 ∧ subSpan p n Y r.2 := by
  have hm : maxN = 1099511627776 := rfl
  subst hN
  obtain ⟨r, h1, h2, h3, h4⟩ := forS_rel (n := Y.length) (s := (m0, o0)) (f := fun (k : Nat) (s : List (List Int) × List (List Int)) =>
              ((appO ([] : List (List Int)) s.2).bind fun a22218 =>
                (idxO Y ((k : Nat) : Int)).bind fun a22229 =>
                (appO a22218 [a22229]).bind fun a22237 =>
                some a22237).bind fun (s22156 : List (List Int)) =>
              (F_spec_spReduce p (n : Int) s22156).bind fun y22377 =>
              (some (decide (((y22377.length : Nat) : Int) = ((s22156.length : Nat) : Int)))).bind fun a22382 =>
              cond a22382
              ((idxO X ((k : Nat) : Int)).bind fun a22392 =>
                (appO s.1 [a22392]).bind fun a22400 =>
                some (a22400, s22156))
              (some (s.1, s.2))) (fun j s => Pr p n Z s.1 s.2 ∧ subSpan p n o0 s.2 ∧ ∀ t, t < j → inSpan p n s.2 (gr Y t)) ⟨h0, subSpan_refl p n o0, fun t ht => by omega⟩ (by
    rintro j ⟨m, ot⟩ hj ⟨hp, hsub, hall⟩
    have hle := hp.le hf
    have hlen := hp.l
    dsimp only at hp hsub hall hle hlen ⊢
    have hy := hY _ (gr_mem hj)
    have hmore := okM_app hp.o (okM_one hy)
    have hred := spReduce_ hf (Nat.le_refl n) (by omega) hmore (by simp; omega)
    have e1 : appO ([] : List (List Int)) ot = some ot := by rw [appO_of (by simp; omega), List.nil_append]
    by_cases hc : (redM p n (ot ++ [gr Y j])).length = (ot ++ [gr Y j]).length
    · have hj2 : j < X.length := by omega
      refine ⟨(m ++ [gr X j], ot ++ [gr Y j]), bnd (bnd e1 (bnd (idx_gr hj) (bnd (appO_of (by simp; omega)) rfl))) (bnd hred (stp (cTW (dT (by omega)) (bnd (idx_gr hj2) (bnd (appO_of (by simp; omega)) rfl))))), ⟨okM_app hp.m (okM_one (hX _ (gr_mem hj2))), hmore, by simp [hp.l], (indep_iff hf hmore).2 hc, fun t ht => ?_⟩, subSpan_trans hsub span_app1, fun t ht => ?_⟩
      · by_cases h : t < ot.length
        · dsimp only
          rw [gr_app1 h, gr_app1 (by rw [hp.l]; exact h)]; exact hp.sp t h
        · have : t = ot.length := by simp at ht; omega
          subst this
          dsimp only
          have g1 := gr_app2 (a := ot) (b := [gr Y j]) 0
          have g2 := gr_app2 (a := m) (b := [gr X j]) 0
          rw [Nat.add_zero, gr_zero] at g1 g2
          rw [g1, ← hp.l, g2]
          exact hs j hj
      · by_cases h : t < j
        · exact inSpan_trans span_app1 (hall t h)
        · obtain rfl : t = j := by omega
          have := inSpan_row (p := p) (n := n) (m := ot ++ [gr Y t]) (i := ot.length) (by simp)
          have g1 := gr_app2 (a := ot) (b := [gr Y t]) 0
          rw [Nat.add_zero, gr_zero] at g1
          rwa [g1] at this
    · refine ⟨(m, ot), bnd (bnd e1 (bnd (idx_gr hj) (bnd (appO_of (by simp; omega)) rfl))) (bnd hred (stp (cFW (dF (by omega)) rfl))), hp, hsub, fun t ht => ?_⟩
      by_cases h : t < j
      · exact hall t h
      · obtain rfl : t = j := by omega
        exact dep_span hf hp.o hy hp.i hc)
  exact ⟨r, h1, h2, h3, fun i hi => h4 i hi⟩
/-- the reference's inverse of independent rows -/
theorem ssInverse_ {p : Int} {n : Nat} {M : Rows} (hf : fdB p = true) (hn : n ≤ 24) (hM : okM p n M) (hl : M.length = n) (hi : Indep p n M) :
    ∃ V, F_spec_ssInverse p M = some (V, true) ∧ okM p n V ∧ V.length = n ∧ ∀ i j, i < n → j < n → sg n (fun t => el (gr V i) t * el (gr M t) j) % p = (if i = j then 1 else 0) % p := by
  have hm : maxN = 1099511627776 := rfl
  have hp := fdB_rng hf
  have hI := idN_ok (p := p) hp.1 n
  have hil : (idN n).length = n := idN_len n
  have hW := catM_ok (p := p) (k := n) (q := n) (m := M) (a := idN n) (by omega) hM hI
  have hWl : (catM M (idN n)).length = n := by rw [catM_len (by omega), hl]
  have loop := forS_is (n := M.length) (f := fun (k2 : Nat) (s75 : List (List Int)) =>
      (idxO M ((k2 : Nat) : Int)).bind fun a92 =>
      (F_spec_l1Own a92).bind fun y96 =>
      (F_spec_ssUnit ((M.length : Nat) : Int) ((k2 : Nat) : Int)).bind fun y101 =>
      (appO y96 y101).bind fun a106 =>
      (appO s75 [a106]).bind fun a114 =>
      some a114) (fun j => (catM M (idN n)).take j) (fun j hj => by
    have hr := (hM _ (gr_mem hj)).1
    have hu : F_spec_ssUnit ((M.length : Nat) : Int) ((j : Nat) : Int) = some (unitN n j) := by
      rw [hl]
      exact bnd (makeO_of _ (by omega)) (bnd (setO_of _ (by simp; omega)) rfl)
    refine bnd (idx_gr hj) (bnd (own_ (by omega)) (bnd hu (bnd (appO_of (by simp [unitN]; omega)) (bnd (appO_of (by simp; omega)) ?_))))
    have hg := gr_get (m := catM M (idN n)) (i := j) (by omega)
    rw [catM_gr (by omega), idN_gr (by omega)] at hg
    rw [List.take_add_one, hg]; rfl)
  rw [List.take_zero] at loop
  have e0 : (catM M (idN n)).take M.length = catM M (idN n) := List.take_of_length_le (by omega)
  rw [e0] at loop
  have hred := spReduce_ (n := n + n) hf (Nat.le_refl _) (by omega) hW (by omega)
  have hR := redM_red hf hW
  have hs := redM_span hf hW
  -- the rows span everything
  have hwhole : ∀ v, inSpan p n M v := by
    have hfl := (indep_iff hf hM).1 hi
    intro v
    exact inSpan_trans (redM_span hf hM).1 (red_whole (redM_red hf hM) (by omega) v)
  have hRl : (redM p (n + n) (catM M (idN n))).length ≤ n := by have := (redM_ok (n := n + n) hp.1 hW).2.1; omega
  have hlead : ∀ j, j < n → ∃ i, i < (redM p (n + n) (catM M (idN n))).length ∧ leadN (gr (redM p (n + n) (catM M (idN n))) i) = j := by
    intro j hj
    obtain ⟨y, hy⟩ := hwhole (unitN n j)
    have hv : okR p (n + n) (unitN n j ++ (List.range n).map fun t => y t % p) := by
      refine ⟨by simp [unitN], fun x hx => ?_⟩
      rcases List.mem_append.1 hx with hx | hx
      · exact (unitN_ok hp.1 n j).2 x hx
      · obtain ⟨t, _, rfl⟩ := List.mem_map.1 hx
        exact emod_in hp.1
    have hul : (unitN n j).length = n := by simp [unitN]
    have hg : ∀ t, t < n → el ((List.range n).map fun t => y t % p) t = y t % p := fun t ht => by
      unfold el; rw [List.getD_eq_getElem?_getD, List.getElem?_map, List.getElem?_range ht]; rfl
    have hsp : inSpan p (n + n) (redM p (n + n) (catM M (idN n))) (unitN n j ++ (List.range n).map fun t => y t % p) := by
      refine inSpan_trans hs.2 ⟨y, fun c hc => ?_⟩
      rw [hWl]
      by_cases h : c < n
      · rw [el_app, if_pos (by omega), hy c h, hl]
        exact congrArg (· % p) (sg_congr fun t ht => by rw [catM_gr (by omega), el_app, if_pos (by rw [(hM _ (gr_mem (by omega))).1]; exact h)])
      · rw [el_app, if_neg (by omega), hul, hg _ (by omega), mod_mod, sg_one (i0 := c - n) (by omega) (fun t ht hne => by
          rw [catM_gr (by omega), el_app, if_neg (by rw [(hM _ (gr_mem (by omega))).1]; exact h), (hM _ (gr_mem (by omega))).1, idN_gr ht, unit_elN ht, if_neg hne, Int.mul_zero])]
        rw [catM_gr (by omega), el_app, if_neg (by rw [(hM _ (gr_mem (by omega))).1]; exact h), (hM _ (gr_mem (by omega))).1, idN_gr (by omega), unit_elN (by omega), if_pos rfl, Int.mul_one]
    have hld : leadN (unitN n j ++ (List.range n).map fun t => y t % p) = j := leadN_eq (fun c hc => by
      rw [el_app, if_pos (by omega), unit_elN hj, if_neg (by omega)]) (by
      rw [el_app, if_pos (by omega), unit_elN hj, if_pos rfl]; decide)
    obtain ⟨i, h1, h2⟩ := span_lead hp.1 hR hv hsp (by omega)
    exact ⟨i, h1, by omega⟩
  -- so the leads are the first columns, in order
  have hinj : ∀ k, k ≤ n → ∀ j, j < k → ∃ i, i < (redM p (n + n) (catM M (idN n))).length ∧ leadN (gr (redM p (n + n) (catM M (idN n))) i) = j ∧ j ≤ i := by
    intro k
    induction k with
    | zero => intro _ j hj; omega
    | succ k ih =>
      intro hk j hj
      obtain ⟨i, h1, h2⟩ := hlead j (by omega)
      refine ⟨i, h1, h2, ?_⟩
      rcases Nat.eq_zero_or_pos j with h0 | h0
      · omega
      · obtain ⟨i', k1, k2, k3⟩ := ih (by omega) (j - 1) (by omega)
        rcases Nat.lt_trichotomy i i' with h | h | h
        · have := hR.inc i i' h k1; omega
        · subst h; omega
        · omega
  have hlen : (redM p (n + n) (catM M (idN n))).length = n := by
    rcases Nat.eq_zero_or_pos n with h0 | h0
    · omega
    · obtain ⟨i, k1, k2, k3⟩ := hinj n (Nat.le_refl _) (n - 1) (by omega)
      omega
  have hld : ∀ i, i < n → leadN (gr (redM p (n + n) (catM M (idN n))) i) = i := by
    intro i hi
    obtain ⟨i', k1, k2, k3⟩ := hinj n (Nat.le_refl _) i hi
    have hup : ∀ d i', i' + d < n → i' ≤ leadN (gr (redM p (n + n) (catM M (idN n))) i') := by
      intro d i'
      induction i' with
      | zero => intro _; exact Nat.zero_le _
      | succ i' ih => intro h; have := ih (by omega); have := hR.inc i' (i' + 1) (by omega) (by omega); omega
    rcases Nat.lt_trichotomy i i' with h | h | h
    · have := hup 0 i' (by omega); omega
    · subst h; exact k2
    · omega
  have hloop := forO_is (n := (redM p (n + n) (catM M (idN n))).length) (τ := List (List Int) × Bool) (f := fun (k131 : Nat) (s243 : List (List Int)) =>
      (idxO (redM p (n + n) (catM M (idN n))) ((k131 : Nat) : Int)).bind fun a260 =>
      (F_spec_spLead a260).bind fun y264 =>
      (some (!decide (y264 = ((k131 : Nat) : Int)))).bind fun a267 =>
      cond a267
      (some (.inr ([], false)))
      ((sliceO a260 ((M.length : Nat) : Int) ((a260.length : Nat) : Int)).bind fun a270 =>
        (F_spec_l1Own a270).bind fun y274 =>
        (appO s243 [y274]).bind fun a282 =>
        some (.inl a282))) (fun j => ((redM p (n + n) (catM M (idN n))).map (·.drop n)).take j) (fun j hj => by
    have hr := (hR.ok _ (gr_mem hj)).1
    have hsl : sliceO (gr (redM p (n + n) (catM M (idN n))) j) ((M.length : Nat) : Int) (((gr (redM p (n + n) (catM M (idN n))) j).length : Nat) : Int) = some ((gr (redM p (n + n) (catM M (idN n))) j).drop n) := by
      rw [hl]
      unfold sliceO; rw [if_pos ⟨by omega, by omega, by omega⟩]
      simp only [Int.toNat_natCast]
      rw [List.take_of_length_le (by simp)]
    refine bnd (idx_gr hj) (bnd (spLead_ (by omega)) (stp (cFW (nT (dT (by rw [hld j (by omega)]))) (bnd hsl (bnd (own_ (by simp; omega)) (bnd (appO_of (by simp; omega)) ?_))))))
    have hg := gr_get hj
    rw [List.take_add_one, List.getElem?_map, hg]; rfl)
  rw [List.take_zero] at hloop
  have e1 : ((redM p (n + n) (catM M (idN n))).map (·.drop n)).take (redM p (n + n) (catM M (idN n))).length = (redM p (n + n) (catM M (idN n))).map (·.drop n) := List.take_of_length_le (by simp)
  rw [e1] at hloop
  refine ⟨(redM p (n + n) (catM M (idN n))).map (·.drop n), ?_, ?_, by simp [hlen], ?_⟩
  · refine bnd loop (bnd (a := ((n + n : Nat) : Int)) (by rw [hl, mulO_of (by omega) (by omega)]; congr 1; omega) (bnd hred (sqW hloop rfl)))
  · intro r hr
    obtain ⟨x, hx, rfl⟩ := List.mem_map.1 hr
    obtain ⟨k1, k2⟩ := hR.ok x hx
    exact ⟨by simp; omega, fun y hy => k2 y (List.mem_of_mem_drop hy)⟩
  · intro i j hi' hj
    have g : gr ((redM p (n + n) (catM M (idN n))).map (·.drop n)) i = (gr (redM p (n + n) (catM M (idN n))) i).drop n := by
      have h1 := gr_get (m := (redM p (n + n) (catM M (idN n))).map (·.drop n)) (i := i) (by simp; omega)
      rw [List.getElem?_map, gr_get (by omega)] at h1
      exact (Option.some.inj h1).symm
    obtain ⟨y, hy⟩ := hs.1 i (by omega)
    rw [hWl] at hy
    have c1 := hy j (by omega)
    rw [sg_congr (g := fun t => y t * el (gr M t) j) (fun t ht => by rw [catM_gr (by omega), el_app, if_pos (by rw [(hM _ (gr_mem (by omega))).1]; exact hj)])] at c1
    have hone : el (gr (redM p (n + n) (catM M (idN n))) i) j = if i = j then 1 else 0 := by
      by_cases h : i = j
      · subst h; rw [if_pos rfl]; have := hR.one i (by omega); rwa [hld i hi'] at this
      · rw [if_neg h]; have := hR.zero j i (by omega) (by omega) (Ne.symm h); rwa [hld j hj] at this
    rw [hone] at c1
    rw [c1, g]
    refine sg_mod fun t ht => ?_
    have c2 := hy (n + t) (by omega)
    rw [sg_one (i0 := t) ht (fun q hq hne => by
      rw [catM_gr (by omega), el_app, if_neg (by rw [(hM _ (gr_mem (by omega))).1]; omega), (hM _ (gr_mem (by omega))).1, idN_gr hq, unit_elN hq, if_neg (by omega), Int.mul_zero])] at c2
    rw [catM_gr (by omega), el_app, if_neg (by rw [(hM _ (gr_mem (by omega))).1]; omega), (hM _ (gr_mem (by omega))).1, idN_gr ht, unit_elN ht, if_pos (by omega), Int.mul_one] at c2
    rw [el_drop3, ← mul_mod1, c2, mul_mod1]
end Go.Proofs.YtocpeclcoikdpaaDoor
namespace Go.Proofs.YtocpeclcoikdpaaDoor
set_option linter.unusedVariables false
theorem ssMinimal_ {p : Int} {s : SSt} (h : ssB p s = true) : F_spec_ssMinimal p s = some (minB p s) := by
  obtain ⟨n, k, o, sa⟩ := ssB_ok h
  have e1 := sa.h1; have e3 := sa.h3
  unfold minB
  rw [show s.1.toNat = n by omega, show s.2.2.1.toNat = o by omega]
  refine bnd (bnd (sa.reachS (ssB_f h)) (stp ?_)) rfl
  cases decide (((rcN p n s.2.2.2.1 s.2.2.2.2.1).length : Int) = s.1) with
  | false => rfl
  | true => exact cTW rfl (bnd (sa.hidS (ssB_f h)) (stp rfl))
theorem isMinimal_ {p : Int} {s : SSt} (h : ssB p s = true) : F_impl_StateSpace_isMinimal s p = some (minB p s) := by
  obtain ⟨n, k, o, sa⟩ := ssB_ok h
  have e1 := sa.h1; have e3 := sa.h3
  unfold minB
  rw [show s.1.toNat = n by omega, show s.2.2.1.toNat = o by omega]
  refine bnd (bnd (sa.reachI (ssB_f h)) (stp ?_)) rfl
  cases decide (((rcN p n s.2.2.2.1 s.2.2.2.2.1).length : Int) = s.1) with
  | false => rfl
  | true => exact cTW rfl (bnd (sa.hidI (ssB_f h)) (stp rfl))
def simB (p : Int) (a b : SSt) : Bool := twoB p a b && (minB p a && (minB p b && sameB p a b))
theorem simB_ok {p : Int} {a b : SSt} (h : simB p a b = true) : ∃ n k o, Sim p n n k o a b := by
  unfold simB twoB minB sameB at h
  simp only [Bool.and_eq_true, decide_eq_true_eq] at h
  obtain ⟨⟨ha, hb, h1, h2⟩, ⟨m1, m2⟩, ⟨m3, m4⟩, hs⟩ := h
  obtain ⟨n, k, o, sa⟩ := ssB_ok ha
  obtain ⟨n', k', o', sb⟩ := ssB_ok hb
  have e1 := sa.h1; have e2 := sa.h2; have e3 := sa.h3
  have f1 := sb.h1; have f2 := sb.h2; have f3 := sb.h3
  obtain rfl : k = k' := by omega
  obtain rfl : o = o' := by omega
  rw [show a.1.toNat = n by omega] at m1 m2 hs
  rw [show b.1.toNat = n' by omega] at m3 m4 hs
  rw [show a.2.2.1.toNat = o by omega] at m2 hs
  rw [show b.2.2.1.toNat = o by omega] at m4 hs
  rw [show (a.1 + b.1 + 1).toNat = n + n' + 1 by omega] at hs
  have hS : Sim p n n' k o a b := ⟨ssB_f ha, sa, sb, by omega, by omega, by omega, by omega, hs⟩
  obtain rfl := hS.same
  exact ⟨n, k, o, hS⟩
def wSimilarityOf (p : Int) (a b : SSt) : Mat × Bool := if simB p a b = true then ((a.1, simX p a.1.toNat a b), true) else ((0, []), false)
theorem sim_head {p : Int} {a b : SSt} {M S T : Option Bool} (hM : ssB p a = true → M = some (minB p a)) (hS : ssB p b = true → S = some (minB p b)) (hT : twoB p a b = true → T = some (sameB p a b)) {two : Option Bool} (h2 : two = some (twoB p a b)) :
    (two.bind fun y50 =>
    (some (!y50)).bind fun a53 =>
    cond a53
    (some true)
    (M.bind fun y56 =>
      (some (!y56)).bind fun a59 =>
      cond a59
      (some true)
      (S.bind fun y62 =>
        (some (!y62)).bind fun a65 =>
        cond a65
        (some true)
        (T.bind fun y68 =>
          (some (!y68)).bind fun a71 =>
          some a71)))) = some (!simB p a b) := by
  unfold simB
  refine bndN h2 (fun h => rfl) (fun h => ?_)
  have h' := h
  unfold twoB at h'
  simp only [Bool.and_eq_true] at h'
  refine stp (cFW rfl (bndN (hM h'.1) (fun _ => rfl) (fun _ => stp (cFW rfl (bndN (hS h'.2.1) (fun _ => rfl) (fun _ => stp (cFW rfl (bnd (hT h) rfl))))))))
theorem implSimilarityOf (p : Int) (a b : SSt) : F_impl_SimilarityOf p a b = some (wSimilarityOf p a b) := by
  refine bnd (sim_head (p := p) (a := a) (b := b) (fun h => isMinimal_ h) (fun h => isMinimal_ h) (fun h => sameImpl h) (twoSS p a b)) ?_
  unfold wSimilarityOf
  cases h : simB p a b with
  | false => rfl
  | true =>
    obtain ⟨n, k, o, hS⟩ := simB_ok h
    have e1 := hS.sa.h1; have f1 := hS.sb.h1
    have hn := hS.sa.hn; have hk := hS.sa.hk
    obtain ⟨a1, a2⟩ := hS.stkA n
    obtain ⟨b1, b2⟩ := hS.stkB n
    have hnk : n * k ≤ 24 * 8 := Nat.mul_le_mul hn hk
    have hle := hS.stk_le
    have hr := reduction_ (n := n) hS.hf (Nat.le_refl n) (by omega) b1 a1 (by omega) (by omega)
    have hal := (redLoop_ok (p := p) (fdB_rng hS.hf).1 n 0 (stk p n b.2.2.2.1 b.2.2.2.2.1 n) (stk p n a.2.2.2.1 a.2.2.2.2.1 n) 0 b1 a1 (by omega) (Nat.zero_le _)).2.2.2.1
    rw [if_pos rfl]
    refine cFW rfl (bnd (reachedRows_ hS.sb hS.hf) (bnd (reachedRows_ hS.sa hS.hf) ?_))
    rw [f1, e1, Int.toNat_natCast]
    exact bnd hr (bnd (slice0 (by dsimp only; omega)) rfl)
theorem mul_ans {p : Int} {n : Nat} {Z mine other V : Rows} (hf : fdB p = true) (hn : n ≤ 24) (h : Pr p n Z mine other) (hl : other.length = n) (hV : okM p n V) (hVl : V.length = n) (hv : ∀ i j, i < n → j < n → sg n (fun t => el (gr V i) t * el (gr other t) j) % p = (if i = j then 1 else 0) % p) : Ans p n Z (mulM p n V mine) := by
  have hm : maxN = 1099511627776 := rfl
  have hp := fdB_rng hf
  have hml := h.l
  refine ⟨mulM_ok hp (by omega) h.m hV (by omega), by rw [mulM_len]; exact hVl, fun i hi => ?_⟩
  have hY : ∃ Y : Nat → Nat → Int, ∀ t, t < n → ∀ c, c < n + n → el (gr other t ++ gr mine t) c % p = sg Z.length (fun q => Y t q * el (gr Z q) c) % p := by
    refine ⟨fun t => if h' : t < other.length then Classical.choose (h.sp t h') else fun _ => 0, fun t ht => ?_⟩
    have h' : t < other.length := by omega
    simp only [dif_pos h']
    exact Classical.choose_spec (h.sp t h')
  obtain ⟨Y, hY⟩ := hY
  have hVi := (hV _ (gr_mem (i := i) (by omega))).1
  have hul : (unitN n i).length = n := by simp [unitN]
  refine ⟨fun q => sg n (fun t => el (gr V i) t * Y t q), fun c hc => ?_⟩
  have e : sg Z.length (fun q => sg n (fun t => el (gr V i) t * Y t q) * el (gr Z q) c) = sg n (fun t => el (gr V i) t * sg Z.length (fun q => Y t q * el (gr Z q) c)) := by
    rw [sg_congr (g := fun q => sg n (fun t => el (gr V i) t * Y t q * el (gr Z q) c)) (fun q _ => (sg_mulr _ _ _).symm), sg_comm]
    refine sg_congr fun t _ => ?_
    rw [← sg_mul]
    exact sg_congr fun q _ => Int.mul_assoc _ _ _
  rw [e, sg_mod (f := fun t => el (gr V i) t * sg Z.length (fun q => Y t q * el (gr Z q) c)) (g := fun t => el (gr V i) t * el (gr other t ++ gr mine t) c) (fun t ht => by rw [← mul_mod2, ← hY t ht c hc, mul_mod2])]
  by_cases hcn : c < n
  · rw [el_app, if_pos (by omega), unit_elN hi, ← hv i c hi hcn]
    exact congrArg (· % p) (sg_congr fun t ht => by rw [el_app, if_pos (by rw [(h.o _ (gr_mem (by omega))).1]; exact hcn)])
  · rw [el_app, if_neg (by omega), hul, gr_mulM (by omega), el_combR hp.1 h.m (by omega) (by omega), mod_mod, hml, hl]
    exact congrArg (· % p) (sg_congr fun t ht => by rw [el_app, if_neg (by rw [(h.o _ (gr_mem (by omega))).1]; exact hcn), (h.o _ (gr_mem (by omega))).1])
theorem specSimilarityOf (p : Int) (a b : SSt) : F_spec_SimilarityOf p a b = some (wSimilarityOf p a b) := by
  have hmx : maxN = 1099511627776 := rfl
  refine bnd (sim_head (p := p) (a := a) (b := b) (fun h => ssMinimal_ h) (fun h => ssMinimal_ h) (fun h => sameSpec h) (ssTwo p a b)) ?_
  unfold wSimilarityOf
  cases h : simB p a b with
  | false => rfl
  | true =>
    obtain ⟨n, k, o, hS⟩ := simB_ok h
    have hp := fdB_rng hS.hf
    have e1 := hS.sa.h1; have f1 := hS.sb.h1
    have hn := hS.sa.hn; have hk := hS.sa.hk
    have pa := pw_ok hS.hf (by omega) hS.sa.a.2 hS.sa.a.1 hS.sa.b.2 hS.sa.b.1
    have pb := pw_ok hS.hf (by omega) hS.sb.a.2 hS.sb.a.1 hS.sb.b.2 hS.sb.b.1
    obtain ⟨z1, z2⟩ := hS.zz_ok n
    obtain ⟨a1, a2⟩ := hS.stkA n
    obtain ⟨b1, b2⟩ := hS.stkB n
    rw [if_pos rfl]
    have cA := ssCopy_ (m := a.2.2.2.2.1) (by have := hS.sa.b.1; omega) (fun r hr => by have := (hS.sa.b.2 r hr).1; omega)
    have cB := ssCopy_ (m := b.2.2.2.2.1) (by have := hS.sb.b.1; omega) (fun r hr => by have := (hS.sb.b.2 r hr).1; omega)
    have hrow : ∀ j, j < n → ∀ t, t < k → inSpan p (n + n) (zz p n n a b n) (gr (pw p n b.2.2.2.1 b.2.2.2.2.1 j) t ++ gr (pw p n a.2.2.2.1 a.2.2.2.2.1 j) t) := by
      have key : ∀ K, ∀ j, j < K → ∀ t, t < k → ∃ i, i < K * k ∧ gr (zz p n n a b K) i = gr (pw p n b.2.2.2.1 b.2.2.2.2.1 j) t ++ gr (pw p n a.2.2.2.1 a.2.2.2.2.1 j) t := by
        intro K
        induction K with
        | zero => intro j hj; omega
        | succ K ih =>
          intro j hj t ht
          obtain ⟨sa1, sa2⟩ := hS.stkA K
          obtain ⟨sb1, sb2⟩ := hS.stkB K
          obtain ⟨ta1, ta2⟩ := hS.stkA (K + 1)
          obtain ⟨tb1, tb2⟩ := hS.stkB (K + 1)
          by_cases hjK : j < K
          · obtain ⟨i, i1, i2⟩ := ih j hjK t ht
            refine ⟨i, by rw [Nat.succ_mul]; omega, ?_⟩
            rw [← i2]
            unfold zz
            rw [catM_gr (by omega), catM_gr (by omega)]
            show gr (stk p n b.2.2.2.1 b.2.2.2.2.1 K ++ _) i ++ gr (stk p n a.2.2.2.1 a.2.2.2.2.1 K ++ _) i = _
            rw [gr_app1 (by omega), gr_app1 (by omega)]
          · obtain rfl : j = K := by omega
            refine ⟨j * k + t, by rw [Nat.succ_mul]; omega, ?_⟩
            unfold zz
            rw [catM_gr (by omega)]
            show gr (stk p n b.2.2.2.1 b.2.2.2.2.1 j ++ _) (j * k + t) ++ gr (stk p n a.2.2.2.1 a.2.2.2.2.1 j ++ _) (j * k + t) = _
            rw [← sb2, gr_app2, sb2, ← sa2, gr_app2]
      intro j hj t ht
      obtain ⟨i, i1, i2⟩ := key n j hj t ht
      rw [← i2]
      exact inSpan_row (by omega)
    obtain ⟨r, h1, h2, h3⟩ := whileO_num (s := (b.2.2.2.2.1, ([] : Rows), ([] : Rows), a.2.2.2.2.1)) (f := fun (s20984 : List (List Int) × List (List Int) × List (List Int) × List (List Int)) =>
        (some (decide (((s20984.2.2.1.length : Nat) : Int) < a.1))).bind fun a20999 =>
        cond a20999
        ((forS (fun (k21004 : Nat) (s21933 : List (List Int) × List (List Int)) =>
              ((appO ([] : List (List Int)) s21933.2).bind fun a22218 =>
                (idxO s20984.1 ((k21004 : Nat) : Int)).bind fun a22229 =>
                (appO a22218 [a22229]).bind fun a22237 =>
                some a22237).bind fun (s22156 : List (List Int)) =>
              (F_spec_spReduce p a.1 s22156).bind fun y22377 =>
              (some (decide (((y22377.length : Nat) : Int) = ((s22156.length : Nat) : Int)))).bind fun a22382 =>
              cond a22382
              ((idxO s20984.2.2.2 ((k21004 : Nat) : Int)).bind fun a22392 =>
                (appO s21933.1 [a22392]).bind fun a22400 =>
                some (a22400, s22156))
              (some (s21933.1, s21933.2))) s20984.1.length 0 (s20984.2.1, s20984.2.2.1)).bind fun (s22407 : List (List Int) × List (List Int)) =>
          (F_spec_ssTimes p a.1 s20984.2.2.2 a.2.2.2.1).bind fun y22412 =>
          (F_spec_ssTimes p a.1 s20984.1 b.2.2.2.1).bind fun y22417 =>
          some (.inl (y22417, s22407.1, s22407.2, y22412)))
        (some (.inr (s20984.2.1, s20984.2.2.1)))) (fun j s => s.1 = pw p n b.2.2.2.1 b.2.2.2.2.1 j ∧ s.2.2.2 = pw p n a.2.2.2.1 a.2.2.2.2.1 j ∧ Pr p n (zz p n n a b n) s.2.1 s.2.2.1 ∧ subSpan p n (stk p n b.2.2.2.1 b.2.2.2.2.1 j) s.2.2.1)
      (fun r => Pr p n (zz p n n a b n) r.1 r.2 ∧ r.2.length = n) n (by
        rintro j ⟨y, m, ot, x⟩ hj ⟨hy, hx, hpr, hsub⟩
        dsimp only at hy hx hpr hsub ⊢
        subst hy hx
        have hle := hpr.le hS.hf
        by_cases hc : ot.length < n
        · have hjn : j < n := by
            apply Classical.byContradiction
            intro hge
            obtain rfl : j = n := by omega
            have hw : ∀ v, inSpan p j ot v := fun v => inSpan_trans hsub (hS.whole v)
            have := hS.full hpr.o hw
            have := (indep_iff hS.hf hpr.o).1 hpr.i
            omega
          obtain ⟨q, q1, q2, q3, q4⟩ := inner_ (N := a.1) hS.hf hn e1 (pb j).1 (pa j).1 (by rw [(pa j).2, (pb j).2]) (fun t ht => hrow j hjn t (by have := (pb j).2; omega)) hpr
          have t1 := ssTimes_ (n := n) hp (by omega) hS.sa.a.2 (pa j).1 (by rw [hS.sa.a.1]; exact Nat.le_refl _) (by have := (pa j).2; omega)
          have t2 := ssTimes_ (n := n) hp (by omega) hS.sb.a.2 (pb j).1 (by rw [hS.sb.a.1]; exact Nat.le_refl _) (by have := (pb j).2; omega)
          refine .inl ⟨(pw p n b.2.2.2.1 b.2.2.2.2.1 (j + 1), q.1, q.2, pw p n a.2.2.2.1 a.2.2.2.2.1 (j + 1)), stp (cTW (dT (by omega)) (bnd q1 ?_)), ⟨rfl, rfl, q2, app_span (subSpan_trans hsub q3) q4⟩, hjn⟩
          rw [e1]
          exact bnd t1 (bnd t2 rfl)
        · refine .inr ⟨(m, ot), stp (cFW (dF (by omega)) rfl), hpr, ?_⟩
          dsimp only
          omega) ⟨rfl, rfl, ⟨fun r hr => (by cases hr), fun r hr => (by cases hr), rfl, fun x hx i hi => (by simp at hi), fun t ht => (by simp at ht)⟩, fun i hi => (by simp [stk] at hi)⟩
    obtain ⟨V, v1, v2, v3, v4⟩ := ssInverse_ hS.hf hn h2.o h3 h2.i
    have hans := mul_ans hS.hf hn h2 h3 v2 v3 v4
    have hX := hS.ans hans hS.simX_ans
    have t3 := ssTimes_ (n := n) hp (by omega) h2.m v2 (by have := h2.l; omega) (by omega)
    refine cFW rfl (bnd cA (bnd cB (bnd h1 (bnd v1 ?_))))
    rw [e1, Int.toNat_natCast]
    refine bnd t3 ?_
    rw [hX]
theorem boundSimilarityOf_0 (p : Int) (a b : SSt) : nMatrix (wSimilarityOf p a b).1 ≤ 1048576 := by
  unfold wSimilarityOf
  cases h : simB p a b with
  | false =>
    show nMatrix ((0, []) : Mat) ≤ _
    decide
  | true =>
    obtain ⟨n, k, o, hS⟩ := simB_ok h
    have e1 := hS.sa.h1; have hn := hS.sa.hn
    rw [if_pos rfl, show a.1.toNat = n by omega]
    have hX := hS.simX_ans
    exact rowsN_small hX.ok (by omega) (by rw [hX.len]; omega)
end Go.Proofs.YtocpeclcoikdpaaDoor
namespace Go.Proofs.YtocpeclcoikdpaaDoor
set_option linter.unusedVariables false
theorem lawN_SimilarityOf (a0 : Int) (a1 : TyStateSpace) (a2 : TyStateSpace) (i0 : Nice.ok a0) (i1 : Nice.ok a1) (i2 : Nice.ok a2) : F_laws_FnExactSimilarityOf a0 a1 a2 = some true := by
  have hbig : bigN = 4611686018427387904 := rfl
  refine bnd (z_StateSpace a1 1048576 (by omega) (by rw [hbig]; omega) (niceLensStateSpace i1)) (stp ?_)
  by_cases gaA : (nStateSpace a1 : Int) ≤ 1048576
  case neg => rw [if_neg gaA]; exact cTW (dT (by omega)) rfl
  rw [if_pos gaA]
  refine cFW (dF (by omega)) ?_
  have haA : nStateSpace a1 ≤ 1048576 := by omega
  refine bnd (z_StateSpace a2 (1048576 - (nStateSpace a1 : Int)) (by omega) (by rw [hbig]; omega) (niceLensStateSpace i2)) (stp ?_)
  by_cases gaB : (nStateSpace a2 : Int) ≤ 1048576 - (nStateSpace a1 : Int)
  case neg => rw [if_neg gaB]; exact cTW (dT (by omega)) rfl
  rw [if_pos gaB]
  refine cFW (dF (by omega)) ?_
  have haB : nStateSpace a2 ≤ 1048576 := by omega
  first
  | refine bnd (t_StateSpace a1 haA) (bnd (t_StateSpace a2 haB) (bnd (specSimilarityOf a0 a1 a2) ?_))
  | refine bnd (bnd (t_StateSpace a1 haA) (bnd (t_StateSpace a2 haB) (bnd (specSimilarityOf a0 a1 a2) rfl))) ?_
  refine bnd (t_StateSpace a1 haA) ?_
  refine bnd (t_StateSpace a2 haB) ?_
  refine bnd (implSimilarityOf a0 a1 a2) ?_
  have b0 : nMatrix (wSimilarityOf a0 a1 a2).1 ≤ 1048576 := boundSimilarityOf_0 a0 a1 a2
  have cb0 := cMatrix_le (wSimilarityOf a0 a1 a2).1
  refine bnd (a := false) (bnd (e_Matrix _ b0) (stp (cFW rfl (stp (congrArg some (nT (dT rfl))))))) (cFW rfl ?_)
  refine bnd (t_StateSpace _ haA) (bnd (e_StateSpace _ haA) (stp (cFW rfl ?_)))
  refine bnd (t_StateSpace _ haB) (bnd (e_StateSpace _ haB) (stp (cFW rfl ?_)))
  have caA := cStateSpace_le a1
  refine bnd (m_StateSpace a1 _ (by omega) (by omega)) ?_
  have caB := cStateSpace_le a2
  refine bnd (m_StateSpace a2 _ (by simp only [mk_StateSpace_snd]; omega) (by simp only [mk_StateSpace_snd]; omega)) ?_
  refine bnd (a := false) (stp (cFW (dF (by simp only [mk_StateSpace_snd]; omega)) (bnd (e_Matrix _ b0) (stp (cFW rfl (stp (congrArg some (nT (dT rfl))))))))) (cFW rfl ?_)
  refine bnd (m_Matrix (wSimilarityOf a0 a1 a2).1 _ (by omega) (by omega)) ?_
  refine bnd (h_Matrix (wSimilarityOf a0 a1 a2).1 _ (by omega) (by omega)) (stp (cFW (dF (by omega)) ?_))
  refine stp (cFW (nT (dT (by simp only [mk_Matrix_snd]))) ?_)
  first
  | refine bnd (t_StateSpace a1 haA) (bnd (t_StateSpace a2 haB) (bnd (implSimilarityOf a0 a1 a2) ?_))
  | refine bnd (bnd (t_StateSpace a1 haA) (bnd (t_StateSpace a2 haB) (bnd (implSimilarityOf a0 a1 a2) rfl))) ?_
  refine bnd (a := false) (bnd (e_Matrix _ b0) (stp (cFW rfl (stp (congrArg some (nT (dT rfl))))))) (cFW rfl ?_)
  refine bnd (h_Matrix (wSimilarityOf a0 a1 a2).1 _ (by omega) (by omega)) (stp (cFW (dF (by omega)) ?_))
  refine stp (cFW (nT (dT (by simp only [mk_Matrix_snd]))) ?_)
  rfl
end Go.Proofs.YtocpeclcoikdpaaDoor
