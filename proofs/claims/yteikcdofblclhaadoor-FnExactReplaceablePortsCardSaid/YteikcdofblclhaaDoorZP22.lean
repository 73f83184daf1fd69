/-
  Plain laws: rows beside rows in a reduction; choices of inputs and their functions. No program in sight. No condition.
-/
import Derived.Test.YteikcdofblclhaaDoorZP21
namespace Go.Proofs.YteikcdofblclhaaDoor
set_option linter.unusedVariables false

/-! ### rows beside rows -/
def catM (m a : Rows) : Rows := List.zipWith (fun x y => x ++ y) m a
theorem catM_len {m a : Rows} (h : a.length = m.length) : (catM m a).length = m.length := by simp [catM, h]
theorem catM_gr : ∀ {m a : Rows} {i : Nat}, a.length = m.length → gr (catM m a) i = gr m i ++ gr a i
  | [], [], i, _ => by simp [catM, gr]
  | [], _ :: _, _, h => by simp at h
  | _ :: _, [], _, h => by simp at h
  | x :: m, y :: a, 0, _ => by rw [gr_zero, gr_zero]; rfl
  | x :: m, y :: a, i + 1, h => by
    rw [gr_succ, gr_succ]
    show gr ((x ++ y) :: catM m a) (i + 1) = _
    rw [gr_succ]
    exact catM_gr (by simpa using h)
theorem el_app {x y : List Int} {j : Nat} : el (x ++ y) j = if j < x.length then el x j else el y (j - x.length) := by
  unfold el
  rw [List.getD_eq_getElem?_getD, List.getD_eq_getElem?_getD, List.getD_eq_getElem?_getD]
  split
  · rename_i h; rw [List.getElem?_append_left h]
  · rename_i h; rw [List.getElem?_append_right (by omega)]
theorem catM_ok {p : Int} {k q : Nat} {m a : Rows} (hl : a.length = m.length) (h : okM p k m) (ha : okM p q a) : okM p (k + q) (catM m a) := by
  intro x hx
  obtain ⟨i, hi, rfl⟩ := List.mem_iff_getElem.1 hx
  rw [catM_len hl] at hi
  have e : gr (catM m a) i = (catM m a)[i]'(by rw [catM_len hl]; exact hi) := by have := gr_get (m := catM m a) (i := i) (by rw [catM_len hl]; exact hi); rw [List.getElem?_eq_getElem] at this; exact (Option.some.inj this).symm
  rw [← e, catM_gr hl]
  exact okR_app (okM_gr h hi) (okM_gr ha (by omega))
theorem catM_el {p : Int} {k : Nat} {m a : Rows} (hl : a.length = m.length) (h : okM p k m) {i c : Nat} (hi : i < m.length) (hc : c < k) : el (gr (catM m a) i) c = el (gr m i) c := by
  rw [catM_gr hl, el_app, if_pos (by rw [(okM_gr h hi).1]; exact hc)]
theorem catM_scan {p : Int} {k : Nat} {m a : Rows} (hl : a.length = m.length) (h : okM p k m) {c : Nat} (hc : c < k) : ∀ (d i : Nat), i + d ≤ m.length → scanN (catM m a) c d i = scanN m c d i
  | 0, _, _ => rfl
  | d + 1, i, hi => by
    unfold scanN
    rw [catM_el hl h (by omega) hc, catM_scan hl h hc d (i + 1) (by omega)]
theorem catM_swap {m a : Rows} {r k i : Nat} (hl : a.length = m.length) (hr : r < m.length) (hk : k < m.length) : gr (swapM (catM m a) r k) i = gr (swapM m r k) i ++ gr (swapM a r k) i := by
  have hcl := catM_len hl
  rw [swapM_gr2 (by rw [hcl]; exact hr) (by rw [hcl]; exact hk), swapM_gr2 hr hk, swapM_gr2 (m := a) (by omega) (by omega)]
  split
  · exact catM_gr hl
  · split <;> exact catM_gr hl
theorem catM_step {p : Int} {c r k w q : Nat} {m a : Rows} (hf : fdB p = true) (h : okM p w m) (ha : okM p q a) (hl : a.length = m.length) (hr : r < m.length) (hk : k < m.length) (hc : c < w) (hne : el (gr m k) c ≠ 0) :
    stepA p c (catM m a) (catM m a) r k = catM (stepA p c m m r k) (stepA p c m a r k) := by
  have hp := fdB_rng hf
  have hcl := catM_len hl
  have hco := catM_ok hl h ha
  have hne2 : el (gr (catM m a) k) c ≠ 0 := by rw [catM_el hl h hk hc]; exact hne
  obtain ⟨f1, f2, f3⟩ := stepA_el hf hco hco rfl (by rw [hcl]; exact hr) (by rw [hcl]; exact hk) (by omega) hne2
  obtain ⟨g1, g2, g3⟩ := stepA_el hf h h rfl hr hk hc hne
  obtain ⟨k1, k2, k3⟩ := stepA_el hf h ha hl hr hk hc hne
  have l1 : (stepA p c (catM m a) (catM m a) r k).length = m.length := by rw [stepA_len, hcl]
  have l2 : (stepA p c m m r k).length = m.length := stepA_len p c m m r k
  have l3 : (stepA p c m a r k).length = m.length := by rw [stepA_len, hl]
  have o1 : okM p (w + q) (stepA p c (catM m a) (catM m a) r k) := stepA_ok hp.1 hco (by rw [hcl]; exact hr) (by rw [hcl]; exact hk)
  have o2 : okM p w (stepA p c m m r k) := stepA_ok hp.1 h hr hk
  have o3 : okM p q (stepA p c m a r k) := stepA_ok hp.1 ha (by omega) (by omega)
  rw [hcl] at f3
  have hrow : ∀ j, j < w + q → el (gr (stepA p c (catM m a) (catM m a) r k) r) j = el (gr (stepA p c m m r k) r ++ gr (stepA p c m a r k) r) j := fun j hj => by
    rw [f2 j hj, catM_el hl h hk hc, catM_gr hl, el_app, el_app, (okM_gr h hk).1, (okM_gr o2 (i := r) (by omega)).1]
    split
    · rw [g2 j (by omega)]
    · rw [k2 _ (by omega)]
  refine ext_gr (by rw [catM_len (by rw [l3, l2]), l1, l2]) fun i hi => ?_
  rw [l1] at hi
  rw [catM_gr (by rw [l3, l2])]
  have wi := (okM_gr o2 (i := i) (by omega)).1
  refine ext_el (by rw [List.length_append, (okM_gr o1 (i := i) (by omega)).1, wi, (okM_gr o3 (i := i) (by omega)).1]) fun j hj => ?_
  rw [(okM_gr o1 (i := i) (by omega)).1] at hj
  by_cases hir : i = r
  · subst hir; exact hrow j hj
  · have hsm : okM p w (swapM m r k) := swapM_ok h hr hk
    have ws := (okM_gr hsm (i := i) (by rw [swapM_len]; exact hi)).1
    have wr := (okM_gr o2 (i := r) (by omega)).1
    rw [f3 i hi hir j hj, hrow j hj, catM_swap hl hr hk, el_app, el_app, el_app, el_app, ws, wr, wi, if_pos hc]
    split
    · rename_i hjw; rw [g3 i hi hir j hjw]
    · rename_i hjw; rw [k3 i hi hir _ (by omega)]
theorem catM_loop {p : Int} {w q : Nat} (hf : fdB p = true) : ∀ (d c : Nat) (m a : Rows) (r : Nat), c + d ≤ w → okM p w m → okM p q a → a.length = m.length → r ≤ m.length →
    redLoop p d c (catM m a) (catM m a) r = (catM (redLoop p d c m a r).1 (redLoop p d c m a r).2.1, catM (redLoop p d c m a r).1 (redLoop p d c m a r).2.1, (redLoop p d c m a r).2.2)
  | 0, _, _, _, _, _, _, _, _, _ => rfl
  | d + 1, c, m, a, r, hd, h, ha, hl, hr => by
    have hcl := catM_len hl
    unfold redLoop
    rw [hcl]
    by_cases hrl : r < m.length
    · rw [if_pos hrl, if_pos hrl, catM_scan hl h (by omega) (m.length - r) r (by omega)]
      obtain ⟨s1, s2, s3⟩ := scanN_spec m c (m.length - r) r (by omega)
      split
      · exact catM_loop hf d (c + 1) m a r (by omega) h ha hl hr
      · rename_i hk
        have hkl : scanN m c (m.length - r) r < m.length := by omega
        rw [catM_step hf h ha hl hrl hkl (by omega) (s3 hkl)]
        have ha2 : okM p q (stepA p c m a r (scanN m c (m.length - r) r)) := stepA_ok (fdB_rng hf).1 ha (by omega) (by omega)
        exact catM_loop hf d (c + 1) (stepA p c m m r (scanN m c (m.length - r) r)) (stepA p c m a r (scanN m c (m.length - r) r)) (r + 1) (by omega) (stepA_ok (fdB_rng hf).1 h hrl hkl) ha2 (by rw [stepA_len, stepA_len]; exact hl) (by rw [stepA_len]; omega)
    · rw [if_neg hrl, if_neg hrl]
theorem redLoop_split (p : Int) : ∀ (d e c : Nat) (m a : Rows) (r : Nat), redLoop p (d + e) c m a r = redLoop p e (c + d) (redLoop p d c m a r).1 (redLoop p d c m a r).2.1 (redLoop p d c m a r).2.2
  | 0, e, c, m, a, r => by rw [Nat.zero_add]; rfl
  | d + 1, e, c, m, a, r => by
    rw [show d + 1 + e = (d + e) + 1 by omega]
    have e1 : redLoop p (d + 1) c m a r = if r < m.length then (if scanN m c (m.length - r) r = m.length then redLoop p d (c + 1) m a r else redLoop p d (c + 1) (stepA p c m m r (scanN m c (m.length - r) r)) (stepA p c m a r (scanN m c (m.length - r) r)) (r + 1)) else (m, a, r) := rfl
    have e2 : redLoop p ((d + e) + 1) c m a r = if r < m.length then (if scanN m c (m.length - r) r = m.length then redLoop p (d + e) (c + 1) m a r else redLoop p (d + e) (c + 1) (stepA p c m m r (scanN m c (m.length - r) r)) (stepA p c m a r (scanN m c (m.length - r) r)) (r + 1)) else (m, a, r) := rfl
    rw [e1, e2, show c + (d + 1) = c + 1 + d by omega]
    by_cases hrl : r < m.length
    · rw [if_pos hrl, if_pos hrl]
      split
      · exact redLoop_split p d e (c + 1) m a r
      · exact redLoop_split p d e (c + 1) _ _ (r + 1)
    · rw [if_neg hrl, if_neg hrl]
      cases e with
      | zero => rfl
      | succ e =>
        have e3 : redLoop p (e + 1) (c + 1 + d) m a r = if r < m.length then (if scanN m (c + 1 + d) (m.length - r) r = m.length then redLoop p e (c + 1 + d + 1) m a r else redLoop p e (c + 1 + d + 1) (stepA p (c + 1 + d) m m r (scanN m (c + 1 + d) (m.length - r) r)) (stepA p (c + 1 + d) m a r (scanN m (c + 1 + d) (m.length - r) r)) (r + 1)) else (m, a, r) := rfl
        rw [e3, if_neg hrl]
theorem redLoop_full (p : Int) (d c : Nat) (m a : Rows) : redLoop p d c m a m.length = (m, a, m.length) := by
  cases d with
  | zero => rfl
  | succ d =>
    have e : redLoop p (d + 1) c m a m.length = if m.length < m.length then (if scanN m c (m.length - m.length) m.length = m.length then redLoop p d (c + 1) m a m.length else redLoop p d (c + 1) (stepA p c m m m.length (scanN m c (m.length - m.length) m.length)) (stepA p c m a m.length (scanN m c (m.length - m.length) m.length)) (m.length + 1)) else (m, a, m.length) := rfl
    rw [e, if_neg (Nat.lt_irrefl _)]

/-! ### choices -/
theorem chosL_app (l l' r : List Int) : chosL (l ++ l') r = chosL l r ++ chosL l' r := by simp [chosL]
theorem chosM_app (b : Rows) (l l' : List Int) : chosM b (l ++ l') = catM (chosM b l) (chosM b l') := by
  unfold chosM catM
  induction b with
  | nil => rfl
  | cons x b ih => simp only [List.map_cons, List.zipWith_cons_cons, ih, chosL_app]
/-- what the reduction of the rows at the ports makes -/
def chT (p : Int) (n : Nat) (b : Rows) (l : List Int) : Rows × Rows × Nat := redLoop p l.length 0 (chosM b l) (chosM b (restL l n)) 0
def choB (p : Int) (n : Nat) (b : Rows) (l : List Int) : Bool := decide (l.length = b.length) && decide ((chT p n b l).2.2 = l.length)
theorem lead_app {x y : List Int} (h : leadN x < x.length) : leadN (x ++ y) = leadN x := by
  refine leadN_eq (fun j hj => ?_) ?_
  · rw [el_app, if_pos (by omega)]; exact leadN_z x j hj
  · rw [el_app, if_pos h]; exact leadN_nz x h
theorem inc_id {g : Nat → Nat} {k : Nat} (h1 : ∀ i, i < k → g i < k) (h2 : ∀ i j, i < j → j < k → g i < g j) : ∀ i, i < k → g i = i := by
  have lo : ∀ i, i < k → i ≤ g i := fun i hi => by
    induction i with
    | zero => exact Nat.zero_le _
    | succ i ih => have := ih (by omega); have := h2 i (i + 1) (by omega) hi; omega
  have hi : ∀ d i, i + d + 1 = k → g i ≤ i := fun d => by
    induction d with
    | zero => intro i hi; have := h1 i (by omega); omega
    | succ d ih => intro i hi; have := ih (i + 1) (by omega); have := h2 i (i + 1) (by omega) (by omega); omega
  intro i hik
  have := lo i hik
  have := hi (k - 1 - i) i (by omega)
  omega
theorem chT_facts {p : Int} {n : Nat} {b : Rows} {l : List Int} (hf : fdB p = true) (hb : okM p n b) (hl : Ports l n) :
    (chT p n b l).1.length = b.length ∧ (chT p n b l).2.1.length = b.length ∧ okM p l.length (chT p n b l).1 ∧ okM p (restL l n).length (chT p n b l).2.1 ∧ (chT p n b l).2.2 ≤ b.length ∧ (chT p n b l).2.2 ≤ l.length ∧ RedI l.length (chT p n b l).2.2 (chT p n b l).1 := by
  have hp := fdB_rng hf
  have o1 := chosM_ok hp.1 hb hl.rng
  have o2 := chosM_ok hp.1 hb (rest_below l n)
  obtain ⟨k1, k2, k3, k4, k5, k6, k7⟩ := redLoop_ok hp.1 l.length 0 (chosM b l) (chosM b (restL l n)) 0 o1 o2 (by rw [chosM_len, chosM_len]) (by omega)
  rw [chosM_len] at k3 k4 k6
  have hr := redLoop_RedI hf l.length (chosM b l) (chosM b (restL l n)) o1 (Nat.le_refl _)
  exact ⟨k3, k4, k1, k2, k6, by unfold chT; omega, hr⟩
theorem redM_of {p : Int} {n d e : Nat} {C C' : Rows} {r : Nat} (hn : d + e = n) (h : redLoop p d 0 C C 0 = (C', C', r)) (hr : r = C'.length) : redM p n C = C' := by
  unfold redM
  rw [← hn, redLoop_split p d e 0 C C 0, h]
  show (redLoop p e (0 + d) C' C' r).1.take (redLoop p e (0 + d) C' C' r).2.2 = C'
  rw [hr, redLoop_full]
  exact List.take_of_length_le (Nat.le_refl _)
/-- the reduction of whole rows, if the ports are a choice -/
theorem cho_rows {p : Int} {n : Nat} {b : Rows} {l : List Int} (hf : fdB p = true) (hb : okM p n b) (hl : Ports l n) (hlen : l.length = b.length) (hr : (chT p n b l).2.2 = l.length) (hn : l.length + (restL l n).length = n) :
    redM p n (chosM b (l ++ restL l n)) = catM (chT p n b l).1 (chT p n b l).2.1 ∧ ∀ i, i < l.length → leadN (gr (catM (chT p n b l).1 (chT p n b l).2.1) i) = i := by
  have hp := fdB_rng hf
  have o1 := chosM_ok hp.1 hb hl.rng
  have o2 := chosM_ok hp.1 hb (rest_below l n)
  obtain ⟨k1, k2, k3, k4, k5, k6, k7⟩ := chT_facts hf hb hl
  have hc := catM_loop hf l.length 0 (chosM b l) (chosM b (restL l n)) 0 (by omega) o1 o2 (by rw [chosM_len, chosM_len]) (by omega)
  have hcl : (catM (chT p n b l).1 (chT p n b l).2.1).length = b.length := by rw [catM_len (by rw [k1, k2]), k1]
  constructor
  · refine redM_of hn (r := (chT p n b l).2.2) ?_ (by rw [hcl, hr, hlen])
    rw [chosM_app]; exact hc
  · rw [hr] at k7
    have hid := inc_id (g := fun i => leadN (gr (chT p n b l).1 i)) k7.lt k7.inc
    intro i hi
    have hw := (okM_gr k3 (i := i) (by omega)).1
    have h1 := k7.lt i hi
    rw [catM_gr (by rw [k1, k2]), lead_app (by rw [hw]; exact h1)]
    exact hid i hi
/-- and if they are none, some lead lies elsewhere -/
theorem cho_not {p : Int} {n : Nat} {b : Rows} {l : List Int} (hf : fdB p = true) (hb : Red p n b) (hl : Ports l n) (hlen : l.length = b.length) (hn : l.length + (restL l n).length = n) (hall : ∀ i, i < (redM p n (chosM b (l ++ restL l n))).length → leadN (gr (redM p n (chosM b (l ++ restL l n))) i) = i) :
    (chT p n b l).2.2 = l.length := by
  have hp := fdB_rng hf
  have hbel := below_app hl.rng (rest_below l n)
  have hal : (l ++ restL l n).length = n := by rw [List.length_append]; exact hn
  have oC := chosM_ok hp.1 hb.ok hbel
  rw [hal] at oC
  have hind := indep_chos hb.indep (l := l ++ restL l n) (fun q hq => ports_all hl hq)
  rw [hal] at hind
  have hR := (indep_iff hf oC).1 hind
  rw [chosM_len] at hR
  have hred := redM_red hf oC
  obtain ⟨k1, k2, k3, k4, k5, k6, k7⟩ := chT_facts hf hb.ok hl
  have o1 := chosM_ok hp.1 hb.ok hl.rng
  -- the rows at the ports span all
  have hspan : subSpan p l.length (idN l.length) (redM p l.length (chosM b l)) := by
    refine subSpan_trans ?_ (redM_span hf o1).2
    intro i hi
    rw [idN_len] at hi
    obtain ⟨x, hx⟩ := (redM_span hf oC).1 i (by omega)
    refine ⟨x, fun j hj => ?_⟩
    have h1 := hx j (by omega)
    rw [chosM_len] at h1 ⊢
    have e : gr (idN l.length) i = unitN l.length i := by
      have h2 := gr_get (m := idN l.length) (i := i) (by rw [idN_len]; exact hi)
      unfold idN at h2
      rw [List.getElem?_map, List.getElem?_range hi] at h2
      exact (Option.some.inj h2).symm
    rw [e, unit_el hj]
    have h3 : el (gr (redM p n (chosM b (l ++ restL l n))) i) j = if i = j then 1 else 0 := by
      have lj := hall j (by omega)
      by_cases hij : i = j
      · subst hij
        rw [if_pos rfl]
        have := hred.one i (by omega)
        rw [lj] at this; exact this
      · rw [if_neg hij]
        have := hred.zero j i (by omega) (by omega) (Ne.symm hij)
        rw [lj] at this; exact this
    rw [h3] at h1
    rw [h1]
    congr 1
    refine sg_congr fun t ht => ?_
    rw [chosM_gr ht, chosM_gr ht, chosL_app, el_app, if_pos (by rw [chosL_len]; exact hj)]
  have hid : Red p l.length (idN l.length) := by
    have hg : ∀ i, i < l.length → gr (idN l.length) i = unitN l.length i := fun i hi => by
      have h2 := gr_get (m := idN l.length) (i := i) (by rw [idN_len]; exact hi)
      unfold idN at h2
      rw [List.getElem?_map, List.getElem?_range hi] at h2
      exact (Option.some.inj h2).symm
    have hld : ∀ i, i < l.length → leadN (gr (idN l.length) i) = i := fun i hi => by
      rw [hg i hi]
      exact leadN_eq (fun j hj => by rw [unit_el (by omega), if_neg (by omega)]) (by rw [unit_el hi, if_pos rfl]; omega)
    refine ⟨idN_ok hp.1 _, fun i hi => ?_, fun i hi => ?_, fun i j hi hj hij => ?_, fun i j hij hj => ?_⟩
    · rw [idN_len] at hi; rw [hld i hi]; exact hi
    · rw [idN_len] at hi; rw [hld i hi, hg i hi, unit_el hi, if_pos rfl]
    · rw [idN_len] at hi hj; rw [hld i hi, hg j hj, unit_el hi, if_neg (Ne.symm hij)]
    · rw [idN_len] at hj; rw [hld i (by omega), hld j hj]; exact hij
  have hle := red_len_le hp.1 hid (redM_red hf o1) hspan
  rw [idN_len] at hle
  have e : (redM p l.length (chosM b l)).length = (chT p n b l).2.2 := by
    obtain ⟨e1, e2⟩ := redLoop_any p l.length 0 (chosM b l) (chosM b (restL l n)) (chosM b l) 0
    unfold redM
    rw [← e1, ← e2, List.length_take]
    change min (chT p n b l).2.2 (chT p n b l).1.length = _
    omega
  omega
theorem rest_len {l : List Int} {n : Nat} (hl : Ports l n) : l.length + (restL l n).length = n := by
  have key : ∀ k, k ≤ n → ((List.range k).filter fun q : Nat => decide ((q : Int) ∈ l)).length + (sieve (notIn l) k).length = k := by
    intro k
    induction k with
    | zero => intro _; rfl
    | succ k ih =>
      intro hk
      have := ih (by omega)
      rw [List.range_succ, List.filter_append, List.length_append, sieve_succ]
      unfold notIn at this ⊢
      by_cases h : (k : Int) ∈ l
      · simp [h] at this ⊢; omega
      · simp [h] at this ⊢; omega
  have e : ((List.range n).filter fun q : Nat => decide ((q : Int) ∈ l)).length = l.length := by
    have h1 : ((List.range n).filter fun q : Nat => decide ((q : Int) ∈ l)).map (fun q : Nat => (q : Int)) = l := by
      have hs : Ports (sieve (fun q => decide ((q : Int) ∈ l)) n) n := sieve_ports _ n
      change sieve (fun q => decide ((q : Int) ∈ l)) n = l
      -- two increasing lists with the same members
      have hmem : ∀ x, x ∈ sieve (fun q => decide ((q : Int) ∈ l)) n ↔ x ∈ l := fun x => by
        rw [sieve_mem]
        constructor
        · rintro ⟨q, rfl, h1, h2⟩; exact of_decide_eq_true h2
        · intro h
          obtain ⟨k, hk, rfl⟩ := mem_el.1 h
          have := hl.rng k hk
          exact ⟨(el l k).toNat, by omega, by omega, dT (by rw [show (((el l k).toNat : Nat) : Int) = el l k by omega]; exact h)⟩
      exact inc_ext hs.inc hl.inc hmem
    have := congrArg List.length h1
    rw [List.length_map] at this; exact this
  have := key n (Nat.le_refl _)
  unfold restL
  omega
where
  inc_ext {a b : List Int} (ha : ∀ i j, i < j → j < a.length → el a i < el a j) (hb : ∀ i j, i < j → j < b.length → el b i < el b j) (hm : ∀ x, x ∈ a ↔ x ∈ b) : a = b := by
    have key : ∀ k, (∀ i, i < k → i < a.length → i < b.length ∧ el a i = el b i) ∧ (∀ i, i < k → i < b.length → i < a.length ∧ el a i = el b i) := by
      have one : ∀ (a b : List Int), (∀ i j, i < j → j < a.length → el a i < el a j) → (∀ i j, i < j → j < b.length → el b i < el b j) → (∀ x, x ∈ a ↔ x ∈ b) → ∀ k, (∀ i, i < k → i < a.length → i < b.length ∧ el a i = el b i) → (∀ i, i < k → i < b.length → i < a.length ∧ el a i = el b i) → k < a.length → k < b.length ∧ el b k ≤ el a k := by
        intro a b ha hb hm k h1 h2 hk
        obtain ⟨t, ht, e⟩ := mem_el.1 ((hm _).1 (el_mem hk))
        have hkt : k ≤ t := by
          apply Classical.byContradiction
          intro hlt
          have := (h2 t (by omega) ht)
          have := ha t k (by omega) hk
          omega
        refine ⟨by omega, ?_⟩
        rcases Nat.lt_or_ge k t with h | h
        · have := hb k t h ht; omega
        · have hkt2 : t = k := by omega
          subst hkt2; omega
      intro k
      induction k with
      | zero => exact ⟨fun i hi => by omega, fun i hi => by omega⟩
      | succ k ih =>
        obtain ⟨h1, h2⟩ := ih
        constructor
        · intro i hi hia
          rcases Nat.lt_or_ge i k with h | h
          · exact h1 i h hia
          · have hik : i = k := by omega
            subst hik
            obtain ⟨q1, q2⟩ := one a b ha hb hm i h1 h2 hia
            obtain ⟨q3, q4⟩ := one b a hb ha (fun x => (hm x).symm) i (fun t ht hb' => by obtain ⟨z1, z2⟩ := h2 t ht hb'; exact ⟨z1, z2.symm⟩) (fun t ht ha' => by obtain ⟨z1, z2⟩ := h1 t ht ha'; exact ⟨z1, z2.symm⟩) q1
            exact ⟨q1, by omega⟩
        · intro i hi hib
          rcases Nat.lt_or_ge i k with h | h
          · exact h2 i h hib
          · have hik : i = k := by omega
            subst hik
            obtain ⟨q1, q2⟩ := one b a hb ha (fun x => (hm x).symm) i (fun t ht hb' => by obtain ⟨z1, z2⟩ := h2 t ht hb'; exact ⟨z1, z2.symm⟩) (fun t ht ha' => by obtain ⟨z1, z2⟩ := h1 t ht ha'; exact ⟨z1, z2.symm⟩) hib
            obtain ⟨q3, q4⟩ := one a b ha hb hm i h1 h2 q1
            exact ⟨q1, by omega⟩
    have hl : a.length = b.length := by
      rcases Nat.lt_trichotomy a.length b.length with h | h | h
      · have := ((key (a.length + 1)).2 a.length (by omega) h).1; omega
      · exact h
      · have := ((key (b.length + 1)).1 b.length (by omega) h).1; omega
    exact ext_el hl fun j hj => ((key (j + 1)).1 j (by omega) hj).2
end Go.Proofs.YteikcdofblclhaaDoor
