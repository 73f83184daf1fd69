/-
  Plain laws: leads, reduced lists of rows, spaces and relations that are valid, coordinates. No program in sight. No condition.
-/
import Derived.Test.YteikcdofblclhaaDoorZP13
namespace Go.Proofs.YteikcdofblclhaaDoor

/-! ### leads -/
def leadN : List Int → Nat
  | [] => 0
  | x :: xs => if x = 0 then leadN xs + 1 else 0
theorem leadN_le : ∀ r : List Int, leadN r ≤ r.length
  | [] => Nat.le_refl _
  | x :: xs => by
    unfold leadN; have := leadN_le xs
    split
    · simp only [List.length_cons]; omega
    · omega
theorem el_zero (x : Int) (xs : List Int) : el (x :: xs) 0 = x := by unfold el; simp
theorem el_succ (x : Int) (xs : List Int) (j : Nat) : el (x :: xs) (j + 1) = el xs j := by unfold el; simp
theorem el_out {r : List Int} {j : Nat} (h : r.length ≤ j) : el r j = 0 := by unfold el; rw [List.getD_eq_getElem?_getD, List.getElem?_eq_none h]; rfl
theorem leadN_z : ∀ (r : List Int) (j : Nat), j < leadN r → el r j = 0
  | [], j, h => by simp [leadN] at h
  | x :: xs, j, h => by
    unfold leadN at h
    split at h
    · rename_i h0
      cases j with
      | zero => rw [el_zero]; exact h0
      | succ j => rw [el_succ]; exact leadN_z xs j (by omega)
    · omega
theorem leadN_nz : ∀ (r : List Int), leadN r < r.length → el r (leadN r) ≠ 0
  | [], h => by simp at h
  | x :: xs, h => by
    unfold leadN at h ⊢
    split at h
    · rename_i h0
      rw [if_pos h0, el_succ]
      exact leadN_nz xs (by simpa using h)
    · rename_i h0
      rw [if_neg h0, el_zero]; exact h0
theorem leadN_eq {r : List Int} {k : Nat} (hz : ∀ j, j < k → el r j = 0) (hk : el r k ≠ 0) : leadN r = k := by
  rcases Nat.lt_trichotomy (leadN r) k with h | h | h
  · have h1 := hz _ h
    rcases Nat.lt_or_ge (leadN r) r.length with h2 | h2
    · exact absurd h1 (leadN_nz r h2)
    · have : el r k = 0 := el_out (by omega)
      exact absurd this hk
  · exact h
  · exact absurd (leadN_z r k h) hk
theorem spLead_ {r : List Int} (hr : r.length ≤ 9223372036854775806) : F_spec_spLead r = some (leadN r : Int) := by
  have hle := leadN_le r
  refine bnd (whileO_is (fun j => (j : Int)) (t := (leadN r : Int)) (leadN r) ?_ ?_) rfl
  · intro j hj
    have hjl : j < r.length := by omega
    refine bnd (a := true) (stp (cTW (dT (by omega)) (bnd (idx_el hjl) (stp (by rw [leadN_z r j hj]; rfl))))) (cTW rfl (bnd (addO_of (by omega) (by omega)) rfl))
  · by_cases h : leadN r < r.length
    · refine bnd (a := false) (stp (cTW (dT (by omega)) (bnd (idx_el h) (stp (by rw [dF (leadN_nz r h)]))))) (cFW rfl rfl)
    · exact bnd (a := false) (stp (cFW (dF (by omega)) rfl)) (cFW rfl rfl)

/-! ### rows by their elements -/
theorem ext_el {a b : List Int} (hl : a.length = b.length) (h : ∀ j, j < a.length → el a j = el b j) : a = b := by
  apply List.ext_getElem?
  intro j
  by_cases hj : j < a.length
  · rw [el_get hj, el_get (by omega), h j hj]
  · rw [List.getElem?_eq_none (by omega), List.getElem?_eq_none (by omega)]
theorem ext_gr {a b : Rows} (hl : a.length = b.length) (h : ∀ j, j < a.length → gr a j = gr b j) : a = b := by
  apply List.ext_getElem?
  intro j
  by_cases hj : j < a.length
  · rw [gr_get hj, gr_get (by omega), h j hj]
  · rw [List.getElem?_eq_none (by omega), List.getElem?_eq_none (by omega)]
theorem el_mapR {g : Nat → Int → Int} {r : List Int} {j : Nat} (h : j < r.length) : el (mapR g r) j = g j (el r j) := by
  have h1 := el_get (r := mapR g r) (c := j) (by rw [mapR_len]; exact h)
  unfold mapR at h1
  rw [List.getElem?_mapIdx, el_get h] at h1
  exact (Option.some.inj h1).symm
theorem swapM_gr2 {m : Rows} {r k i : Nat} (hr : r < m.length) (hk : k < m.length) : gr (swapM m r k) i = if i = k then gr m r else if i = r then gr m k else gr m i := by
  unfold swapM
  rw [gr_set (by rw [List.length_set]; exact hk)]
  by_cases h : k = i
  · rw [if_pos h, if_pos h.symm]
  · rw [if_neg h, if_neg (Ne.symm h), gr_set hr]
    by_cases h2 : r = i
    · rw [if_pos h2, if_pos h2.symm]
    · rw [if_neg h2, if_neg (Ne.symm h2)]
theorem pivA_gr {p : Int} {c : Nat} {m a : Rows} {r k i : Nat} (hr : r < a.length) : gr (pivA p c m a r k) i = if i = r then mapR (scaleG p (invF p (el (gr (swapM m r k) r) c))) (gr (swapM a r k) r) else gr (swapM a r k) i := by
  unfold pivA scaleM
  rw [gr_set (by rw [swapM_len]; exact hr)]
  by_cases h : r = i
  · rw [if_pos h, if_pos h.symm]
  · rw [if_neg h, if_neg (Ne.symm h)]

/-! ### reduced lists -/
/-- the first r rows are reduced up to column c; the others are zero up to it -/
structure RedI (c r : Nat) (m : Rows) : Prop where
  le : r ≤ m.length
  lt : ∀ i, i < r → leadN (gr m i) < c
  one : ∀ i, i < r → el (gr m i) (leadN (gr m i)) = 1
  zero : ∀ i j, i < r → j < m.length → i ≠ j → el (gr m j) (leadN (gr m i)) = 0
  inc : ∀ i j, i < j → j < r → leadN (gr m i) < leadN (gr m j)
  rest : ∀ i, r ≤ i → i < m.length → ∀ q, q < c → el (gr m i) q = 0
theorem RedI.start (m : Rows) : RedI 0 0 m := ⟨Nat.zero_le _, fun _ h => by omega, fun _ h => by omega, fun _ _ h => by omega, fun _ _ _ h => by omega, fun _ _ _ _ h => by omega⟩
theorem RedI.skip {c r : Nat} {m : Rows} (h : RedI c r m) (hz : ∀ i, r ≤ i → i < m.length → el (gr m i) c = 0) : RedI (c + 1) r m :=
  ⟨h.le, fun i hi => by have := h.lt i hi; omega, h.one, h.zero, h.inc, fun i h1 h2 q hq => by
    rcases Nat.lt_or_ge q c with h3 | h3
    · exact h.rest i h1 h2 q h3
    · rw [show q = c by omega]; exact hz i h1 h2⟩
theorem scanN_zero (m : Rows) (c : Nat) : ∀ (d k : Nat), ∀ i, k ≤ i → i < scanN m c d k → el (gr m i) c = 0
  | 0, k, i, h1, h2 => by simp only [scanN] at h2; omega
  | d + 1, k, i, h1, h2 => by
    unfold scanN at h2
    split at h2
    · rename_i h0
      rcases Nat.lt_or_ge k i with h3 | h3
      · exact scanN_zero m c d (k + 1) i h3 h2
      · rw [show i = k by omega]; exact h0
    · omega
theorem emod_sm {p x : Int} (h : 0 ≤ x ∧ x < p) : x % p = x := Int.emod_eq_of_lt h.1 h.2
theorem step_el {p : Int} {c r k N : Nat} {m : Rows} (hf : fdB p = true) (h : okM p N m) (hr : r < m.length) (hk : k < m.length) (hc : c < N) (hne : el (gr m k) c ≠ 0) :
    let s := swapM m r k
    let iv := invF p (el (gr m k) c)
    (∀ q, q < N → el (gr (stepA p c m m r k) r) q = (el (gr m k) q * iv) % p) ∧ (el (gr m k) c * iv) % p = 1 ∧
    ∀ i, i < m.length → i ≠ r → ∀ q, q < N → el (gr (stepA p c m m r k) i) q = (el (gr s i) q - el (gr s i) c * ((el (gr m k) q * iv) % p)) % p := by
  intro s iv
  have hp := fdB_rng hf
  have hel := okM_el h hk hc
  obtain ⟨_, i1, i2, i3⟩ := inverse_ hf (x := el (gr m k) c) ⟨by omega, hel.2⟩
  have hsr : gr s r = gr m k := swapM_gr hr hk
  have hsl : s.length = m.length := swapM_len m r k
  have hso : okM p N s := swapM_ok h hr hk
  have hpl : (pivA p c m m r k).length = m.length := pivA_len p c m m r k
  have hpr : gr (pivA p c m m r k) r = mapR (scaleG p iv) (gr m k) := by
    rw [pivA_gr hr, if_pos rfl]
    show mapR (scaleG p (invF p (el (gr s r) c))) (gr s r) = _
    rw [hsr]
  have hrow := okM_gr h hk
  have hpe : ∀ q, q < N → el (gr (pivA p c m m r k) r) q = (el (gr m k) q * iv) % p := fun q hq => by
    rw [hpr, el_mapR (by omega)]; rfl
  have hst : ∀ i, i < m.length → gr (stepA p c m m r k) i = elimG p c r (pivA p c m m r k) (pivA p c m m r k) i (gr (pivA p c m m r k) i) := fun i hi => elimA_gr (by rw [hpl]; exact hi)
  refine ⟨fun q hq => ?_, i1, fun i hi hir q hq => ?_⟩
  · rw [hst r hr]
    unfold elimG
    rw [if_pos (.inl rfl)]
    exact hpe q hq
  · rw [hst i hi]
    have hpi : gr (pivA p c m m r k) i = gr s i := by rw [pivA_gr hr, if_neg hir]
    have hsi := okM_gr hso (i := i) (by rw [hsl]; exact hi)
    have hb := okM_el hso (i := i) (by rw [hsl]; exact hi) hq
    unfold elimG
    by_cases h0 : el (gr (pivA p c m m r k) i) c = 0
    · rw [if_pos (.inr h0), hpi]
      rw [hpi] at h0
      rw [h0, Int.zero_mul, Int.sub_zero, emod_sm hb]
    · rw [if_neg (by intro h1; rcases h1 with h1 | h1; exact hir h1; exact h0 h1)]
      rw [el_mapR (by rw [hpi]; omega)]
      unfold subG
      rw [hpi, hpe q hq]
theorem RedI.step {p : Int} {c r N : Nat} {m : Rows} (hf : fdB p = true) (ho : okM p N m) (h : RedI c r m) (hr : r < m.length) (hc : c < N) (hk : scanN m c (m.length - r) r ≠ m.length) :
    RedI (c + 1) (r + 1) (stepA p c m m r (scanN m c (m.length - r) r)) := by
  obtain ⟨s1, s2, s3⟩ := scanN_spec m c (m.length - r) r (by omega)
  have hp := fdB_rng hf
  generalize scanN m c (m.length - r) r = k at s1 s2 s3 hk ⊢
  have hkl : k < m.length := by omega
  have hne := s3 hkl
  obtain ⟨e1, e2, e3⟩ := step_el hf ho hr hkl hc hne
  have hsl : (stepA p c m m r k).length = m.length := stepA_len p c m m r k
  -- the pivot row before column c
  have hz : ∀ q, q < c → (el (gr m k) q * invF p (el (gr m k) c)) % p = 0 := fun q hq => by
    rw [h.rest k (by omega) hkl q hq, Int.zero_mul]; exact Int.zero_emod p
  have hswap : ∀ i, i < r → gr (swapM m r k) i = gr m i := fun i hi => by
    rw [swapM_gr2 hr hkl, if_neg (by omega), if_neg (by omega)]
  -- rows before r, columns before c
  have hrow : ∀ i, i < r → ∀ q, q < c → el (gr (stepA p c m m r k) i) q = el (gr m i) q := fun i hi q hq => by
    have hb := okM_el ho (i := i) (by omega) (c := q) (by omega)
    rw [e3 i (by omega) (by omega) q (by omega), hswap i hi, hz q hq, Int.mul_zero, Int.sub_zero, emod_sm hb]
  have hlead : ∀ i, i < r → leadN (gr (stepA p c m m r k) i) = leadN (gr m i) := fun i hi => by
    have hl := h.lt i hi
    refine leadN_eq (fun j hj => ?_) ?_
    · rw [hrow i hi j (by omega)]; exact leadN_z _ j hj
    · rw [hrow i hi _ hl, h.one i hi]; omega
  have hnew : leadN (gr (stepA p c m m r k) r) = c := by
    refine leadN_eq (fun j hj => ?_) ?_
    · rw [e1 j (by omega)]; exact hz j hj
    · rw [e1 c hc, e2]; omega
  refine ⟨by omega, fun i hi => ?_, fun i hi => ?_, fun i j hi hj hij => ?_, fun i j hij hj => ?_, fun i h1 h2 q hq => ?_⟩
  · rcases Nat.lt_or_ge i r with h1 | h1
    · rw [hlead i h1]; have := h.lt i h1; omega
    · rw [show i = r by omega, hnew]; omega
  · rcases Nat.lt_or_ge i r with h1 | h1
    · rw [hlead i h1, hrow i h1 _ (h.lt i h1)]; exact h.one i h1
    · rw [show i = r by omega, hnew, e1 c hc, e2]
  · rw [hsl] at hj
    rcases Nat.lt_or_ge i r with h1 | h1
    · have hl := h.lt i h1
      rw [hlead i h1]
      by_cases hjr : j = r
      · rw [hjr, e1 _ (by omega)]; exact hz _ hl
      · rw [e3 j hj hjr _ (by omega), hz _ hl, Int.mul_zero, Int.sub_zero]
        have hs : el (gr (swapM m r k) j) (leadN (gr m i)) = 0 := by
          rw [swapM_gr2 hr hkl]
          by_cases hjk : j = k
          · rw [if_pos hjk]; exact h.zero i r h1 hr (by omega)
          · rw [if_neg hjk, if_neg hjr]; exact h.zero i j h1 hj hij
        rw [hs]; exact Int.zero_emod p
    · have hi2 : i = r := by omega
      subst hi2
      rw [hnew, e3 j hj (Ne.symm hij) c hc, e2, Int.mul_one, Int.sub_self]; exact Int.zero_emod p
  · rcases Nat.lt_or_ge j r with h1 | h1
    · rw [hlead i (by omega), hlead j h1]; exact h.inc i j hij h1
    · rw [show j = r by omega, hnew, hlead i (by omega)]; exact h.lt i (by omega)
  · rw [hsl] at h2
    rw [e3 i h2 (by omega) q (by omega)]
    rcases Nat.lt_or_ge q c with h3 | h3
    · rw [hz q h3, Int.mul_zero, Int.sub_zero]
      have hs : el (gr (swapM m r k) i) q = 0 := by
        rw [swapM_gr2 hr hkl]
        split
        · exact h.rest r (Nat.le_refl _) hr q h3
        · split
          · exact h.rest k s1 hkl q h3
          · exact h.rest i (by omega) h2 q h3
      rw [hs]; exact Int.zero_emod p
    · rw [show q = c by omega, e2, Int.mul_one, Int.sub_self]; exact Int.zero_emod p
theorem redLoop_red {p : Int} {N : Nat} (hf : fdB p = true) : ∀ (d c : Nat) (m : Rows) (r : Nat), c + d ≤ N → okM p N m → RedI c r m → RedI (c + d) (redLoop p d c m m r).2.2 (redLoop p d c m m r).1
  | 0, c, m, r, _, _, h => h
  | d + 1, c, m, r, hN, ho, h => by
    unfold redLoop
    by_cases hr : r < m.length
    · rw [if_pos hr]
      obtain ⟨s1, s2, s3⟩ := scanN_spec m c (m.length - r) r (by omega)
      split
      · rename_i hk
        have := redLoop_red hf d (c + 1) m r (by omega) ho (h.skip (fun i h1 h2 => scanN_zero m c (m.length - r) r i h1 (by omega)))
        rw [show c + (d + 1) = c + 1 + d by omega]; exact this
      · rename_i hk
        have := redLoop_red hf d (c + 1) _ (r + 1) (by omega) (stepA_ok (fdB_rng hf).1 ho hr (by omega)) (h.step hf ho hr (by omega) hk)
        rw [show c + (d + 1) = c + 1 + d by omega]; exact this
    · rw [if_neg hr]
      exact (⟨h.le, fun i hi => by have := h.lt i hi; omega, h.one, h.zero, h.inc, fun i h1 h2 => by have := h.le; omega⟩ : RedI (c + (d + 1)) r m)
/-- a reduced list of rows -/
structure Red (p : Int) (n : Nat) (b : Rows) : Prop where
  ok : okM p n b
  lt : ∀ i, i < b.length → leadN (gr b i) < n
  one : ∀ i, i < b.length → el (gr b i) (leadN (gr b i)) = 1
  zero : ∀ i j, i < b.length → j < b.length → i ≠ j → el (gr b j) (leadN (gr b i)) = 0
  inc : ∀ i j, i < j → j < b.length → leadN (gr b i) < leadN (gr b j)
theorem gr_take {m : Rows} {k i : Nat} (h : i < k) : gr (m.take k) i = gr m i := by
  unfold gr; rw [List.getD_eq_getElem?_getD, List.getD_eq_getElem?_getD, List.getElem?_take, if_pos h]
theorem redM_red {p : Int} {n : Nat} {m : Rows} (hf : fdB p = true) (h : okM p n m) : Red p n (redM p n m) := by
  have h1 := redLoop_red hf n 0 m 0 (by omega) h (RedI.start m)
  have h2 := (redM_ok (n := n) (fdB_rng hf).1 h).1
  rw [Nat.zero_add] at h1
  unfold redM at h2 ⊢
  generalize redLoop p n 0 m m 0 = t at h1 h2
  have hl : (t.1.take t.2.2).length = t.2.2 := by rw [List.length_take]; have := h1.le; omega
  refine ⟨h2, fun i hi => ?_, fun i hi => ?_, fun i j hi hj hij => ?_, fun i j hij hj => ?_⟩
  · rw [hl] at hi; rw [gr_take hi]; exact h1.lt i hi
  · rw [hl] at hi; rw [gr_take hi]; exact h1.one i hi
  · rw [hl] at hi hj; rw [gr_take hi, gr_take hj]; exact h1.zero i j hi (by have := h1.le; omega) hij
  · rw [hl] at hj; rw [gr_take hj, gr_take (by omega)]; exact h1.inc i j hij hj

/-! ### valid spaces -/
def redB (p : Int) (n : Int) (m : Rows) : Bool := decide ((m.length : Int) ≤ n) && (rowsB p n m && decide (redM p n.toNat m = m))
theorem forO_eq {α τ : Type} [DecidableEq α] {f : Nat → Unit → Option (Unit ⊕ τ)} {t : τ} : ∀ (l m : List α) (k : Nat), l.length = m.length → (∀ j a b, l[j]? = some a → m[j]? = some b → f (k + j) () = some (if a = b then .inl () else .inr t)) → forO f l.length k () = some (if l = m then .inl () else .inr t)
  | [], [], k, _, _ => rfl
  | [], _ :: _, _, h, _ => by simp at h
  | _ :: _, [], _, h, _ => by simp at h
  | a :: l, b :: m, k, hl, h => by
    show (f k ()).bind _ = _
    have h0 : f k () = _ := h 0 a b rfl rfl
    rw [h0]
    by_cases hab : a = b
    · rw [if_pos hab]
      have := forO_eq l m (k + 1) (by simpa using hl) (fun j x y hx hy => by
        have := h (j + 1) x y (by simpa using hx) (by simpa using hy)
        rw [show k + 1 + j = k + (j + 1) by omega]; exact this)
      show forO f l.length (k + 1) () = _
      rw [this]
      by_cases h2 : l = m
      · rw [if_pos h2, if_pos (by rw [hab, h2])]
      · rw [if_neg h2, if_neg (by intro h3; exact h2 (List.cons.inj h3).2)]
    · rw [if_neg hab, if_neg (by intro h3; exact hab (List.cons.inj h3).1)]; rfl
theorem l1Same_ (a b : List Int) : F_spec_l1Same a b = some (decide (a = b)) := by
  refine stp ?_
  by_cases h : a.length = b.length
  · refine cFW (nT (dT (by omega))) (sqW (forO_eq a b 0 h ?_ (t := false)) ?_)
    · intro j x y hx hy
      rw [Nat.zero_add]
      refine bnd (idxO_of hx) (bnd (idxO_of hy) (stp ?_))
      by_cases h2 : x = y
      · rw [if_pos h2]; exact cFW (nT (dT h2)) rfl
      · rw [if_neg h2]; exact cTW (nF (dF h2)) rfl
    · by_cases h2 : a = b
      · rw [if_pos h2, dT h2]; rfl
      · rw [if_neg h2, dF h2]; rfl
  · rw [show decide (a = b) = false from dF (fun h2 => h (by rw [h2]))]; exact cTW (nF (dF (by omega))) rfl
theorem spSame_ (a b : Rows) : F_spec_spSame a b = some (decide (a = b)) := by
  refine stp ?_
  by_cases h : a.length = b.length
  · refine cFW (nT (dT (by omega))) (sqW (forO_eq a b 0 h ?_ (t := false)) ?_)
    · intro j x y hx hy
      rw [Nat.zero_add]
      refine bnd (idxO_of hx) (bnd (idxO_of hy) (bnd (l1Same_ x y) (stp ?_)))
      by_cases h2 : x = y
      · rw [if_pos h2]; exact cFW (nT (dT h2)) rfl
      · rw [if_neg h2]; exact cTW (nF (dF h2)) rfl
    · by_cases h2 : a = b
      · rw [if_pos h2, dT h2]; rfl
      · rw [if_neg h2, dF h2]; rfl
  · rw [show decide (a = b) = false from dF (fun h2 => h (by rw [h2]))]; exact cTW (nF (dF (by omega))) rfl
theorem pad_inj {a b : List Int} {n : Nat} (ha : a.length = n) (hb : b.length = n) (hn : n ≤ 48) : ((a ++ List.replicate 48 0).take 48 = (b ++ List.replicate 48 0).take 48) ↔ a = b := by
  constructor
  · intro h
    have := congrArg (List.take n) h
    rw [List.take_take, List.take_take, Nat.min_eq_left hn, List.take_append_of_le_length (by omega), List.take_append_of_le_length (by omega), List.take_of_length_le (by omega), List.take_of_length_le (by omega)] at this
    exact this
  · intro h; rw [h]
theorem forO_pre {α τ : Type} [DecidableEq α] {f : Nat → Unit → Option (Unit ⊕ τ)} {t : τ} : ∀ (l m : List α) (k : Nat), l.length ≤ m.length → (∀ j a b, l[j]? = some a → m[j]? = some b → f (k + j) () = some (if a = b then .inl () else .inr t)) → forO f l.length k () = some (if l = m.take l.length then .inl () else .inr t)
  | [], m, k, _, _ => by simp [forO]
  | _ :: _, [], _, h, _ => by simp at h
  | a :: l, b :: m, k, hl, h => by
    show (f k ()).bind _ = _
    have h0 : f k () = _ := h 0 a b rfl rfl
    rw [h0]
    by_cases hab : a = b
    · rw [if_pos hab]
      have := forO_pre l m (k + 1) (by simpa using hl) (fun j x y hx hy => by
        have := h (j + 1) x y (by simpa using hx) (by simpa using hy)
        rw [show k + 1 + j = k + (j + 1) by omega]; exact this)
      show forO f l.length (k + 1) () = _
      rw [this, List.length_cons, List.take_succ_cons]
      by_cases h2 : l = m.take l.length
      · rw [if_pos h2, if_pos (by rw [hab, ← h2])]
      · rw [if_neg h2, if_neg (by intro h3; exact h2 (List.cons.inj h3).2)]
    · rw [if_neg hab, List.length_cons, List.take_succ_cons, if_neg (by intro h3; exact hab (List.cons.inj h3).1)]; rfl
theorem isReduced_ {p : Int} {n : Nat} {m : Rows} (hf : fdB p = true) (hn : n ≤ 24) : F_impl_isReduced p m (n : Int) = some (redB p n m) := by
  unfold redB
  rw [Int.toNat_natCast]
  refine bnd (a := !(decide ((m.length : Int) ≤ n) && rowsB p n m)) (stp ?_) ?_
  · by_cases h : (m.length : Int) ≤ n
    · rw [dT h]; exact cFW (dF (by omega)) (bnd (areVectors_ p n m) rfl)
    · rw [dF h]; exact cTW (dT (by omega)) rfl
  · by_cases h : (m.length : Int) ≤ n
    · rw [dT h, Bool.true_and, Bool.true_and]
      cases hr : rowsB p n m with
      | false => rfl
      | true =>
        have ho : okM p n m := rowsB_true.1 hr
        refine cFW rfl (bnd (reduced_ hf (Nat.le_refl n) (by omega) ho (by omega)) ?_)
        obtain ⟨k1, k2, k3⟩ := redM_ok (n := n) (fdB_rng hf).1 ho
        refine sqW (forO_pre (redM p n m) m 0 k2 ?_ (t := false)) ?_
        · intro j a b ha hb
          rw [Nat.zero_add]
          have la := (k1 a (mem_of_get ha)).1
          have lb := (ho b (mem_of_get hb)).1
          refine bnd (idxO_of ha) (bnd (idxO_of hb) (stp (stp ?_)))
          refine bnd (a := !decide (a = b)) ?_ ?_
          · unfold neqArO
            rw [if_pos ⟨by simp, by simp⟩]
            congr 2
            rw [decide_eq_decide]
            exact pad_inj la lb (by omega)
          · by_cases hab : a = b
            · rw [if_pos hab]; exact cFW (nT (dT hab)) rfl
            · rw [if_neg hab]; exact cTW (nF (dF hab)) rfl
        · by_cases he : redM p n m = m.take (redM p n m).length
          · rw [if_pos he, seqO_l]
            refine bnd (reduced_ hf (Nat.le_refl n) (by omega) ho (by omega)) (stp ?_)
            show some (decide _) = _
            congr 1
            rw [Bool.true_and, decide_eq_decide]
            constructor
            · intro h2
              rw [List.take_of_length_le (by omega)] at he; exact he
            · intro h2; rw [h2]
          · rw [if_neg he, Bool.true_and, show decide (redM p n m = m) = false from dF (fun h2 => he (by rw [h2, List.take_of_length_le (Nat.le_refl _)]))]; rfl
    · rw [dF h]; rfl
abbrev Spa := Int × Rows
def spB (p : Int) (s : Spa) : Bool := fdB p && (rng s.1 0 24 && redB p s.1 s.2)
theorem spGood_ (p : Int) (s : Spa) : F_spec_spGood p s = some (spB p s) := by
  refine bnd (a := spB p s) ?_ rfl
  unfold spB
  cases hf : fdB p with
  | false => exact bnd (fdGood p) (by rw [hf]; rfl)
  | true =>
    refine bnd (fdGood p) (cTW hf (bnd (l1In _ _ _) ?_))
    cases hr : rng s.1 0 24 with
    | false => rfl
    | true =>
      have := rng_true.1 hr
      obtain ⟨n, hn⟩ : ∃ n : Nat, s.1 = (n : Int) := ⟨s.1.toNat, by omega⟩
      refine cTW rfl (stp ?_)
      unfold redB
      rw [hn, Int.toNat_natCast]
      cases hl : decide ((s.2.length : Int) ≤ n) with
      | false => rfl
      | true =>
        have hl := of_decide_eq_true hl
        refine cTW rfl (bnd (spRows (fdB_rng hf) _ _) ?_)
        cases hb : rowsB p n s.2 with
        | false => rfl
        | true =>
          have ho : okM p n s.2 := rowsB_true.1 hb
          exact cTW rfl (bnd (spReduce_ hf (Nat.le_refl n) (by omega) ho (by omega)) (bnd (spSame_ _ _) rfl))
theorem redB_ok {p : Int} {n : Nat} {m : Rows} (hf : fdB p = true) (h : redB p n m = true) : Red p n m ∧ m.length ≤ n := by
  unfold redB at h
  simp only [Bool.and_eq_true, decide_eq_true_eq, Int.toNat_natCast] at h
  obtain ⟨h1, h2, h3⟩ := h
  have := redM_red hf (rowsB_true.1 h2)
  rw [h3] at this
  exact ⟨this, by omega⟩
end Go.Proofs.YteikcdofblclhaaDoor
