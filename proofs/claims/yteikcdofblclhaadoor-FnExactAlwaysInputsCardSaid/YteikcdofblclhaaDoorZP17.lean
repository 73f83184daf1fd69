/-
  Plain laws: sums, combinations of rows by their elements, coordinates in a reduced list. No program in sight. No condition.
-/
import Derived.Test.YteikcdofblclhaaDoorZP16
namespace Go.Proofs.YteikcdofblclhaaDoor

/-! ### sums -/
def sg : Nat → (Nat → Int) → Int
  | 0, _ => 0
  | k + 1, f => sg k f + f k
theorem sg_congr {f g : Nat → Int} : ∀ {k : Nat}, (∀ i, i < k → f i = g i) → sg k f = sg k g
  | 0, _ => rfl
  | k + 1, h => by
    show sg k f + f k = sg k g + g k
    rw [sg_congr (fun i hi => h i (by omega)), h k (by omega)]
theorem sg_zero {f : Nat → Int} {k : Nat} (h : ∀ i, i < k → f i = 0) : sg k f = 0 := by
  induction k with
  | zero => rfl
  | succ k ih =>
    show sg k f + f k = 0
    rw [ih (fun i hi => h i (by omega)), h k (by omega)]; rfl
theorem sg_one {f : Nat → Int} {k i0 : Nat} (h0 : i0 < k) (h : ∀ i, i < k → i ≠ i0 → f i = 0) : sg k f = f i0 := by
  induction k with
  | zero => omega
  | succ k ih =>
    show sg k f + f k = f i0
    by_cases hk : k = i0
    · subst hk
      rw [sg_zero (fun i hi => h i (by omega) (by omega)), Int.zero_add]
    · rw [ih (by omega) (fun i hi hn => h i (by omega) hn), h k (by omega) hk, Int.add_zero]
theorem sg_shift (f : Nat → Int) : ∀ k, sg (k + 1) f = f 0 + sg k (fun i => f (i + 1))
  | 0 => by show 0 + f 0 = f 0 + 0; omega
  | k + 1 => by
    show sg (k + 1) f + f (k + 1) = f 0 + (sg k (fun i => f (i + 1)) + f (k + 1))
    rw [sg_shift f k]; omega
theorem sg_add (f g : Nat → Int) : ∀ k, sg k (fun i => f i + g i) = sg k f + sg k g
  | 0 => rfl
  | k + 1 => by
    show sg k (fun i => f i + g i) + (f k + g k) = (sg k f + f k) + (sg k g + g k)
    rw [sg_add f g k]; omega
theorem sg_mul (c : Int) (f : Nat → Int) : ∀ k, sg k (fun i => c * f i) = c * sg k f
  | 0 => by show (0 : Int) = c * 0; rw [Int.mul_zero]
  | k + 1 => by
    show sg k (fun i => c * f i) + c * f k = c * (sg k f + f k)
    rw [sg_mul c f k, Int.mul_add]
theorem sg_mod {p : Int} {f g : Nat → Int} : ∀ {k : Nat}, (∀ i, i < k → f i % p = g i % p) → sg k f % p = sg k g % p
  | 0, _ => rfl
  | k + 1, h => by
    show (sg k f + f k) % p = (sg k g + g k) % p
    rw [Int.add_emod, sg_mod (fun i hi => h i (by omega)), h k (by omega), ← Int.add_emod]
theorem add_mod1 (p a b : Int) : (a % p + b) % p = (a + b) % p := by rw [Int.add_emod, Int.emod_emod_of_dvd _ (Int.dvd_refl p), ← Int.add_emod]
theorem mod_mod (p a : Int) : a % p % p = a % p := Int.emod_emod_of_dvd _ (Int.dvd_refl p)
theorem mul_mod1 (p a b : Int) : (a % p * b) % p = (a * b) % p := by rw [Int.mul_emod, mod_mod, ← Int.mul_emod]
theorem mul_mod2 (p a b : Int) : (a * (b % p)) % p = (a * b) % p := by rw [Int.mul_emod, mod_mod, ← Int.mul_emod]

/-! ### combinations -/
theorem el_zipWith {g : Int → Int → Int} : ∀ {a b : List Int} {j : Nat}, j < a.length → a.length = b.length → el (List.zipWith g a b) j = g (el a j) (el b j)
  | [], _, _, h, _ => by simp at h
  | _ :: _, [], _, _, h => by simp at h
  | x :: a, y :: b, 0, _, _ => by rw [List.zipWith_cons_cons, el_zero, el_zero, el_zero]
  | x :: a, y :: b, j + 1, h, hl => by rw [List.zipWith_cons_cons, el_succ, el_succ, el_succ]; exact el_zipWith (by simpa using h) (by simpa using hl)
theorem el_addR {p c : Int} {acc row : List Int} {j : Nat} (h : j < acc.length) (hl : row.length = acc.length) : el (addR p c acc row) j = (el acc j + c * el row j) % p := by
  unfold addR; exact el_zipWith (by omega) hl
theorem gr_zero (x : List Int) (xs : Rows) : gr (x :: xs) 0 = x := by unfold gr; simp
theorem el_fold2 {p : Int} {n : Nat} (hp : 2 ≤ p) : ∀ (rows : Rows) (cs : List Int) (acc : List Int) (j : Nat), okR p n acc → rowsP p n rows → rows.length ≤ cs.length → j < n →
    el (fold2 (fun acc row c => addR p c acc row) rows cs acc) j = (el acc j + sg rows.length (fun i => el cs i * el (gr rows i) j)) % p
  | [], cs, acc, j, ha, _, _, hj => by
    have : fold2 (fun acc row c => addR p c acc row) [] cs acc = acc := by cases cs <;> rfl
    have hb := ha.2 _ (el_mem (r := acc) (c := j) (by rw [ha.1]; exact hj))
    rw [this]
    show el acc j = (el acc j + 0) % p
    rw [Int.add_zero, emod_sm hb]
  | r :: rows, [], acc, j, _, _, h, _ => by simp at h
  | r :: rows, c :: cs, acc, j, ha, hr, hl, hj => by
    have h1 := hr r (List.mem_cons_self ..)
    have ha2 : okR p n (addR p c acc r) := ⟨by rw [addR_len (by rw [h1.1, ha.1]), ha.1], zip_in hp c r acc⟩
    show el (fold2 _ rows cs (addR p c acc r)) j = _
    rw [el_fold2 hp rows cs _ j ha2 (fun x hx => hr x (List.mem_cons_of_mem _ hx)) (by simpa using hl) hj, el_addR (by rw [ha.1]; exact hj) (by rw [h1.1, ha.1]), add_mod1, List.length_cons, sg_shift, el_zero, gr_zero]
    congr 1
    rw [Int.add_assoc]
    congr 2
theorem el_rep (n j : Nat) : el (List.replicate n 0) j = 0 := by
  unfold el; rw [List.getD_eq_getElem?_getD, List.getElem?_replicate]; split <;> rfl
theorem el_combR {p : Int} {n : Nat} (hp : 2 ≤ p) {rows : Rows} {cs : List Int} {j : Nat} (hr : rowsP p n rows) (hl : rows.length ≤ cs.length) (hj : j < n) :
    el (combR p n rows cs) j = sg rows.length (fun i => el cs i * el (gr rows i) j) % p := by
  unfold combR
  rw [el_fold2 hp rows cs _ j (okR_zero hp n) hr hl hj, el_rep, Int.zero_add]
theorem fold2_ok {p : Int} {n : Nat} (hp : 2 ≤ p) : ∀ (rows : Rows) (cs : List Int) (acc : List Int), okR p n acc → rowsP p n rows → okR p n (fold2 (fun acc row c => addR p c acc row) rows cs acc)
  | [], cs, acc, ha, _ => by cases cs <;> exact ha
  | r :: rows, [], acc, ha, _ => ha
  | r :: rows, c :: cs, acc, ha, hr => by
    have h1 := hr r (List.mem_cons_self ..)
    exact fold2_ok hp rows cs _ ⟨by rw [addR_len (by rw [h1.1, ha.1]), ha.1], zip_in hp c r acc⟩ (fun x hx => hr x (List.mem_cons_of_mem _ hx))
theorem combR_ok {p : Int} {n : Nat} (hp : 2 ≤ p) {rows : Rows} {cs : List Int} (hr : rowsP p n rows) : okR p n (combR p n rows cs) := fold2_ok hp rows cs _ (okR_zero hp n) hr

/-! ### coordinates -/
def coordsL (b : Rows) (v : List Int) : List Int := b.map fun r => el v (leadN r)
theorem el_coords {b : Rows} {v : List Int} {i : Nat} (h : i < b.length) : el (coordsL b v) i = el v (leadN (gr b i)) := by
  have h1 := el_get (r := coordsL b v) (c := i) (by simp [coordsL]; exact h)
  unfold coordsL at h1
  rw [List.getElem?_map, gr_get h] at h1
  exact (Option.some.inj h1).symm
theorem coords_in {p : Int} {n : Nat} {b : Rows} {v : List Int} (hb : Red p n b) (hv : okR p n v) : inP p (coordsL b v) := by
  intro x hx
  obtain ⟨r, hr, rfl⟩ := List.mem_map.1 hx
  obtain ⟨i, hi, rfl⟩ := List.mem_iff_getElem.1 hr
  have hl := hb.lt i hi
  have e : gr b i = b[i] := by have := gr_get hi; rw [List.getElem?_eq_getElem hi] at this; exact (Option.some.inj this).symm
  rw [e] at hl
  exact hv.2 _ (el_mem (by rw [hv.1]; exact hl))
def hasB (p : Int) (n : Nat) (b : Rows) (v : List Int) : Bool := decide (combR p n b (coordsL b v) = v)
theorem spCoords_ {p : Int} {n : Nat} {b : Rows} {v : List Int} (hb : Red p n b) (hv : v.length = n) (hn : n ≤ 1048576) (hl : b.length ≤ 1048576) : F_spec_spCoords b v = some (coordsL b v) := by
  have hm : maxN = 1099511627776 := rfl
  refine bnd (forS_map (fun r => el v (leadN r)) b [] (by simp; omega) ?_) rfl
  intro j r s hj hs
  have hjl : j < b.length := (List.getElem?_eq_some_iff.1 hj).1
  have e : gr b j = r := Option.some.inj ((gr_get hjl).symm.trans hj)
  have h1 := hb.lt j hjl
  have h2 := okM_gr hb.ok hjl
  rw [e] at h1 h2
  exact bnd (idxO_of hj) (bnd (spLead_ (by omega)) (bnd (idx_el (by omega)) (bnd (appO_of (by simp at hs ⊢; omega)) rfl)))
theorem spHas_ {p : Int} {n : Nat} {b : Rows} {v : List Int} (hf : fdB p = true) (hb : Red p n b) (hv : okR p n v) (hn : n ≤ 1048576) (hl : b.length ≤ 1048576) : F_spec_spHas p b v = some (hasB p n b v) := by
  have hm : maxN = 1099511627776 := rfl
  have hvl := hv.1
  refine bnd (spCoords_ hb hv.1 hn hl) ?_
  rw [hv.1]
  exact bnd (spSum_ (fdB_rng hf) (by omega) hb.ok (coords_in hb hv) (by simp [coordsL])) (bnd (l1Same_ _ _) rfl)

/-! ### has a vector -/

/-! ### relations -/
abbrev Rel := Int × Int × Rows
def rlB (p : Int) (r : Rel) : Bool := fdB p && ((rng r.1 0 24 && (rng r.2.1 0 24 && decide (r.1 + r.2.1 ≤ 24))) && redB p (r.1 + r.2.1) r.2.2)
theorem fits_ (l r : Int) : F_impl_fits l r = some (rng l 0 24 && (rng r 0 24 && decide (l + r ≤ 24))) := by
  refine bnd (a := (rng l 0 24 && (rng r 0 24 && decide (l + r ≤ 24)))) ?_ rfl
  refine bndB (within_ _ _ _) (fun _ => rfl) (fun h1 => cTW rfl (bndB (within_ _ _ _) (fun _ => rfl) (fun h2 => cTW rfl ?_)))
  have h1 := rng_true.1 h1
  have h2 := rng_true.1 h2
  exact bnd (addO_of (by omega) (by omega)) rfl
theorem isRelation_ (p : Int) (r : Rel) : F_impl_isRelation p r = some (rlB p r) := by
  refine bnd (a := rlB p r) ?_ rfl
  unfold rlB
  cases hf : fdB p with
  | false => exact bnd (isField_ p) (by rw [hf]; rfl)
  | true =>
    refine bnd (isField_ p) (cTW hf (bnd (fits_ _ _) ?_))
    cases hb : (rng r.1 0 24 && (rng r.2.1 0 24 && decide (r.1 + r.2.1 ≤ 24))) with
    | false => rfl
    | true =>
      simp only [Bool.and_eq_true, rng_true, decide_eq_true_eq] at hb
      refine cTW rfl (bnd (addO_of (by omega) (by omega)) ?_)
      obtain ⟨n, hn⟩ : ∃ n : Nat, r.1 + r.2.1 = (n : Int) := ⟨(r.1 + r.2.1).toNat, by omega⟩
      rw [hn]
      exact bnd (isReduced_ hf (by omega)) rfl
theorem rlGood_ (p : Int) (r : Rel) : F_spec_rlGood p r = some (rlB p r) := by
  refine bnd (a := rlB p r) ?_ rfl
  have e : rlB p r = (rng r.1 0 24 && (rng r.2.1 0 (24 - r.1) && spB p (r.1 + r.2.1, r.2.2))) := by
    unfold rlB spB
    by_cases h : (0 ≤ r.1 ∧ r.1 ≤ 24) ∧ (0 ≤ r.2.1 ∧ r.2.1 ≤ 24) ∧ r.1 + r.2.1 ≤ 24
    · rw [rng_true.2 h.1, rng_true.2 h.2.1, dT h.2.2, show rng r.2.1 0 (24 - r.1) = true from rng_true.2 (by omega), show rng (r.1 + r.2.1) 0 24 = true from rng_true.2 (by omega)]
      simp
    · have h1 : (rng r.1 0 24 && (rng r.2.1 0 24 && decide (r.1 + r.2.1 ≤ 24))) = false := by
        rw [← Bool.not_eq_true]; simp only [Bool.and_eq_true, rng_true, decide_eq_true_eq]; exact h
      have h2 : (rng r.1 0 24 && (rng r.2.1 0 (24 - r.1) && (fdB p && (rng (r.1 + r.2.1) 0 24 && redB p (r.1 + r.2.1) r.2.2)))) = false := by
        rw [← Bool.not_eq_true]; simp only [Bool.and_eq_true, rng_true]; intro h3; exact h (by omega)
      rw [h1]
      simp only [Bool.false_and, Bool.and_false]
      exact h2.symm
  rw [e]
  refine bndB (l1In _ _ _) (fun _ => rfl) (fun h1 => cTW rfl ?_)
  have h1 := rng_true.1 h1
  refine bnd (subO_of (by omega) (by omega)) (bndB (l1In _ _ _) (fun _ => rfl) (fun h2 => cTW rfl ?_))
  have h2 := rng_true.1 h2
  exact bnd (addO_of (by omega) (by omega)) (bnd (spGood_ p _) rfl)
/-- a valid relation: l elements left, r right -/
structure RlOk (p : Int) (l r : Nat) (R : Rel) : Prop where
  hf : fdB p = true
  left : R.1 = (l : Int)
  right : R.2.1 = (r : Int)
  n24 : l + r ≤ 24
  red : Red p (l + r) R.2.2
  len : R.2.2.length ≤ l + r
theorem rlB_ok {p : Int} {R : Rel} (h : rlB p R = true) : ∃ l r, RlOk p l r R := by
  unfold rlB at h
  simp only [Bool.and_eq_true, rng_true, decide_eq_true_eq] at h
  obtain ⟨h1, ⟨h2, h3, h4⟩, h5⟩ := h
  obtain ⟨l, hl⟩ : ∃ l : Nat, R.1 = (l : Int) := ⟨R.1.toNat, by omega⟩
  obtain ⟨r, hr⟩ : ∃ r : Nat, R.2.1 = (r : Int) := ⟨R.2.1.toNat, by omega⟩
  rw [hl, hr, show (l : Int) + (r : Int) = ((l + r : Nat) : Int) by omega] at h5
  obtain ⟨k1, k2⟩ := redB_ok h1 h5
  exact ⟨l, r, h1, hl, hr, by omega, k1, k2⟩

/-! ### the first choice -/
end Go.Proofs.YteikcdofblclhaaDoor

