/-
  Plain laws: sums, combinations of rows by their elements, coordinates in a reduced list. No program in sight. No condition.
-/
import Derived.Test.YtnlbhdepagkjgaaDoorZP16
namespace Go.Proofs.YtnlbhdepagkjgaaDoor

/-! ### sums -/
def sg : Nat → (Nat → Int) → Int
  | 0, _ => 0
  | k + 1, f => sg k f + f k
theorem sg_congr {f g : Nat → Int} : ∀ {k : Nat}, (∀ i, i < k → f i = g i) → sg k f = sg k g
  | 0, _ => rfl
  | k + 1, h => by
    show sg k f + f k = sg k g + g k
    rw [sg_congr (fun i hi => h i (by omega)), h k (by omega)]
theorem sg_zero {f : Nat → Int} {k : Nat} (h : ∀ i, i < k → f i = 0) : sg k f = 0 := by
  induction k with
  | zero => rfl
  | succ k ih =>
    show sg k f + f k = 0
    rw [ih (fun i hi => h i (by omega)), h k (by omega)]; rfl
theorem sg_shift (f : Nat → Int) : ∀ k, sg (k + 1) f = f 0 + sg k (fun i => f (i + 1))
  | 0 => by show 0 + f 0 = f 0 + 0; omega
  | k + 1 => by
    show sg (k + 1) f + f (k + 1) = f 0 + (sg k (fun i => f (i + 1)) + f (k + 1))
    rw [sg_shift f k]; omega
theorem add_mod1 (p a b : Int) : (a % p + b) % p = (a + b) % p := by rw [Int.add_emod, Int.emod_emod_of_dvd _ (Int.dvd_refl p), ← Int.add_emod]
theorem sub_mod1 (p a b : Int) : (a % p - b) % p = (a - b) % p := by rw [Int.sub_emod, Int.emod_emod_of_dvd _ (Int.dvd_refl p), ← Int.sub_emod]
theorem mod_mod (p a : Int) : a % p % p = a % p := Int.emod_emod_of_dvd _ (Int.dvd_refl p)

/-! ### combinations -/
theorem el_zipWith {g : Int → Int → Int} : ∀ {a b : List Int} {j : Nat}, j < a.length → a.length = b.length → el (List.zipWith g a b) j = g (el a j) (el b j)
  | [], _, _, h, _ => by simp at h
  | _ :: _, [], _, _, h => by simp at h
  | x :: a, y :: b, 0, _, _ => by rw [List.zipWith_cons_cons, el_zero, el_zero, el_zero]
  | x :: a, y :: b, j + 1, h, hl => by rw [List.zipWith_cons_cons, el_succ, el_succ, el_succ]; exact el_zipWith (by simpa using h) (by simpa using hl)
theorem el_addR {p c : Int} {acc row : List Int} {j : Nat} (h : j < acc.length) (hl : row.length = acc.length) : el (addR p c acc row) j = (el acc j + c * el row j) % p := by
  unfold addR; exact el_zipWith (by omega) hl
theorem gr_zero (x : List Int) (xs : Rows) : gr (x :: xs) 0 = x := by unfold gr; simp
theorem el_fold2 {p : Int} {n : Nat} (hp : 2 ≤ p) : ∀ (rows : Rows) (cs : List Int) (acc : List Int) (j : Nat), okR p n acc → rowsP p n rows → rows.length ≤ cs.length → j < n →
    el (fold2 (fun acc row c => addR p c acc row) rows cs acc) j = (el acc j + sg rows.length (fun i => el cs i * el (gr rows i) j)) % p
  | [], cs, acc, j, ha, _, _, hj => by
    have : fold2 (fun acc row c => addR p c acc row) [] cs acc = acc := by cases cs <;> rfl
    have hb := ha.2 _ (el_mem (r := acc) (c := j) (by rw [ha.1]; exact hj))
    rw [this]
    show el acc j = (el acc j + 0) % p
    rw [Int.add_zero, emod_sm hb]
  | r :: rows, [], acc, j, _, _, h, _ => by simp at h
  | r :: rows, c :: cs, acc, j, ha, hr, hl, hj => by
    have h1 := hr r (List.mem_cons_self ..)
    have ha2 : okR p n (addR p c acc r) := ⟨by rw [addR_len (by rw [h1.1, ha.1]), ha.1], zip_in hp c r acc⟩
    show el (fold2 _ rows cs (addR p c acc r)) j = _
    rw [el_fold2 hp rows cs _ j ha2 (fun x hx => hr x (List.mem_cons_of_mem _ hx)) (by simpa using hl) hj, el_addR (by rw [ha.1]; exact hj) (by rw [h1.1, ha.1]), add_mod1, List.length_cons, sg_shift, el_zero, gr_zero]
    congr 1
    rw [Int.add_assoc]
    congr 2
theorem el_rep (n j : Nat) : el (List.replicate n 0) j = 0 := by
  unfold el; rw [List.getD_eq_getElem?_getD, List.getElem?_replicate]; split <;> rfl
theorem el_combR {p : Int} {n : Nat} (hp : 2 ≤ p) {rows : Rows} {cs : List Int} {j : Nat} (hr : rowsP p n rows) (hl : rows.length ≤ cs.length) (hj : j < n) :
    el (combR p n rows cs) j = sg rows.length (fun i => el cs i * el (gr rows i) j) % p := by
  unfold combR
  rw [el_fold2 hp rows cs _ j (okR_zero hp n) hr hl hj, el_rep, Int.zero_add]
theorem fold2_ok {p : Int} {n : Nat} (hp : 2 ≤ p) : ∀ (rows : Rows) (cs : List Int) (acc : List Int), okR p n acc → rowsP p n rows → okR p n (fold2 (fun acc row c => addR p c acc row) rows cs acc)
  | [], cs, acc, ha, _ => by cases cs <;> exact ha
  | r :: rows, [], acc, ha, _ => ha
  | r :: rows, c :: cs, acc, ha, hr => by
    have h1 := hr r (List.mem_cons_self ..)
    exact fold2_ok hp rows cs _ ⟨by rw [addR_len (by rw [h1.1, ha.1]), ha.1], zip_in hp c r acc⟩ (fun x hx => hr x (List.mem_cons_of_mem _ hx))
theorem combR_ok {p : Int} {n : Nat} (hp : 2 ≤ p) {rows : Rows} {cs : List Int} (hr : rowsP p n rows) : okR p n (combR p n rows cs) := fold2_ok hp rows cs _ (okR_zero hp n) hr

/-! ### coordinates -/
def coordsL (b : Rows) (v : List Int) : List Int := b.map fun r => el v (leadN r)
theorem el_coords {b : Rows} {v : List Int} {i : Nat} (h : i < b.length) : el (coordsL b v) i = el v (leadN (gr b i)) := by
  have h1 := el_get (r := coordsL b v) (c := i) (by simp [coordsL]; exact h)
  unfold coordsL at h1
  rw [List.getElem?_map, gr_get h] at h1
  exact (Option.some.inj h1).symm
theorem coords_in {p : Int} {n : Nat} {b : Rows} {v : List Int} (hb : Red p n b) (hv : okR p n v) : inP p (coordsL b v) := by
  intro x hx
  obtain ⟨r, hr, rfl⟩ := List.mem_map.1 hx
  obtain ⟨i, hi, rfl⟩ := List.mem_iff_getElem.1 hr
  have hl := hb.lt i hi
  have e : gr b i = b[i] := by have := gr_get hi; rw [List.getElem?_eq_getElem hi] at this; exact (Option.some.inj this).symm
  rw [e] at hl
  exact hv.2 _ (el_mem (by rw [hv.1]; exact hl))
def hasB (p : Int) (n : Nat) (b : Rows) (v : List Int) : Bool := decide (combR p n b (coordsL b v) = v)
def restN (p : Int) (v : List Int) (b : Rows) : Nat → List Int
  | 0 => v
  | i + 1 => mapR (subG p (el (restN p v b i) (leadN (gr b i))) (gr b i)) (restN p v b i)
theorem restN_ok {p : Int} {n : Nat} {b : Rows} {v : List Int} (hp : 2 ≤ p) (hv : okR p n v) : ∀ i, okR p n (restN p v b i)
  | 0 => hv
  | i + 1 => ⟨by unfold restN; rw [mapR_len]; exact (restN_ok hp hv i).1, mapR_in hp (fun j x => ⟨_, rfl⟩) _⟩
theorem restN_el {p : Int} {n : Nat} {b : Rows} {v : List Int} (hp : 2 ≤ p) (hb : Red p n b) (hv : okR p n v) : ∀ i, i ≤ b.length →
    (∀ j, j < n → el (restN p v b i) j = (el v j - sg i (fun t => el v (leadN (gr b t)) * el (gr b t) j)) % p) ∧ (i < b.length → el (restN p v b i) (leadN (gr b i)) = el v (leadN (gr b i)))
  | 0, _ => by
    refine ⟨fun j hj => ?_, fun _ => rfl⟩
    have h1 := hv.2 _ (el_mem (r := v) (c := j) (by rw [hv.1]; exact hj))
    show el v j = (el v j - 0) % p
    rw [Int.sub_zero, emod_sm h1]
  | i + 1, hi => by
    obtain ⟨h1, h2⟩ := restN_el hp hb hv i (by omega)
    have h3 := h2 (by omega)
    have hj1 : ∀ j, j < n → el (restN p v b (i + 1)) j = (el v j - sg (i + 1) (fun t => el v (leadN (gr b t)) * el (gr b t) j)) % p := fun j hj => by
      unfold restN
      rw [el_mapR (by rw [(restN_ok hp hv i).1]; exact hj)]
      unfold subG
      rw [h3, h1 j hj, sub_mod1]
      show _ = (el v j - (sg i (fun t => el v (leadN (gr b t)) * el (gr b t) j) + el v (leadN (gr b i)) * el (gr b i) j)) % p
      congr 1; omega
    refine ⟨hj1, fun hlt => ?_⟩
    have hl := hb.lt (i + 1) hlt
    rw [hj1 _ hl, sg_zero (fun t ht => by rw [hb.zero (i + 1) t hlt (by omega) (by omega), Int.mul_zero]), Int.sub_zero]
    exact emod_sm (hv.2 _ (el_mem (by rw [hv.1]; exact hl)))
theorem sub_zero_iff {p a s : Int} (ha : 0 ≤ a ∧ a < p) : (a - s) % p = 0 ↔ s % p = a := by
  constructor
  · intro h
    have := Int.emod_emod_of_dvd (a - s) (Int.dvd_refl p)
    have e : s % p = a % p := by
      have h2 : a = (a - s) + s := by omega
      conv => rhs; rw [h2]
      rw [Int.add_emod, h, Int.zero_add, mod_mod]
    rw [e, emod_sm ha]
  · intro h
    rw [← h]
    rw [sub_mod1, Int.sub_self]; exact Int.zero_emod p
theorem coordinates_ {p : Int} {n : Nat} {b : Rows} {v : List Int} (hf : fdB p = true) (hb : Red p n b) (hv : okR p n v) (hn : n ≤ 1048576) (hl : b.length ≤ 1048576) :
    F_impl_coordinates p b v = some (coordsL b v, hasB p n b v) := by
  have hp := fdB_rng hf
  have hm : maxN = 1099511627776 := rfl
  have hvl := hv.1
  refine bnd (clone_ (by omega)) (bnd (a := (restN p v b b.length, coordsL b v)) ?_ ?_)
  · have := forS_is (n := b.length) (fun i => (restN p v b i, (coordsL b v).take i)) (f := fun (k11 : Nat) (s85 : List Int × List Int) =>
      (idxO b ((k11 : Nat) : Int)).bind fun a101 =>
      (F_impl_lead a101).bind fun y105 =>
      (idxO s85.1 y105).bind fun a114 =>
      (appO s85.2 [a114]).bind fun a119 =>
      (negO a114).bind fun a124 =>
      (F_impl_addTimes p s85.1 a124 a101).bind fun y126 =>
      some (y126, a119)) (by
      intro i hi
      have hl1 := hb.lt i hi
      have hro := okM_gr hb.ok hi
      obtain ⟨h1, h2⟩ := restN_el hp.1 hb hv i (by omega)
      have h3 := h2 hi
      have hok := restN_ok (b := b) hp.1 hv i
      have hel := hok.2 _ (el_mem (r := restN p v b i) (c := leadN (gr b i)) (by rw [hok.1]; exact hl1))
      refine bnd (idx_gr hi) (bnd (lead_ _) (bnd (idx_el (by dsimp only; rw [hok.1]; exact hl1)) ?_))
      dsimp only
      refine bnd (appO_of (by rw [List.length_take]; simp; omega)) (bnd (cI_of ⟨by omega, by omega⟩) (bnd (implSub hp hok.2 hro.2 (by rw [hok.1, hro.1]) hel) ?_))
      refine congrArg some (Prod.ext rfl ?_)
      show (coordsL b v).take i ++ [_] = (coordsL b v).take (i + 1)
      have hc : i < (coordsL b v).length := by simp [coordsL]; exact hi
      rw [List.take_add_one, el_get hc, el_coords hi, h3]; rfl)
    refine this.trans ?_
    rw [List.take_of_length_le (by simp [coordsL])]
  · refine bnd (isZero_ _) ?_
    refine congrArg some (Prod.ext rfl ?_)
    show decide _ = decide _
    rw [decide_eq_decide]
    obtain ⟨h1, _⟩ := restN_el hp.1 hb hv b.length (Nat.le_refl _)
    have hok := restN_ok (b := b) hp.1 hv b.length
    have hco := combR_ok (cs := coordsL b v) hp.1 hb.ok
    have hcl : b.length ≤ (coordsL b v).length := by simp [coordsL]
    have key : ∀ j, j < n → (el (restN p v b b.length) j = 0 ↔ el (combR p n b (coordsL b v)) j = el v j) := fun j hj => by
      rw [h1 j hj, el_combR hp.1 hb.ok hcl hj, sub_zero_iff (hv.2 _ (el_mem (by omega)))]
      rw [sg_congr (g := fun i => el (coordsL b v) i * el (gr b i) j) (fun i hi => by rw [el_coords hi])]
    constructor
    · intro h
      refine ext_el (by rw [hco.1, hv.1]) fun j hj => (key j (by rw [hco.1] at hj; exact hj)).1 ?_
      exact leadN_z _ j (by rw [h, hok.1]; rw [hco.1] at hj; exact hj)
    · intro h
      exact leadN_full fun j hj => (key j (by rw [hok.1] at hj; exact hj)).2 (by rw [h])
theorem spCoords_ {p : Int} {n : Nat} {b : Rows} {v : List Int} (hb : Red p n b) (hv : v.length = n) (hn : n ≤ 1048576) (hl : b.length ≤ 1048576) : F_spec_spCoords b v = some (coordsL b v) := by
  have hm : maxN = 1099511627776 := rfl
  refine bnd (forS_map (fun r => el v (leadN r)) b [] (by simp; omega) ?_) rfl
  intro j r s hj hs
  have hjl : j < b.length := (List.getElem?_eq_some_iff.1 hj).1
  have e : gr b j = r := Option.some.inj ((gr_get hjl).symm.trans hj)
  have h1 := hb.lt j hjl
  have h2 := okM_gr hb.ok hjl
  rw [e] at h1 h2
  exact bnd (idxO_of hj) (bnd (spLead_ (by omega)) (bnd (idx_el (by omega)) (bnd (appO_of (by simp at hs ⊢; omega)) rfl)))
theorem spHas_ {p : Int} {n : Nat} {b : Rows} {v : List Int} (hf : fdB p = true) (hb : Red p n b) (hv : okR p n v) (hn : n ≤ 1048576) (hl : b.length ≤ 1048576) : F_spec_spHas p b v = some (hasB p n b v) := by
  have hm : maxN = 1099511627776 := rfl
  have hvl := hv.1
  refine bnd (spCoords_ hb hv.1 hn hl) ?_
  rw [hv.1]
  exact bnd (spSum_ (fdB_rng hf) (by omega) hb.ok (coords_in hb hv) (by simp [coordsL])) (bnd (l1Same_ _ _) rfl)
def vecB (p n : Int) (v : List Int) : Bool := decide ((v.length : Int) = n) && inB p v
theorem vecB_ok {p : Int} {n : Nat} {v : List Int} (h : vecB p n v = true) : okR p n v := by
  unfold vecB at h
  rw [Bool.and_eq_true] at h
  exact ⟨by have := of_decide_eq_true h.1; omega, inB_true.1 h.2⟩

/-! ### has a vector -/

/-! ### relations -/
abbrev Rel := Int × Int × Rows
def rlB (p : Int) (r : Rel) : Bool := fdB p && ((rng r.1 0 24 && (rng r.2.1 0 24 && decide (r.1 + r.2.1 ≤ 24))) && redB p (r.1 + r.2.1) r.2.2)
theorem fits_ (l r : Int) : F_impl_fits l r = some (rng l 0 24 && (rng r 0 24 && decide (l + r ≤ 24))) := by
  refine bnd (a := (rng l 0 24 && (rng r 0 24 && decide (l + r ≤ 24)))) ?_ rfl
  refine bndB (within_ _ _ _) (fun _ => rfl) (fun h1 => cTW rfl (bndB (within_ _ _ _) (fun _ => rfl) (fun h2 => cTW rfl ?_)))
  have h1 := rng_true.1 h1
  have h2 := rng_true.1 h2
  exact bnd (addO_of (by omega) (by omega)) rfl
theorem isRelation_ (p : Int) (r : Rel) : F_impl_isRelation p r = some (rlB p r) := by
  refine bnd (a := rlB p r) ?_ rfl
  unfold rlB
  cases hf : fdB p with
  | false => exact bnd (isField_ p) (by rw [hf]; rfl)
  | true =>
    refine bnd (isField_ p) (cTW hf (bnd (fits_ _ _) ?_))
    cases hb : (rng r.1 0 24 && (rng r.2.1 0 24 && decide (r.1 + r.2.1 ≤ 24))) with
    | false => rfl
    | true =>
      simp only [Bool.and_eq_true, rng_true, decide_eq_true_eq] at hb
      refine cTW rfl (bnd (addO_of (by omega) (by omega)) ?_)
      obtain ⟨n, hn⟩ : ∃ n : Nat, r.1 + r.2.1 = (n : Int) := ⟨(r.1 + r.2.1).toNat, by omega⟩
      rw [hn]
      exact bnd (isReduced_ hf (by omega)) rfl
theorem rlGood_ (p : Int) (r : Rel) : F_spec_rlGood p r = some (rlB p r) := by
  refine bnd (a := rlB p r) ?_ rfl
  have e : rlB p r = (rng r.1 0 24 && (rng r.2.1 0 (24 - r.1) && spB p (r.1 + r.2.1, r.2.2))) := by
    unfold rlB spB
    by_cases h : (0 ≤ r.1 ∧ r.1 ≤ 24) ∧ (0 ≤ r.2.1 ∧ r.2.1 ≤ 24) ∧ r.1 + r.2.1 ≤ 24
    · rw [rng_true.2 h.1, rng_true.2 h.2.1, dT h.2.2, show rng r.2.1 0 (24 - r.1) = true from rng_true.2 (by omega), show rng (r.1 + r.2.1) 0 24 = true from rng_true.2 (by omega)]
      simp
    · have h1 : (rng r.1 0 24 && (rng r.2.1 0 24 && decide (r.1 + r.2.1 ≤ 24))) = false := by
        rw [← Bool.not_eq_true]; simp only [Bool.and_eq_true, rng_true, decide_eq_true_eq]; exact h
      have h2 : (rng r.1 0 24 && (rng r.2.1 0 (24 - r.1) && (fdB p && (rng (r.1 + r.2.1) 0 24 && redB p (r.1 + r.2.1) r.2.2)))) = false := by
        rw [← Bool.not_eq_true]; simp only [Bool.and_eq_true, rng_true]; intro h3; exact h (by omega)
      rw [h1]
      simp only [Bool.false_and, Bool.and_false]
      exact h2.symm
  rw [e]
  refine bndB (l1In _ _ _) (fun _ => rfl) (fun h1 => cTW rfl ?_)
  have h1 := rng_true.1 h1
  refine bnd (subO_of (by omega) (by omega)) (bndB (l1In _ _ _) (fun _ => rfl) (fun h2 => cTW rfl ?_))
  have h2 := rng_true.1 h2
  exact bnd (addO_of (by omega) (by omega)) (bnd (spGood_ p _) rfl)
/-- a valid relation: l elements left, r right -/
structure RlOk (p : Int) (l r : Nat) (R : Rel) : Prop where
  hf : fdB p = true
  left : R.1 = (l : Int)
  right : R.2.1 = (r : Int)
  n24 : l + r ≤ 24
  red : Red p (l + r) R.2.2
  len : R.2.2.length ≤ l + r
theorem rlB_ok {p : Int} {R : Rel} (h : rlB p R = true) : ∃ l r, RlOk p l r R := by
  unfold rlB at h
  simp only [Bool.and_eq_true, rng_true, decide_eq_true_eq] at h
  obtain ⟨h1, ⟨h2, h3, h4⟩, h5⟩ := h
  obtain ⟨l, hl⟩ : ∃ l : Nat, R.1 = (l : Int) := ⟨R.1.toNat, by omega⟩
  obtain ⟨r, hr⟩ : ∃ r : Nat, R.2.1 = (r : Int) := ⟨R.2.1.toNat, by omega⟩
  rw [hl, hr, show (l : Int) + (r : Int) = ((l + r : Nat) : Int) by omega] at h5
  obtain ⟨k1, k2⟩ := redB_ok h1 h5
  exact ⟨l, r, h1, hl, hr, by omega, k1, k2⟩

/-! ### the first choice -/
end Go.Proofs.YtnlbhdepagkjgaaDoor
namespace Go.Proofs.YtnlbhdepagkjgaaDoor

theorem flat_take {α : Type} (l : List (List α)) (j : Nat) : (l.take j).flatten.length ≤ l.flatten.length := by
  have : l.flatten = (l.take j).flatten ++ (l.drop j).flatten := by rw [← List.flatten_append, List.take_append_drop]
  rw [this, List.length_append]; omega
theorem flat_succ {α : Type} (l : List (List α)) {j : Nat} {x : List α} (h : l[j]? = some x) : (l.take (j + 1)).flatten = (l.take j).flatten ++ x := by
  rw [List.take_add_one, h]
  simp only [Option.toList_some, List.flatten_append, List.flatten_cons, List.flatten_nil, List.append_nil]
theorem joined_ {l : Rows} (h : l.flatten.length ≤ maxN) : F_impl_joined l = some l.flatten := by
  have := forS_is (n := l.length) (fun j => (l.take j).flatten) (f := fun (k5 : Nat) (s41 : List Int) =>
      (idxO l ((k5 : Nat) : Int)).bind fun a57 =>
      (appO s41 a57).bind fun a61 =>
      some a61) (by
    intro j hj
    have h1 := gr_get hj
    have h2 := flat_succ l h1
    have h3 := flat_take l (j + 1)
    refine bnd (idx_gr hj) (bnd (appO_of ?_) (by rw [h2]))
    rw [h2, List.length_append] at h3; omega)
  exact bnd this (by rw [List.take_of_length_le (Nat.le_refl _)])
def pairB (p : Int) (R : Rel) (x y : List Int) : Bool := rlB p R && (vecB p R.1 x && vecB p R.2.1 y)
theorem pairB_ok {p : Int} {R : Rel} {x y : List Int} (h : pairB p R x y = true) : ∃ l r, RlOk p l r R ∧ okR p l x ∧ okR p r y := by
  unfold pairB at h
  simp only [Bool.and_eq_true] at h
  obtain ⟨l, r, h1⟩ := rlB_ok h.1
  have h2 := h.2.1; have h3 := h.2.2
  rw [h1.left] at h2; rw [h1.right] at h3
  exact ⟨l, r, h1, vecB_ok h2, vecB_ok h3⟩
theorem okR_app {p : Int} {l r : Nat} {x y : List Int} (hx : okR p l x) (hy : okR p r y) : okR p (l + r) (x ++ y) :=
  ⟨by rw [List.length_append, hx.1, hy.1], fun z hz => by rcases List.mem_append.1 hz with h | h; exact hx.2 z h; exact hy.2 z h⟩
def wHasPair (p : Int) (R : Rel) (x y : List Int) : Bool × Bool := if pairB p R x y then (hasB p (R.1 + R.2.1).toNat R.2.2 (x ++ y), true) else (false, false)
theorem hasPair_ {p : Int} {l r : Nat} {R : Rel} {v : List Int} (h : RlOk p l r R) (hv : okR p (l + r) v) : F_impl_hasPair p R v = some (hasB p (l + r) R.2.2 v) := by
  have := h.n24; have := h.len
  exact bnd (coordinates_ h.hf h.red hv (by omega) (by omega)) rfl
theorem implHasPair (p : Int) (R : Rel) (x y : List Int) : F_impl_HasPair p R x y = some (wHasPair p R x y) := by
  have hm : maxN = 1099511627776 := rfl
  refine bnd (a := !pairB p R x y) (bndN (isRelation_ p R) (fun _ => rfl) (fun _ => stp (cFW rfl (bndN (b := vecB p R.1 x) (isVector_ p R.1 x) (fun _ => rfl) (fun _ => stp (cFW rfl (bnd (isVector_ p R.2.1 y) rfl))))))) ?_
  unfold wHasPair
  cases h : pairB p R x y with
  | false => rfl
  | true =>
    obtain ⟨l, r, h1, h2, h3⟩ := pairB_ok h
    have := h1.n24
    have e : ([x, y] : Rows).flatten = x ++ y := by simp
    have hl := okR_app h2 h3
    refine cFW rfl (bnd (joined_ (by rw [e, hl.1]; omega)) ?_)
    rw [e]
    refine bnd (hasPair_ h1 hl) ?_
    rw [h1.left, h1.right, show ((l : Int) + (r : Int)).toNat = l + r by omega]; rfl
theorem and4 (a b c d e : Bool) : (a && ((b && d) && (c && e))) = (a && (b && (c && (d && e)))) := by cases a <;> cases b <;> cases c <;> cases d <;> cases e <;> rfl
theorem specHasPair (p : Int) (R : Rel) (x y : List Int) : F_spec_HasPair p R x y = some (wHasPair p R x y) := by
  have hm : maxN = 1099511627776 := rfl
  refine bnd (a := !pairB p R x y) ?_ ?_
  · unfold pairB vecB
    rw [and4]
    refine bndN (rlGood_ p R) (fun _ => rfl) (fun hb => stp (cFW rfl (stp ?_)))
    have hp : 2 ≤ p ∧ p ≤ 97 := by
      obtain ⟨l, r, h1⟩ := rlB_ok hb
      exact fdB_rng h1.hf
    cases decide ((x.length : Int) = R.1) with
    | false => rfl
    | true =>
      refine cFW rfl (stp ?_)
      cases decide ((y.length : Int) = R.2.1) with
      | false => rfl
      | true =>
        show _ = some (!(inB p x && inB p y))
        exact cFW rfl (bndN (fdIn hp x) (fun _ => rfl) (fun _ => stp (cFW rfl (bnd (fdIn hp y) rfl))))
  · unfold wHasPair
    cases h : pairB p R x y with
    | false => rfl
    | true =>
      obtain ⟨l, r, h1, h2, h3⟩ := pairB_ok h
      have := h1.n24; have := h1.len
      have hl := okR_app h2 h3
      have hx := h2.1
      have hl1 := hl.1
      rw [List.length_append] at hl1
      refine cFW rfl (bnd (bnd (own_ (by omega)) (bnd (appO_of (by omega)) (bnd (spHas_ h1.hf h1.red hl (by omega) (by show R.2.2.length ≤ 1048576; omega)) rfl))) ?_)
      rw [h1.left, h1.right, show ((l : Int) + (r : Int)).toNat = l + r by omega]
      rfl

/-! ### inclusion -/

/-! ### ports that are never inputs -/
end Go.Proofs.YtnlbhdepagkjgaaDoor
namespace Go.Proofs.YtnlbhdepagkjgaaDoor
def nIntS (a : List Int) : Nat := a.length
def nIntSS (a : List (List Int)) : Nat := rowsN a
def lensIntSS (a : List (List Int)) : Prop := lensOk a
theorem niceLensIntSS {a : List (List Int)} (h : Nice.ok a) : lensIntSS a := niceLens h
theorem z_IntSS (a : List (List Int)) (left : Int) (h0 : 0 ≤ left) (h1 : left ≤ bigN) (hl : lensIntSS a) : F_laws_szIntSS a left = some (if (nIntSS a : Int) ≤ left then left - nIntSS a else -1) := szIntSS a left h0 h1 hl
theorem t_IntS (a : List Int) (h : nIntS a ≤ 1048576) : F_laws_toIntS a = some a := by
  have hm : maxN = 1099511627776 := rfl
  exact toIntS a (by unfold nIntS at h; omega)
theorem t_IntSS (a : List (List Int)) (h : nIntSS a ≤ 1048576) : F_laws_toIntSS a = some a := toIntSS_of a h
theorem e_IntS (a : List Int) (h : nIntS a ≤ 1048576) : F_laws_eqIntS a a = some true := by rw [eqIntS a a (by unfold nIntS at h; unfold lenOk; omega), show decide (a = a) = true from dT rfl]
theorem e_IntSS (a : List (List Int)) (h : nIntSS a ≤ 1048576) : F_laws_eqIntSS a a = some true := eqIntSS_same a (lensOk_of h)
end Go.Proofs.YtnlbhdepagkjgaaDoor
namespace Go.Proofs.YtnlbhdepagkjgaaDoor

abbrev TyRelation := Int × Int × (List (List Int))
def nRelation (a : TyRelation) : Nat := nIntSS a.2.2
def lensRelation (a : TyRelation) : Prop := lensIntSS a.2.2
theorem z_Relation (a : TyRelation) (left : Int) (h0 : 0 ≤ left) (h1 : left ≤ bigN) (hl : lensRelation a) : F_laws_szRelation a left = some (if (nRelation a : Int) ≤ left then left - nRelation a else -1) := by
  unfold bigN at h1
  have l0 := hl
  unfold nRelation
  refine bnd (z_IntSS a.2.2 (left) (by omega) (by unfold bigN; omega) l0) (stp ?_)
  by_cases g0 : (nIntSS a.2.2 : Int) ≤ left
  case neg =>
    rw [if_neg g0]; try rw [if_neg (by omega)]
    exact cTW (dT (by omega)) rfl
  rw [if_pos g0]
  try rw [if_pos (by omega)]
  refine cFW (dF (by omega)) ?_
  congr 1; try omega
theorem niceLensRelation {a : TyRelation} (h : Nice.ok a) : lensRelation a := by
  obtain ⟨h0, h1, h2⟩ := h
  exact niceLensIntSS h2
theorem t_Relation (a : TyRelation) (h : nRelation a ≤ 1048576) : F_laws_toRelation a = some a := by
  unfold nRelation at h
  exact bnd (t_IntSS a.2.2 (by omega)) (rfl)
theorem e_Relation (a : TyRelation) (h : nRelation a ≤ 1048576) : F_laws_eqRelation a a = some true := by
  unfold nRelation at h
  exact stp (cFW (nT (dT rfl)) (stp (cFW (nT (dT rfl)) (bnd (e_IntSS a.2.2 (by omega)) (stp (cFW rfl (rfl)))))))
end Go.Proofs.YtnlbhdepagkjgaaDoor
namespace Go.Proofs.YtnlbhdepagkjgaaDoor
set_option linter.unusedVariables false
theorem lawN_HasPair (a0 : Int) (a1 : TyRelation) (a2 : List Int) (a3 : List Int) (i0 : Nice.ok a0) (i1 : Nice.ok a1) (i2 : Nice.ok a2) (i3 : Nice.ok a3) : F_laws_FnExactHasPair a0 a1 a2 a3 = some true := by
  have hbig : bigN = 4611686018427387904 := rfl
  refine stp ?_
  by_cases gaX : (1048576 : Int) < ((a2.length : Nat) : Int)
  · exact cTW (dT gaX) rfl
  refine cFW (dF gaX) ?_
  have haX : nIntS a2 ≤ 1048576 := by unfold nIntS; omega
  refine stp ?_
  by_cases gaY : (1048576 : Int) < ((a3.length : Nat) : Int)
  · exact cTW (dT gaY) rfl
  refine cFW (dF gaY) ?_
  have haY : nIntS a3 ≤ 1048576 := by unfold nIntS; omega
  refine bnd (z_Relation a1 1048576 (by omega) (by rw [hbig]; omega) (niceLensRelation i1)) (stp ?_)
  by_cases gaR : (nRelation a1 : Int) ≤ 1048576
  case neg => rw [if_neg gaR]; exact cTW (dT (by omega)) rfl
  rw [if_pos gaR]
  refine cFW (dF (by omega)) ?_
  have haR : nRelation a1 ≤ 1048576 := by omega
  refine bnd (t_Relation a1 haR) ?_
  refine bnd (t_IntS a2 haX) ?_
  refine bnd (t_IntS a3 haY) ?_
  refine bnd (specHasPair a0 a1 a2 a3) ?_
  refine bnd (t_Relation a1 haR) ?_
  refine bnd (t_IntS a2 haX) ?_
  refine bnd (t_IntS a3 haY) ?_
  refine bnd (implHasPair a0 a1 a2 a3) ?_
  refine bnd (a := false) (stp (cFW (nT (dT rfl)) (stp (congrArg some (nT (dT rfl)))))) (cFW rfl ?_)
  refine bnd (t_Relation _ haR) (bnd (e_Relation _ haR) (stp (cFW rfl ?_)))
  refine bnd (t_IntS _ haX) (bnd (e_IntS _ haX) (stp (cFW rfl ?_)))
  refine bnd (t_IntS _ haY) (bnd (e_IntS _ haY) (stp (cFW rfl ?_)))
  rfl
end Go.Proofs.YtnlbhdepagkjgaaDoor
