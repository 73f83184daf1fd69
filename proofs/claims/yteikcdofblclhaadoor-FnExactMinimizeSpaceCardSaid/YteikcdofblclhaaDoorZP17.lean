/-
  Plain laws: sums, combinations of rows by their elements, coordinates in a reduced list. No program in sight. No condition.
-/
import Derived.Test.YteikcdofblclhaaDoorZP16
namespace Go.Proofs.YteikcdofblclhaaDoor

/-! ### sums -/
def sg : Nat → (Nat → Int) → Int
  | 0, _ => 0
  | k + 1, f => sg k f + f k
theorem sg_congr {f g : Nat → Int} : ∀ {k : Nat}, (∀ i, i < k → f i = g i) → sg k f = sg k g
  | 0, _ => rfl
  | k + 1, h => by
    show sg k f + f k = sg k g + g k
    rw [sg_congr (fun i hi => h i (by omega)), h k (by omega)]
theorem sg_zero {f : Nat → Int} {k : Nat} (h : ∀ i, i < k → f i = 0) : sg k f = 0 := by
  induction k with
  | zero => rfl
  | succ k ih =>
    show sg k f + f k = 0
    rw [ih (fun i hi => h i (by omega)), h k (by omega)]; rfl
theorem sg_one {f : Nat → Int} {k i0 : Nat} (h0 : i0 < k) (h : ∀ i, i < k → i ≠ i0 → f i = 0) : sg k f = f i0 := by
  induction k with
  | zero => omega
  | succ k ih =>
    show sg k f + f k = f i0
    by_cases hk : k = i0
    · subst hk
      rw [sg_zero (fun i hi => h i (by omega) (by omega)), Int.zero_add]
    · rw [ih (by omega) (fun i hi hn => h i (by omega) hn), h k (by omega) hk, Int.add_zero]
theorem sg_shift (f : Nat → Int) : ∀ k, sg (k + 1) f = f 0 + sg k (fun i => f (i + 1))
  | 0 => by show 0 + f 0 = f 0 + 0; omega
  | k + 1 => by
    show sg (k + 1) f + f (k + 1) = f 0 + (sg k (fun i => f (i + 1)) + f (k + 1))
    rw [sg_shift f k]; omega
theorem sg_add (f g : Nat → Int) : ∀ k, sg k (fun i => f i + g i) = sg k f + sg k g
  | 0 => rfl
  | k + 1 => by
    show sg k (fun i => f i + g i) + (f k + g k) = (sg k f + f k) + (sg k g + g k)
    rw [sg_add f g k]; omega
theorem sg_mul (c : Int) (f : Nat → Int) : ∀ k, sg k (fun i => c * f i) = c * sg k f
  | 0 => by show (0 : Int) = c * 0; rw [Int.mul_zero]
  | k + 1 => by
    show sg k (fun i => c * f i) + c * f k = c * (sg k f + f k)
    rw [sg_mul c f k, Int.mul_add]
theorem sg_comm (f : Nat → Nat → Int) (n : Nat) : ∀ k, sg k (fun i => sg n (fun j => f i j)) = sg n (fun j => sg k (fun i => f i j))
  | 0 => by
    show (0 : Int) = _
    rw [sg_zero (k := n) (f := fun j => sg 0 fun i => f i j) (fun _ _ => rfl)]
  | k + 1 => by
    show sg k (fun i => sg n (fun j => f i j)) + sg n (fun j => f k j) = sg n (fun j => sg k (fun i => f i j) + f k j)
    rw [sg_comm f n k, sg_add]
theorem sg_mod {p : Int} {f g : Nat → Int} : ∀ {k : Nat}, (∀ i, i < k → f i % p = g i % p) → sg k f % p = sg k g % p
  | 0, _ => rfl
  | k + 1, h => by
    show (sg k f + f k) % p = (sg k g + g k) % p
    rw [Int.add_emod, sg_mod (fun i hi => h i (by omega)), h k (by omega), ← Int.add_emod]
theorem add_mod1 (p a b : Int) : (a % p + b) % p = (a + b) % p := by rw [Int.add_emod, Int.emod_emod_of_dvd _ (Int.dvd_refl p), ← Int.add_emod]
theorem sub_mod1 (p a b : Int) : (a % p - b) % p = (a - b) % p := by rw [Int.sub_emod, Int.emod_emod_of_dvd _ (Int.dvd_refl p), ← Int.sub_emod]
theorem mod_mod (p a : Int) : a % p % p = a % p := Int.emod_emod_of_dvd _ (Int.dvd_refl p)
theorem mul_mod1 (p a b : Int) : (a % p * b) % p = (a * b) % p := by rw [Int.mul_emod, mod_mod, ← Int.mul_emod]
theorem mul_mod2 (p a b : Int) : (a * (b % p)) % p = (a * b) % p := by rw [Int.mul_emod, mod_mod, ← Int.mul_emod]

/-! ### combinations -/
theorem el_zipWith {g : Int → Int → Int} : ∀ {a b : List Int} {j : Nat}, j < a.length → a.length = b.length → el (List.zipWith g a b) j = g (el a j) (el b j)
  | [], _, _, h, _ => by simp at h
  | _ :: _, [], _, _, h => by simp at h
  | x :: a, y :: b, 0, _, _ => by rw [List.zipWith_cons_cons, el_zero, el_zero, el_zero]
  | x :: a, y :: b, j + 1, h, hl => by rw [List.zipWith_cons_cons, el_succ, el_succ, el_succ]; exact el_zipWith (by simpa using h) (by simpa using hl)
theorem el_addR {p c : Int} {acc row : List Int} {j : Nat} (h : j < acc.length) (hl : row.length = acc.length) : el (addR p c acc row) j = (el acc j + c * el row j) % p := by
  unfold addR; exact el_zipWith (by omega) hl
theorem gr_zero (x : List Int) (xs : Rows) : gr (x :: xs) 0 = x := by unfold gr; simp
theorem gr_succ (x : List Int) (xs : Rows) (j : Nat) : gr (x :: xs) (j + 1) = gr xs j := by unfold gr; simp
theorem el_fold2 {p : Int} {n : Nat} (hp : 2 ≤ p) : ∀ (rows : Rows) (cs : List Int) (acc : List Int) (j : Nat), okR p n acc → rowsP p n rows → rows.length ≤ cs.length → j < n →
    el (fold2 (fun acc row c => addR p c acc row) rows cs acc) j = (el acc j + sg rows.length (fun i => el cs i * el (gr rows i) j)) % p
  | [], cs, acc, j, ha, _, _, hj => by
    have : fold2 (fun acc row c => addR p c acc row) [] cs acc = acc := by cases cs <;> rfl
    have hb := ha.2 _ (el_mem (r := acc) (c := j) (by rw [ha.1]; exact hj))
    rw [this]
    show el acc j = (el acc j + 0) % p
    rw [Int.add_zero, emod_sm hb]
  | r :: rows, [], acc, j, _, _, h, _ => by simp at h
  | r :: rows, c :: cs, acc, j, ha, hr, hl, hj => by
    have h1 := hr r (List.mem_cons_self ..)
    have ha2 : okR p n (addR p c acc r) := ⟨by rw [addR_len (by rw [h1.1, ha.1]), ha.1], zip_in hp c r acc⟩
    show el (fold2 _ rows cs (addR p c acc r)) j = _
    rw [el_fold2 hp rows cs _ j ha2 (fun x hx => hr x (List.mem_cons_of_mem _ hx)) (by simpa using hl) hj, el_addR (by rw [ha.1]; exact hj) (by rw [h1.1, ha.1]), add_mod1, List.length_cons, sg_shift, el_zero, gr_zero]
    congr 1
    rw [Int.add_assoc]
    congr 2
theorem el_rep (n j : Nat) : el (List.replicate n 0) j = 0 := by
  unfold el; rw [List.getD_eq_getElem?_getD, List.getElem?_replicate]; split <;> rfl
theorem el_combR {p : Int} {n : Nat} (hp : 2 ≤ p) {rows : Rows} {cs : List Int} {j : Nat} (hr : rowsP p n rows) (hl : rows.length ≤ cs.length) (hj : j < n) :
    el (combR p n rows cs) j = sg rows.length (fun i => el cs i * el (gr rows i) j) % p := by
  unfold combR
  rw [el_fold2 hp rows cs _ j (okR_zero hp n) hr hl hj, el_rep, Int.zero_add]
theorem fold2_ok {p : Int} {n : Nat} (hp : 2 ≤ p) : ∀ (rows : Rows) (cs : List Int) (acc : List Int), okR p n acc → rowsP p n rows → okR p n (fold2 (fun acc row c => addR p c acc row) rows cs acc)
  | [], cs, acc, ha, _ => by cases cs <;> exact ha
  | r :: rows, [], acc, ha, _ => ha
  | r :: rows, c :: cs, acc, ha, hr => by
    have h1 := hr r (List.mem_cons_self ..)
    exact fold2_ok hp rows cs _ ⟨by rw [addR_len (by rw [h1.1, ha.1]), ha.1], zip_in hp c r acc⟩ (fun x hx => hr x (List.mem_cons_of_mem _ hx))
theorem combR_ok {p : Int} {n : Nat} (hp : 2 ≤ p) {rows : Rows} {cs : List Int} (hr : rowsP p n rows) : okR p n (combR p n rows cs) := fold2_ok hp rows cs _ (okR_zero hp n) hr

/-! ### coordinates -/
def coordsL (b : Rows) (v : List Int) : List Int := b.map fun r => el v (leadN r)
theorem el_coords {b : Rows} {v : List Int} {i : Nat} (h : i < b.length) : el (coordsL b v) i = el v (leadN (gr b i)) := by
  have h1 := el_get (r := coordsL b v) (c := i) (by simp [coordsL]; exact h)
  unfold coordsL at h1
  rw [List.getElem?_map, gr_get h] at h1
  exact (Option.some.inj h1).symm
theorem coords_in {p : Int} {n : Nat} {b : Rows} {v : List Int} (hb : Red p n b) (hv : okR p n v) : inP p (coordsL b v) := by
  intro x hx
  obtain ⟨r, hr, rfl⟩ := List.mem_map.1 hx
  obtain ⟨i, hi, rfl⟩ := List.mem_iff_getElem.1 hr
  have hl := hb.lt i hi
  have e : gr b i = b[i] := by have := gr_get hi; rw [List.getElem?_eq_getElem hi] at this; exact (Option.some.inj this).symm
  rw [e] at hl
  exact hv.2 _ (el_mem (by rw [hv.1]; exact hl))
def hasB (p : Int) (n : Nat) (b : Rows) (v : List Int) : Bool := decide (combR p n b (coordsL b v) = v)
def restN (p : Int) (v : List Int) (b : Rows) : Nat → List Int
  | 0 => v
  | i + 1 => mapR (subG p (el (restN p v b i) (leadN (gr b i))) (gr b i)) (restN p v b i)
theorem restN_ok {p : Int} {n : Nat} {b : Rows} {v : List Int} (hp : 2 ≤ p) (hv : okR p n v) : ∀ i, okR p n (restN p v b i)
  | 0 => hv
  | i + 1 => ⟨by unfold restN; rw [mapR_len]; exact (restN_ok hp hv i).1, mapR_in hp (fun j x => ⟨_, rfl⟩) _⟩
theorem restN_el {p : Int} {n : Nat} {b : Rows} {v : List Int} (hp : 2 ≤ p) (hb : Red p n b) (hv : okR p n v) : ∀ i, i ≤ b.length →
    (∀ j, j < n → el (restN p v b i) j = (el v j - sg i (fun t => el v (leadN (gr b t)) * el (gr b t) j)) % p) ∧ (i < b.length → el (restN p v b i) (leadN (gr b i)) = el v (leadN (gr b i)))
  | 0, _ => by
    refine ⟨fun j hj => ?_, fun _ => rfl⟩
    have h1 := hv.2 _ (el_mem (r := v) (c := j) (by rw [hv.1]; exact hj))
    show el v j = (el v j - 0) % p
    rw [Int.sub_zero, emod_sm h1]
  | i + 1, hi => by
    obtain ⟨h1, h2⟩ := restN_el hp hb hv i (by omega)
    have h3 := h2 (by omega)
    have hj1 : ∀ j, j < n → el (restN p v b (i + 1)) j = (el v j - sg (i + 1) (fun t => el v (leadN (gr b t)) * el (gr b t) j)) % p := fun j hj => by
      unfold restN
      rw [el_mapR (by rw [(restN_ok hp hv i).1]; exact hj)]
      unfold subG
      rw [h3, h1 j hj, sub_mod1]
      show _ = (el v j - (sg i (fun t => el v (leadN (gr b t)) * el (gr b t) j) + el v (leadN (gr b i)) * el (gr b i) j)) % p
      congr 1; omega
    refine ⟨hj1, fun hlt => ?_⟩
    have hl := hb.lt (i + 1) hlt
    rw [hj1 _ hl, sg_zero (fun t ht => by rw [hb.zero (i + 1) t hlt (by omega) (by omega), Int.mul_zero]), Int.sub_zero]
    exact emod_sm (hv.2 _ (el_mem (by rw [hv.1]; exact hl)))
theorem sub_zero_iff {p a s : Int} (ha : 0 ≤ a ∧ a < p) : (a - s) % p = 0 ↔ s % p = a := by
  constructor
  · intro h
    have := Int.emod_emod_of_dvd (a - s) (Int.dvd_refl p)
    have e : s % p = a % p := by
      have h2 : a = (a - s) + s := by omega
      conv => rhs; rw [h2]
      rw [Int.add_emod, h, Int.zero_add, mod_mod]
    rw [e, emod_sm ha]
  · intro h
    rw [← h]
    rw [sub_mod1, Int.sub_self]; exact Int.zero_emod p
theorem coordinates_ {p : Int} {n : Nat} {b : Rows} {v : List Int} (hf : fdB p = true) (hb : Red p n b) (hv : okR p n v) (hn : n ≤ 1048576) (hl : b.length ≤ 1048576) :
    F_impl_coordinates p b v = some (coordsL b v, hasB p n b v) := by
  have hp := fdB_rng hf
  have hm : maxN = 1099511627776 := rfl
  have hvl := hv.1
  refine bnd (clone_ (by omega)) (bnd (a := (restN p v b b.length, coordsL b v)) ?_ ?_)
  · have := forS_is (n := b.length) (fun i => (restN p v b i, (coordsL b v).take i)) (f := fun (k11 : Nat) (s85 : List Int × List Int) =>
      (idxO b ((k11 : Nat) : Int)).bind fun a101 =>
      (F_impl_lead a101).bind fun y105 =>
      (idxO s85.1 y105).bind fun a114 =>
      (appO s85.2 [a114]).bind fun a119 =>
      (negO a114).bind fun a124 =>
      (F_impl_addTimes p s85.1 a124 a101).bind fun y126 =>
      some (y126, a119)) (by
      intro i hi
      have hl1 := hb.lt i hi
      have hro := okM_gr hb.ok hi
      obtain ⟨h1, h2⟩ := restN_el hp.1 hb hv i (by omega)
      have h3 := h2 hi
      have hok := restN_ok (b := b) hp.1 hv i
      have hel := hok.2 _ (el_mem (r := restN p v b i) (c := leadN (gr b i)) (by rw [hok.1]; exact hl1))
      refine bnd (idx_gr hi) (bnd (lead_ _) (bnd (idx_el (by dsimp only; rw [hok.1]; exact hl1)) ?_))
      dsimp only
      refine bnd (appO_of (by rw [List.length_take]; simp; omega)) (bnd (cI_of ⟨by omega, by omega⟩) (bnd (implSub hp hok.2 hro.2 (by rw [hok.1, hro.1]) hel) ?_))
      refine congrArg some (Prod.ext rfl ?_)
      show (coordsL b v).take i ++ [_] = (coordsL b v).take (i + 1)
      have hc : i < (coordsL b v).length := by simp [coordsL]; exact hi
      rw [List.take_add_one, el_get hc, el_coords hi, h3]; rfl)
    refine this.trans ?_
    rw [List.take_of_length_le (by simp [coordsL])]
  · refine bnd (isZero_ _) ?_
    refine congrArg some (Prod.ext rfl ?_)
    show decide _ = decide _
    rw [decide_eq_decide]
    obtain ⟨h1, _⟩ := restN_el hp.1 hb hv b.length (Nat.le_refl _)
    have hok := restN_ok (b := b) hp.1 hv b.length
    have hco := combR_ok (cs := coordsL b v) hp.1 hb.ok
    have hcl : b.length ≤ (coordsL b v).length := by simp [coordsL]
    have key : ∀ j, j < n → (el (restN p v b b.length) j = 0 ↔ el (combR p n b (coordsL b v)) j = el v j) := fun j hj => by
      rw [h1 j hj, el_combR hp.1 hb.ok hcl hj, sub_zero_iff (hv.2 _ (el_mem (by omega)))]
      rw [sg_congr (g := fun i => el (coordsL b v) i * el (gr b i) j) (fun i hi => by rw [el_coords hi])]
    constructor
    · intro h
      refine ext_el (by rw [hco.1, hv.1]) fun j hj => (key j (by rw [hco.1] at hj; exact hj)).1 ?_
      exact leadN_z _ j (by rw [h, hok.1]; rw [hco.1] at hj; exact hj)
    · intro h
      exact leadN_full fun j hj => (key j (by rw [hok.1] at hj; exact hj)).2 (by rw [h])
theorem spCoords_ {p : Int} {n : Nat} {b : Rows} {v : List Int} (hb : Red p n b) (hv : v.length = n) (hn : n ≤ 1048576) (hl : b.length ≤ 1048576) : F_spec_spCoords b v = some (coordsL b v) := by
  have hm : maxN = 1099511627776 := rfl
  refine bnd (forS_map (fun r => el v (leadN r)) b [] (by simp; omega) ?_) rfl
  intro j r s hj hs
  have hjl : j < b.length := (List.getElem?_eq_some_iff.1 hj).1
  have e : gr b j = r := Option.some.inj ((gr_get hjl).symm.trans hj)
  have h1 := hb.lt j hjl
  have h2 := okM_gr hb.ok hjl
  rw [e] at h1 h2
  exact bnd (idxO_of hj) (bnd (spLead_ (by omega)) (bnd (idx_el (by omega)) (bnd (appO_of (by simp at hs ⊢; omega)) rfl)))

/-! ### has a vector -/

/-! ### relations -/

/-! ### the first choice -/
end Go.Proofs.YteikcdofblclhaaDoor

