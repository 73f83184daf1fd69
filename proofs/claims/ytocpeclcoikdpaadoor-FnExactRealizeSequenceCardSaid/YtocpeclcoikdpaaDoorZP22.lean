/-
  Plain laws: sums, combinations of rows by their elements, coordinates in a reduced list. No program in sight. No condition.
-/
import Derived.Test.YtocpeclcoikdpaaDoorZP16
namespace Go.Proofs.YtocpeclcoikdpaaDoor

/-! ### sums -/
def sg : Nat → (Nat → Int) → Int
  | 0, _ => 0
  | k + 1, f => sg k f + f k
theorem sg_congr {f g : Nat → Int} : ∀ {k : Nat}, (∀ i, i < k → f i = g i) → sg k f = sg k g
  | 0, _ => rfl
  | k + 1, h => by
    show sg k f + f k = sg k g + g k
    rw [sg_congr (fun i hi => h i (by omega)), h k (by omega)]
theorem sg_zero {f : Nat → Int} {k : Nat} (h : ∀ i, i < k → f i = 0) : sg k f = 0 := by
  induction k with
  | zero => rfl
  | succ k ih =>
    show sg k f + f k = 0
    rw [ih (fun i hi => h i (by omega)), h k (by omega)]; rfl
theorem sg_one {f : Nat → Int} {k i0 : Nat} (h0 : i0 < k) (h : ∀ i, i < k → i ≠ i0 → f i = 0) : sg k f = f i0 := by
  induction k with
  | zero => omega
  | succ k ih =>
    show sg k f + f k = f i0
    by_cases hk : k = i0
    · subst hk
      rw [sg_zero (fun i hi => h i (by omega) (by omega)), Int.zero_add]
    · rw [ih (by omega) (fun i hi hn => h i (by omega) hn), h k (by omega) hk, Int.add_zero]
theorem sg_shift (f : Nat → Int) : ∀ k, sg (k + 1) f = f 0 + sg k (fun i => f (i + 1))
  | 0 => by show 0 + f 0 = f 0 + 0; omega
  | k + 1 => by
    show sg (k + 1) f + f (k + 1) = f 0 + (sg k (fun i => f (i + 1)) + f (k + 1))
    rw [sg_shift f k]; omega
theorem sg_add (f g : Nat → Int) : ∀ k, sg k (fun i => f i + g i) = sg k f + sg k g
  | 0 => rfl
  | k + 1 => by
    show sg k (fun i => f i + g i) + (f k + g k) = (sg k f + f k) + (sg k g + g k)
    rw [sg_add f g k]; omega
theorem sg_mul (c : Int) (f : Nat → Int) : ∀ k, sg k (fun i => c * f i) = c * sg k f
  | 0 => by show (0 : Int) = c * 0; rw [Int.mul_zero]
  | k + 1 => by
    show sg k (fun i => c * f i) + c * f k = c * (sg k f + f k)
    rw [sg_mul c f k, Int.mul_add]
theorem sg_comm (f : Nat → Nat → Int) (n : Nat) : ∀ k, sg k (fun i => sg n (fun j => f i j)) = sg n (fun j => sg k (fun i => f i j))
  | 0 => by
    show (0 : Int) = _
    rw [sg_zero (k := n) (f := fun j => sg 0 fun i => f i j) (fun _ _ => rfl)]
  | k + 1 => by
    show sg k (fun i => sg n (fun j => f i j)) + sg n (fun j => f k j) = sg n (fun j => sg k (fun i => f i j) + f k j)
    rw [sg_comm f n k, sg_add]
theorem sg_mod {p : Int} {f g : Nat → Int} : ∀ {k : Nat}, (∀ i, i < k → f i % p = g i % p) → sg k f % p = sg k g % p
  | 0, _ => rfl
  | k + 1, h => by
    show (sg k f + f k) % p = (sg k g + g k) % p
    rw [Int.add_emod, sg_mod (fun i hi => h i (by omega)), h k (by omega), ← Int.add_emod]
theorem add_mod1 (p a b : Int) : (a % p + b) % p = (a + b) % p := by rw [Int.add_emod, Int.emod_emod_of_dvd _ (Int.dvd_refl p), ← Int.add_emod]
theorem sub_mod1 (p a b : Int) : (a % p - b) % p = (a - b) % p := by rw [Int.sub_emod, Int.emod_emod_of_dvd _ (Int.dvd_refl p), ← Int.sub_emod]
theorem mod_mod (p a : Int) : a % p % p = a % p := Int.emod_emod_of_dvd _ (Int.dvd_refl p)
theorem mul_mod1 (p a b : Int) : (a % p * b) % p = (a * b) % p := by rw [Int.mul_emod, mod_mod, ← Int.mul_emod]
theorem mul_mod2 (p a b : Int) : (a * (b % p)) % p = (a * b) % p := by rw [Int.mul_emod, mod_mod, ← Int.mul_emod]

/-! ### combinations -/
theorem el_zipWith {g : Int → Int → Int} : ∀ {a b : List Int} {j : Nat}, j < a.length → a.length = b.length → el (List.zipWith g a b) j = g (el a j) (el b j)
  | [], _, _, h, _ => by simp at h
  | _ :: _, [], _, _, h => by simp at h
  | x :: a, y :: b, 0, _, _ => by rw [List.zipWith_cons_cons, el_zero, el_zero, el_zero]
  | x :: a, y :: b, j + 1, h, hl => by rw [List.zipWith_cons_cons, el_succ, el_succ, el_succ]; exact el_zipWith (by simpa using h) (by simpa using hl)
theorem el_addR {p c : Int} {acc row : List Int} {j : Nat} (h : j < acc.length) (hl : row.length = acc.length) : el (addR p c acc row) j = (el acc j + c * el row j) % p := by
  unfold addR; exact el_zipWith (by omega) hl
theorem gr_zero (x : List Int) (xs : Rows) : gr (x :: xs) 0 = x := by unfold gr; simp
theorem gr_succ (x : List Int) (xs : Rows) (j : Nat) : gr (x :: xs) (j + 1) = gr xs j := by unfold gr; simp
theorem el_fold2 {p : Int} {n : Nat} (hp : 2 ≤ p) : ∀ (rows : Rows) (cs : List Int) (acc : List Int) (j : Nat), okR p n acc → rowsP p n rows → rows.length ≤ cs.length → j < n →
    el (fold2 (fun acc row c => addR p c acc row) rows cs acc) j = (el acc j + sg rows.length (fun i => el cs i * el (gr rows i) j)) % p
  | [], cs, acc, j, ha, _, _, hj => by
    have : fold2 (fun acc row c => addR p c acc row) [] cs acc = acc := by cases cs <;> rfl
    have hb := ha.2 _ (el_mem (r := acc) (c := j) (by rw [ha.1]; exact hj))
    rw [this]
    show el acc j = (el acc j + 0) % p
    rw [Int.add_zero, emod_sm hb]
  | r :: rows, [], acc, j, _, _, h, _ => by simp at h
  | r :: rows, c :: cs, acc, j, ha, hr, hl, hj => by
    have h1 := hr r (List.mem_cons_self ..)
    have ha2 : okR p n (addR p c acc r) := ⟨by rw [addR_len (by rw [h1.1, ha.1]), ha.1], zip_in hp c r acc⟩
    show el (fold2 _ rows cs (addR p c acc r)) j = _
    rw [el_fold2 hp rows cs _ j ha2 (fun x hx => hr x (List.mem_cons_of_mem _ hx)) (by simpa using hl) hj, el_addR (by rw [ha.1]; exact hj) (by rw [h1.1, ha.1]), add_mod1, List.length_cons, sg_shift, el_zero, gr_zero]
    congr 1
    rw [Int.add_assoc]
    congr 2
theorem el_rep (n j : Nat) : el (List.replicate n 0) j = 0 := by
  unfold el; rw [List.getD_eq_getElem?_getD, List.getElem?_replicate]; split <;> rfl
theorem el_combR {p : Int} {n : Nat} (hp : 2 ≤ p) {rows : Rows} {cs : List Int} {j : Nat} (hr : rowsP p n rows) (hl : rows.length ≤ cs.length) (hj : j < n) :
    el (combR p n rows cs) j = sg rows.length (fun i => el cs i * el (gr rows i) j) % p := by
  unfold combR
  rw [el_fold2 hp rows cs _ j (okR_zero hp n) hr hl hj, el_rep, Int.zero_add]
theorem fold2_ok {p : Int} {n : Nat} (hp : 2 ≤ p) : ∀ (rows : Rows) (cs : List Int) (acc : List Int), okR p n acc → rowsP p n rows → okR p n (fold2 (fun acc row c => addR p c acc row) rows cs acc)
  | [], cs, acc, ha, _ => by cases cs <;> exact ha
  | r :: rows, [], acc, ha, _ => ha
  | r :: rows, c :: cs, acc, ha, hr => by
    have h1 := hr r (List.mem_cons_self ..)
    exact fold2_ok hp rows cs _ ⟨by rw [addR_len (by rw [h1.1, ha.1]), ha.1], zip_in hp c r acc⟩ (fun x hx => hr x (List.mem_cons_of_mem _ hx))
theorem combR_ok {p : Int} {n : Nat} (hp : 2 ≤ p) {rows : Rows} {cs : List Int} (hr : rowsP p n rows) : okR p n (combR p n rows cs) := fold2_ok hp rows cs _ (okR_zero hp n) hr

/-! ### coordinates -/
def coordsL (b : Rows) (v : List Int) : List Int := b.map fun r => el v (leadN r)
theorem el_coords {b : Rows} {v : List Int} {i : Nat} (h : i < b.length) : el (coordsL b v) i = el v (leadN (gr b i)) := by
  have h1 := el_get (r := coordsL b v) (c := i) (by simp [coordsL]; exact h)
  unfold coordsL at h1
  rw [List.getElem?_map, gr_get h] at h1
  exact (Option.some.inj h1).symm
def hasB (p : Int) (n : Nat) (b : Rows) (v : List Int) : Bool := decide (combR p n b (coordsL b v) = v)
def restN (p : Int) (v : List Int) (b : Rows) : Nat → List Int
  | 0 => v
  | i + 1 => mapR (subG p (el (restN p v b i) (leadN (gr b i))) (gr b i)) (restN p v b i)
theorem restN_ok {p : Int} {n : Nat} {b : Rows} {v : List Int} (hp : 2 ≤ p) (hv : okR p n v) : ∀ i, okR p n (restN p v b i)
  | 0 => hv
  | i + 1 => ⟨by unfold restN; rw [mapR_len]; exact (restN_ok hp hv i).1, mapR_in hp (fun j x => ⟨_, rfl⟩) _⟩
theorem restN_el {p : Int} {n : Nat} {b : Rows} {v : List Int} (hp : 2 ≤ p) (hb : Red p n b) (hv : okR p n v) : ∀ i, i ≤ b.length →
    (∀ j, j < n → el (restN p v b i) j = (el v j - sg i (fun t => el v (leadN (gr b t)) * el (gr b t) j)) % p) ∧ (i < b.length → el (restN p v b i) (leadN (gr b i)) = el v (leadN (gr b i)))
  | 0, _ => by
    refine ⟨fun j hj => ?_, fun _ => rfl⟩
    have h1 := hv.2 _ (el_mem (r := v) (c := j) (by rw [hv.1]; exact hj))
    show el v j = (el v j - 0) % p
    rw [Int.sub_zero, emod_sm h1]
  | i + 1, hi => by
    obtain ⟨h1, h2⟩ := restN_el hp hb hv i (by omega)
    have h3 := h2 (by omega)
    have hj1 : ∀ j, j < n → el (restN p v b (i + 1)) j = (el v j - sg (i + 1) (fun t => el v (leadN (gr b t)) * el (gr b t) j)) % p := fun j hj => by
      unfold restN
      rw [el_mapR (by rw [(restN_ok hp hv i).1]; exact hj)]
      unfold subG
      rw [h3, h1 j hj, sub_mod1]
      show _ = (el v j - (sg i (fun t => el v (leadN (gr b t)) * el (gr b t) j) + el v (leadN (gr b i)) * el (gr b i) j)) % p
      congr 1; omega
    refine ⟨hj1, fun hlt => ?_⟩
    have hl := hb.lt (i + 1) hlt
    rw [hj1 _ hl, sg_zero (fun t ht => by rw [hb.zero (i + 1) t hlt (by omega) (by omega), Int.mul_zero]), Int.sub_zero]
    exact emod_sm (hv.2 _ (el_mem (by rw [hv.1]; exact hl)))
theorem sub_zero_iff {p a s : Int} (ha : 0 ≤ a ∧ a < p) : (a - s) % p = 0 ↔ s % p = a := by
  constructor
  · intro h
    have := Int.emod_emod_of_dvd (a - s) (Int.dvd_refl p)
    have e : s % p = a % p := by
      have h2 : a = (a - s) + s := by omega
      conv => rhs; rw [h2]
      rw [Int.add_emod, h, Int.zero_add, mod_mod]
    rw [e, emod_sm ha]
  · intro h
    rw [← h]
    rw [sub_mod1, Int.sub_self]; exact Int.zero_emod p
theorem coordinates_ {p : Int} {n : Nat} {b : Rows} {v : List Int} (hf : fdB p = true) (hb : Red p n b) (hv : okR p n v) (hn : n ≤ 1048576) (hl : b.length ≤ 1048576) :
    F_impl_coordinates p b v = some (coordsL b v, hasB p n b v) := by
  have hp := fdB_rng hf
  have hm : maxN = 1099511627776 := rfl
  have hvl := hv.1
  refine bnd (clone_ (by omega)) (bnd (a := (restN p v b b.length, coordsL b v)) ?_ ?_)
  · have := forS_is (n := b.length) (fun i => (restN p v b i, (coordsL b v).take i)) (f := fun (k11 : Nat) (s85 : List Int × List Int) =>
      (idxO b ((k11 : Nat) : Int)).bind fun a101 =>
      (F_impl_lead a101).bind fun y105 =>
      (idxO s85.1 y105).bind fun a114 =>
      (appO s85.2 [a114]).bind fun a119 =>
      (negO a114).bind fun a124 =>
      (F_impl_addTimes p s85.1 a124 a101).bind fun y126 =>
      some (y126, a119)) (by
      intro i hi
      have hl1 := hb.lt i hi
      have hro := okM_gr hb.ok hi
      obtain ⟨h1, h2⟩ := restN_el hp.1 hb hv i (by omega)
      have h3 := h2 hi
      have hok := restN_ok (b := b) hp.1 hv i
      have hel := hok.2 _ (el_mem (r := restN p v b i) (c := leadN (gr b i)) (by rw [hok.1]; exact hl1))
      refine bnd (idx_gr hi) (bnd (lead_ _) (bnd (idx_el (by dsimp only; rw [hok.1]; exact hl1)) ?_))
      dsimp only
      refine bnd (appO_of (by rw [List.length_take]; simp; omega)) (bnd (cI_of ⟨by omega, by omega⟩) (bnd (implSub hp hok.2 hro.2 (by rw [hok.1, hro.1]) hel) ?_))
      refine congrArg some (Prod.ext rfl ?_)
      show (coordsL b v).take i ++ [_] = (coordsL b v).take (i + 1)
      have hc : i < (coordsL b v).length := by simp [coordsL]; exact hi
      rw [List.take_add_one, el_get hc, el_coords hi, h3]; rfl)
    refine this.trans ?_
    rw [List.take_of_length_le (by simp [coordsL])]
  · refine bnd (isZero_ _) ?_
    refine congrArg some (Prod.ext rfl ?_)
    show decide _ = decide _
    rw [decide_eq_decide]
    obtain ⟨h1, _⟩ := restN_el hp.1 hb hv b.length (Nat.le_refl _)
    have hok := restN_ok (b := b) hp.1 hv b.length
    have hco := combR_ok (cs := coordsL b v) hp.1 hb.ok
    have hcl : b.length ≤ (coordsL b v).length := by simp [coordsL]
    have key : ∀ j, j < n → (el (restN p v b b.length) j = 0 ↔ el (combR p n b (coordsL b v)) j = el v j) := fun j hj => by
      rw [h1 j hj, el_combR hp.1 hb.ok hcl hj, sub_zero_iff (hv.2 _ (el_mem (by omega)))]
      rw [sg_congr (g := fun i => el (coordsL b v) i * el (gr b i) j) (fun i hi => by rw [el_coords hi])]
    constructor
    · intro h
      refine ext_el (by rw [hco.1, hv.1]) fun j hj => (key j (by rw [hco.1] at hj; exact hj)).1 ?_
      exact leadN_z _ j (by rw [h, hok.1]; rw [hco.1] at hj; exact hj)
    · intro h
      exact leadN_full fun j hj => (key j (by rw [hok.1] at hj; exact hj)).2 (by rw [h])

/-! ### has a vector -/

/-! ### relations -/

/-! ### the first choice -/
end Go.Proofs.YtocpeclcoikdpaaDoor
namespace Go.Proofs.YtocpeclcoikdpaaDoor
set_option linter.unusedVariables false

/-- v is a linear combination of the rows of m, n elements each -/
def inSpan (p : Int) (n : Nat) (m : Rows) (v : List Int) : Prop := ∃ x : Nat → Int, ∀ j, j < n → el v j % p = sg m.length (fun i => x i * el (gr m i) j) % p
def Indep (p : Int) (n : Nat) (m : Rows) : Prop := ∀ x : Nat → Int, (∀ j, j < n → sg m.length (fun i => x i * el (gr m i) j) % p = 0) → ∀ i, i < m.length → x i % p = 0
def subSpan (p : Int) (n : Nat) (a b : Rows) : Prop := ∀ i, i < a.length → inSpan p n b (gr a i)

/-! ### sums -/
theorem sg_mulr (c : Int) (f : Nat → Int) (k : Nat) : sg k (fun i => f i * c) = sg k f * c := by
  rw [sg_congr (g := fun i => c * f i) (fun i _ => Int.mul_comm _ _), sg_mul, Int.mul_comm]
theorem sg_neg (f : Nat → Int) (k : Nat) : sg k (fun i => - f i) = - sg k f := by
  rw [sg_congr (g := fun i => (-1) * f i) (fun i _ => by omega), sg_mul]; omega
theorem sg_sub (f g : Nat → Int) (k : Nat) : sg k (fun i => f i - g i) = sg k f - sg k g := by
  rw [sg_congr (g := fun i => f i + - g i) (fun i _ => Int.sub_eq_add_neg), sg_add, sg_neg]; omega
/-- one summand taken out -/
theorem sg_split {f : Nat → Int} {k r : Nat} (h : r < k) : sg k f = sg k (fun i => if i = r then 0 else f i) + f r := by
  have h1 : sg k (fun i => if i = r then f i else 0) = f r := by
    rw [sg_one h (fun i _ hn => if_neg hn), if_pos rfl]
  rw [← h1, ← sg_add]
  exact sg_congr fun i _ => by by_cases hi : i = r <;> simp [hi]
theorem mod_of_sub {p a b : Int} (h : (a - b) % p = 0) : a % p = b % p := by
  have h2 : a = (a - b) + b := by omega
  rw [h2, Int.add_emod, h, Int.zero_add, mod_mod]
theorem mul_mod_zero {p a b : Int} (h : a % p = 0) : (a * b) % p = 0 := by rw [← mul_mod1, h, Int.zero_mul]; exact Int.zero_emod p
theorem mul_mod_zero2 {p a b : Int} (h : b % p = 0) : (a * b) % p = 0 := by rw [Int.mul_comm]; exact mul_mod_zero h

/-! ### spans -/
theorem inSpan_row {p : Int} {n : Nat} {m : Rows} {i : Nat} (h : i < m.length) : inSpan p n m (gr m i) := by
  refine ⟨fun t => if t = i then 1 else 0, fun j _ => ?_⟩
  rw [sg_one h (fun t _ hn => by show (if t = i then (1 : Int) else 0) * _ = 0; rw [if_neg hn, Int.zero_mul])]
  show _ = (if i = i then (1 : Int) else 0) * _ % p
  rw [if_pos rfl, Int.one_mul]
/-- combinations of combinations -/
theorem inSpan_trans {p : Int} {n : Nat} {a b : Rows} {v : List Int} (hab : subSpan p n a b) (hv : inSpan p n a v) : inSpan p n b v := by
  obtain ⟨x, hx⟩ := hv
  have hY : ∃ Y : Nat → Nat → Int, ∀ i, i < a.length → ∀ j, j < n → el (gr a i) j % p = sg b.length (fun t => Y i t * el (gr b t) j) % p := by
    refine ⟨fun i => if h : i < a.length then Classical.choose (hab i h) else fun _ => 0, fun i hi => ?_⟩
    simp only [dif_pos hi]
    exact Classical.choose_spec (hab i hi)
  obtain ⟨Y, hY⟩ := hY
  refine ⟨fun t => sg a.length (fun i => x i * Y i t), fun j hj => ?_⟩
  rw [hx j hj]
  have e : sg b.length (fun t => sg a.length (fun i => x i * Y i t) * el (gr b t) j) = sg a.length (fun i => x i * sg b.length (fun t => Y i t * el (gr b t) j)) := by
    rw [sg_congr (g := fun t => sg a.length (fun i => x i * Y i t * el (gr b t) j)) (fun t _ => (sg_mulr _ _ _).symm), sg_comm]
    refine sg_congr fun i _ => ?_
    rw [← sg_mul]
    exact sg_congr fun t _ => Int.mul_assoc _ _ _
  rw [e]
  refine sg_mod fun i hi => ?_
  rw [← mul_mod2, hY i hi j hj, mul_mod2]
theorem subSpan_refl (p : Int) (n : Nat) (a : Rows) : subSpan p n a a := fun i hi => inSpan_row hi
theorem subSpan_trans {p : Int} {n : Nat} {a b c : Rows} (h : subSpan p n a b) (k : subSpan p n b c) : subSpan p n a c := fun i hi => inSpan_trans k (h i hi)
theorem inSpan_comb2 {p : Int} {n : Nat} {m : Rows} {u v w : List Int} (c d : Int) (hu : inSpan p n m u) (hv : inSpan p n m v) (h : ∀ j, j < n → el w j % p = (c * el u j + d * el v j) % p) : inSpan p n m w := by
  obtain ⟨x, hx⟩ := hu
  obtain ⟨y, hy⟩ := hv
  refine ⟨fun i => c * x i + d * y i, fun j hj => ?_⟩
  rw [h j hj, Int.add_emod, ← mul_mod2, ← mul_mod2 p d, hx j hj, hy j hj, mul_mod2, mul_mod2, ← Int.add_emod, ← sg_mul, ← sg_mul, ← sg_add]
  congr 1
  exact sg_congr fun i _ => by rw [Int.add_mul, Int.mul_assoc, Int.mul_assoc]
theorem inSpan_zero {p : Int} {n : Nat} {m : Rows} {v : List Int} (h : ∀ j, j < n → el v j % p = 0) : inSpan p n m v :=
  ⟨fun _ => 0, fun j hj => by rw [h j hj, sg_zero (fun i _ => Int.zero_mul _)]; exact (Int.zero_emod p).symm⟩

/-! ### a step of the reduction -/
theorem swap_span {p : Int} {n : Nat} {m : Rows} {r k : Nat} (hr : r < m.length) (hk : k < m.length) : subSpan p n (swapM m r k) m ∧ subSpan p n m (swapM m r k) := by
  have hl := swapM_len m r k
  constructor
  · intro i hi
    rw [hl] at hi
    rw [swapM_gr2 hr hk]
    split
    · exact inSpan_row hr
    · split
      · exact inSpan_row hk
      · exact inSpan_row hi
  · intro i hi
    by_cases h1 : i = k
    · subst h1
      have := inSpan_row (p := p) (n := n) (m := swapM m r i) (i := r) (by rw [hl]; exact hr)
      rw [swapM_gr2 hr hk] at this
      by_cases h2 : r = i
      · subst h2; rw [if_pos rfl] at this; exact this
      · rw [if_neg h2, if_pos rfl] at this; exact this
    · by_cases h2 : i = r
      · subst h2
        have := inSpan_row (p := p) (n := n) (m := swapM m i k) (i := k) (by rw [hl]; exact hk)
        rw [swapM_gr2 hr hk, if_pos rfl] at this; exact this
      · have := inSpan_row (p := p) (n := n) (m := swapM m r k) (i := i) (by rw [hl]; exact hi)
        rw [swapM_gr2 hr hk, if_neg h1, if_neg h2] at this; exact this
/-- what a step makes of rows that go along, by their elements -/
theorem stepA_el {p : Int} {c r k N q : Nat} {m a : Rows} (hf : fdB p = true) (h : okM p N m) (ha : okM p q a) (hl : a.length = m.length) (hr : r < m.length) (hk : k < m.length) (hc : c < N) (hne : el (gr m k) c ≠ 0) :
    let iv := invF p (el (gr m k) c)
    (el (gr m k) c * iv) % p = 1 ∧ (∀ j, j < q → el (gr (stepA p c m a r k) r) j = (el (gr a k) j * iv) % p) ∧
    ∀ i, i < m.length → i ≠ r → ∀ j, j < q → el (gr (stepA p c m a r k) i) j = (el (gr (swapM a r k) i) j - el (gr (swapM m r k) i) c * el (gr (stepA p c m a r k) r) j) % p := by
  intro iv
  have hp := fdB_rng hf
  have hel := okM_el h hk hc
  obtain ⟨_, i1, i2, i3⟩ := inverse_ hf (x := el (gr m k) c) ⟨by omega, hel.2⟩
  have hra : r < a.length := by omega
  have hka : k < a.length := by omega
  have hsr : gr (swapM m r k) r = gr m k := swapM_gr hr hk
  have hsra : gr (swapM a r k) r = gr a k := swapM_gr hra hka
  have hso : okM p q (swapM a r k) := swapM_ok ha hra hka
  have hpl : (pivA p c m a r k).length = a.length := pivA_len p c m a r k
  have hpr : gr (pivA p c m a r k) r = mapR (scaleG p iv) (gr a k) := by
    rw [pivA_gr hra, if_pos rfl, hsr, hsra]
  have hrow := okM_gr ha hka
  have hpe : ∀ j, j < q → el (gr (pivA p c m a r k) r) j = (el (gr a k) j * iv) % p := fun j hj => by
    rw [hpr, el_mapR (by omega)]; rfl
  have hst : ∀ i, i < m.length → gr (stepA p c m a r k) i = elimG p c r (pivA p c m m r k) (pivA p c m a r k) i (gr (pivA p c m a r k) i) := fun i hi => elimA_gr (by rw [hpl]; omega)
  have hstr : ∀ j, j < q → el (gr (stepA p c m a r k) r) j = (el (gr a k) j * iv) % p := fun j hj => by
    rw [hst r hr]
    unfold elimG
    rw [if_pos (.inl rfl)]
    exact hpe j hj
  refine ⟨i1, hstr, fun i hi hir j hj => ?_⟩
  rw [hstr j hj, hst i hi]
  have hpi : gr (pivA p c m a r k) i = gr (swapM a r k) i := by rw [pivA_gr hra, if_neg hir]
  have hpm : gr (pivA p c m m r k) i = gr (swapM m r k) i := by rw [pivA_gr hr, if_neg hir]
  have hsi := okM_gr hso (i := i) (by rw [swapM_len]; omega)
  have hb := okM_el hso (i := i) (by rw [swapM_len]; omega) hj
  unfold elimG
  by_cases h0 : el (gr (pivA p c m m r k) i) c = 0
  · rw [if_pos (.inr h0), hpi]
    rw [hpm] at h0
    rw [h0, Int.zero_mul, Int.sub_zero, emod_sm hb]
  · rw [if_neg (by intro h1; rcases h1 with h1 | h1; exact hir h1; exact h0 h1)]
    rw [el_mapR (by rw [hpi]; omega)]
    unfold subG
    rw [hpi, hpe j hj, hpm]
theorem step_span {p : Int} {c r k N q : Nat} {m a : Rows} (hf : fdB p = true) (h : okM p N m) (ha : okM p q a) (hl : a.length = m.length) (hr : r < m.length) (hk : k < m.length) (hc : c < N) (hne : el (gr m k) c ≠ 0) :
    subSpan p q (stepA p c m a r k) a ∧ subSpan p q a (stepA p c m a r k) := by
  obtain ⟨e1, e2, e3⟩ := stepA_el hf h ha hl hr hk hc hne
  have hsl : (stepA p c m a r k).length = m.length := by rw [stepA_len, hl]
  have hra : r < a.length := by omega
  have hka : k < a.length := by omega
  obtain ⟨w1, w2⟩ := swap_span (p := p) (n := q) (m := a) hra hka
  have hnr : inSpan p q a (gr (stepA p c m a r k) r) := by
    refine inSpan_comb2 (invF p (el (gr m k) c)) 0 (inSpan_row hka) (inSpan_row hka) fun j hj => ?_
    rw [e2 j hj, mod_mod, Int.zero_mul, Int.add_zero, Int.mul_comm]
  constructor
  · intro i hi
    rw [hsl] at hi
    by_cases hir : i = r
    · rw [hir]; exact hnr
    · refine inSpan_comb2 1 (- el (gr (swapM m r k) i) c) (w1 i (by rw [swapM_len]; omega)) hnr fun j hj => ?_
      rw [e3 i hi hir j hj, mod_mod, Int.one_mul, Int.neg_mul, Int.sub_eq_add_neg]
  · refine subSpan_trans w2 ?_
    have hrr : inSpan p q (stepA p c m a r k) (gr (stepA p c m a r k) r) := inSpan_row (by rw [hsl]; exact hr)
    intro i hi
    rw [swapM_len] at hi
    by_cases hir : i = r
    · rw [hir, swapM_gr hra hka]
      refine inSpan_comb2 (el (gr m k) c) 0 hrr hrr fun j hj => ?_
      rw [e2 j hj, Int.zero_mul, Int.add_zero, mul_mod2, ← Int.mul_assoc, Int.mul_comm (el (gr m k) c), Int.mul_assoc, ← mul_mod2, e1, Int.mul_one]
    · refine inSpan_comb2 1 (el (gr (swapM m r k) i) c) (inSpan_row (i := i) (by rw [hsl]; omega)) hrr fun j hj => ?_
      rw [e3 i (by omega) hir j hj, Int.one_mul, add_mod1]
      congr 1; omega
/-- the reduction keeps what is spanned, also by the rows that go along -/
theorem loop_span {p : Int} {N q : Nat} (hf : fdB p = true) : ∀ (d c : Nat) (m a : Rows) (r : Nat), c + d ≤ N → okM p N m → okM p q a → a.length = m.length → r ≤ m.length → subSpan p q (redLoop p d c m a r).2.1 a ∧ subSpan p q a (redLoop p d c m a r).2.1
  | 0, _, _, a, _, _, _, _, _, _ => ⟨subSpan_refl p q a, subSpan_refl p q a⟩
  | d + 1, c, m, a, r, hN, h, ha, hl, hr => by
    unfold redLoop
    by_cases hrl : r < m.length
    · rw [if_pos hrl]
      obtain ⟨s1, s2, s3⟩ := scanN_spec m c (m.length - r) r (by omega)
      split
      · exact loop_span hf d (c + 1) m a r (by omega) h ha hl hr
      · rename_i hk
        have hkl : scanN m c (m.length - r) r < m.length := by omega
        have ha2 : okM p q (stepA p c m a r (scanN m c (m.length - r) r)) := stepA_ok (fdB_rng hf).1 ha (by omega) (by omega)
        obtain ⟨k1, k2⟩ := loop_span hf d (c + 1) (stepA p c m m r (scanN m c (m.length - r) r)) (stepA p c m a r (scanN m c (m.length - r) r)) (r + 1) (by omega) (stepA_ok (fdB_rng hf).1 h hrl hkl) ha2 (by rw [stepA_len, stepA_len]; exact hl) (by rw [stepA_len]; omega)
        obtain ⟨w1, w2⟩ := step_span hf h ha hl hrl hkl (show c < N by omega) (s3 hkl)
        exact ⟨subSpan_trans k1 w1, subSpan_trans w2 k2⟩
    · rw [if_neg hrl]; exact ⟨subSpan_refl p q a, subSpan_refl p q a⟩
theorem redLoop_self (p : Int) : ∀ (d c : Nat) (m : Rows) (r : Nat), (redLoop p d c m m r).2.1 = (redLoop p d c m m r).1
  | 0, _, _, _ => rfl
  | d + 1, c, m, r => by
    unfold redLoop
    split
    · split
      · exact redLoop_self p d (c + 1) m r
      · exact redLoop_self p d (c + 1) _ (r + 1)
    · rfl
theorem take_span {p : Int} {n k : Nat} {m : Rows} (hz : ∀ i, k ≤ i → i < m.length → ∀ j, j < n → el (gr m i) j = 0) : subSpan p n (m.take k) m ∧ subSpan p n m (m.take k) := by
  constructor
  · intro i hi
    rw [List.length_take] at hi
    rw [gr_take (by omega)]
    exact inSpan_row (by omega)
  · intro i hi
    rcases Nat.lt_or_ge i k with h | h
    · have := inSpan_row (p := p) (n := n) (m := m.take k) (i := i) (by rw [List.length_take]; omega)
      rw [gr_take h] at this; exact this
    · exact inSpan_zero fun j hj => by rw [hz i h hi j hj]; exact Int.zero_emod p
/-- the reduced rows span what the rows span -/
theorem redM_span {p : Int} {n : Nat} {m : Rows} (hf : fdB p = true) (h : okM p n m) : subSpan p n (redM p n m) m ∧ subSpan p n m (redM p n m) := by
  obtain ⟨k1, k2⟩ := loop_span hf n 0 m m 0 (by omega) h h rfl (by omega)
  rw [redLoop_self] at k1 k2
  have h1 := redLoop_red hf n 0 m 0 (by omega) h (RedI.start m)
  rw [Nat.zero_add] at h1
  obtain ⟨w1, w2⟩ := take_span (p := p) (n := n) (m := (redLoop p n 0 m m 0).1) (k := (redLoop p n 0 m m 0).2.2) h1.rest
  exact ⟨subSpan_trans w1 k1, subSpan_trans k2 w2⟩

/-! ### independent rows -/
theorem Indep.swap {p : Int} {n : Nat} {m : Rows} {r k : Nat} (hr : r < m.length) (hk : k < m.length) (h : Indep p n m) : Indep p n (swapM m r k) := by
  intro x hx
  have hl := swapM_len m r k
  -- coefficients of m
  have key : ∀ f : List Int → Int, sg (swapM m r k).length (fun i => x i * f (gr (swapM m r k) i)) = sg m.length (fun i => (if i = r then x k else if i = k then x r else x i) * f (gr m i)) := by
    intro f
    rw [hl]
    by_cases hrk : r = k
    · subst hrk
      refine sg_congr fun i hi => ?_
      rw [swapM_gr2 hr hk]
      by_cases h1 : i = r
      · subst h1; simp
      · simp [h1]
    · rw [sg_split hr, sg_split (f := fun i => if i = r then 0 else _) hk, sg_split (f := fun i => (if i = r then x k else if i = k then x r else x i) * f (gr m i)) hr, sg_split (f := fun i => if i = r then 0 else (if i = r then x k else if i = k then x r else x i) * f (gr m i)) hk]
      have e1 : sg m.length (fun i => if i = k then 0 else if i = r then 0 else x i * f (gr (swapM m r k) i)) = sg m.length (fun i => if i = k then 0 else if i = r then 0 else (if i = r then x k else if i = k then x r else x i) * f (gr m i)) := by
        refine sg_congr fun i _ => ?_
        by_cases h1 : i = k
        · simp [h1]
        · by_cases h2 : i = r
          · simp [h2]
          · rw [swapM_gr2 hr hk]; simp [h1, h2]
      rw [e1, if_neg (Ne.symm hrk), if_neg (Ne.symm hrk), swapM_gr hr hk, swapM_gr2 hr hk, if_pos rfl]
      simp only [if_true, if_neg (Ne.symm hrk)]
      omega
  have h2 := h (fun i => if i = r then x k else if i = k then x r else x i) (fun j hj => by rw [← key (fun l => el l j)]; exact hx j hj)
  intro i hi
  rw [hl] at hi
  by_cases h1 : i = k
  · subst h1
    have := h2 r hr
    simpa using this
  · by_cases h3 : i = r
    · subst h3
      have := h2 k hk
      by_cases h4 : k = i
      · exact absurd h4.symm h1
      · simpa [h4] using this
    · have := h2 i hi
      simpa [h1, h3] using this
theorem swapM_swap {m : Rows} {r k : Nat} (hr : r < m.length) (hk : k < m.length) : swapM (swapM m r k) r k = m := by
  have hl := swapM_len m r k
  refine ext_gr (by rw [swapM_len, swapM_len]) fun i hi => ?_
  rw [swapM_gr2 (by rw [hl]; exact hr) (by rw [hl]; exact hk)]
  by_cases h1 : i = k
  · subst h1; rw [if_pos rfl, swapM_gr hr hk]
  · rw [if_neg h1]
    by_cases h2 : i = r
    · subst h2; rw [if_pos rfl, swapM_gr2 hr hk, if_pos rfl]
    · rw [if_neg h2, swapM_gr2 hr hk, if_neg h1, if_neg h2]
theorem Indep.unswap {p : Int} {n : Nat} {m : Rows} {r k : Nat} (hr : r < m.length) (hk : k < m.length) (h : Indep p n (swapM m r k)) : Indep p n m := by
  have := Indep.swap (r := r) (k := k) (by rw [swapM_len]; exact hr) (by rw [swapM_len]; exact hk) h
  rw [swapM_swap hr hk] at this; exact this
/-- sums over a step's rows -/
theorem step_sum {p : Int} {c r k N q : Nat} {m a : Rows} (hf : fdB p = true) (h : okM p N m) (ha : okM p q a) (hl : a.length = m.length) (hr : r < m.length) (hk : k < m.length) (hc : c < N) (hne : el (gr m k) c ≠ 0) (x : Nat → Int) {j : Nat} (hj : j < q) :
    sg m.length (fun i => x i * el (gr (stepA p c m a r k) i) j) % p = (sg m.length (fun i => if i = r then 0 else x i * el (gr (swapM a r k) i) j) + (x r - sg m.length (fun i => if i = r then 0 else x i * el (gr (swapM m r k) i) c)) * (invF p (el (gr m k) c) * el (gr a k) j)) % p := by
  obtain ⟨e1, e2, e3⟩ := stepA_el hf h ha hl hr hk hc hne
  rw [sg_split hr]
  have h1 : sg m.length (fun i => if i = r then 0 else x i * el (gr (stepA p c m a r k) i) j) % p = sg m.length (fun i => if i = r then 0 else x i * (el (gr (swapM a r k) i) j - el (gr (swapM m r k) i) c * el (gr (stepA p c m a r k) r) j)) % p := by
    refine sg_mod fun i hi => ?_
    by_cases hir : i = r
    · rw [if_pos hir, if_pos hir]
    · rw [if_neg hir, if_neg hir, e3 i hi hir j hj, mul_mod2]
  have h2 : sg m.length (fun i => if i = r then 0 else x i * (el (gr (swapM a r k) i) j - el (gr (swapM m r k) i) c * el (gr (stepA p c m a r k) r) j)) = sg m.length (fun i => if i = r then 0 else x i * el (gr (swapM a r k) i) j) - sg m.length (fun i => if i = r then 0 else x i * el (gr (swapM m r k) i) c) * el (gr (stepA p c m a r k) r) j := by
    rw [← sg_mulr, ← sg_sub]
    refine sg_congr fun i _ => ?_
    by_cases hir : i = r
    · simp [hir]
    · simp only [if_neg hir]; rw [Int.mul_sub, Int.mul_assoc]
  rw [Int.add_emod, h1, h2, ← Int.add_emod]
  generalize sg m.length (fun i => if i = r then 0 else x i * el (gr (swapM a r k) i) j) = A
  generalize sg m.length (fun i => if i = r then 0 else x i * el (gr (swapM m r k) i) c) = F
  have e4 : A - F * el (gr (stepA p c m a r k) r) j + x r * el (gr (stepA p c m a r k) r) j = A + (x r - F) * el (gr (stepA p c m a r k) r) j := by rw [Int.sub_mul]; omega
  rw [e4, e2 j hj, Int.add_emod, mul_mod2, ← Int.add_emod, Int.mul_comm (el (gr a k) j)]
theorem Indep.step {p : Int} {c r k N q : Nat} {m a : Rows} (hf : fdB p = true) (h : okM p N m) (ha : okM p q a) (hl : a.length = m.length) (hr : r < m.length) (hk : k < m.length) (hc : c < N) (hne : el (gr m k) c ≠ 0) (hi : Indep p q a) : Indep p q (stepA p c m a r k) := by
  obtain ⟨e1, e2, e3⟩ := stepA_el hf h ha hl hr hk hc hne
  have hsl : (stepA p c m a r k).length = m.length := by rw [stepA_len, hl]
  have hra : r < a.length := by omega
  have hka : k < a.length := by omega
  intro x hx
  rw [hsl] at hx ⊢
  have hs := Indep.swap hra hka hi (fun i => if i = r then (x r - sg m.length (fun i => if i = r then 0 else x i * el (gr (swapM m r k) i) c)) * invF p (el (gr m k) c) else x i) (fun j hj => by
    rw [swapM_len, hl, sg_split hr, if_pos rfl, swapM_gr hra hka]
    have := hx j hj
    rw [step_sum hf h ha hl hr hk hc hne x hj] at this
    refine Eq.trans ?_ this
    rw [Int.mul_assoc]
    refine congrArg (fun z => (z + _) % p) ?_
    refine sg_congr fun i _ => ?_
    by_cases hir : i = r
    · rw [if_pos hir, if_pos hir]
    · rw [if_neg hir, if_neg hir, if_neg hir])
  rw [swapM_len, hl] at hs
  have h0 : ∀ i, i < m.length → i ≠ r → x i % p = 0 := fun i h1 h2 => by
    have := hs i h1
    simpa only [if_neg h2] using this
  intro i h1
  by_cases h2 : i = r
  · subst h2
    have h3 := hs i hr
    simp only [if_true] at h3
    have hF : sg m.length (fun t => if t = i then 0 else x t * el (gr (swapM m i k) t) c) % p = 0 := by
      rw [sg_mod (g := fun _ => 0) (fun t ht => by
        by_cases hti : t = i
        · rw [if_pos hti]
        · rw [if_neg hti, mul_mod_zero (h0 t ht hti)]; exact (Int.zero_emod p).symm), sg_zero (fun _ _ => rfl)]
      exact Int.zero_emod p
    generalize sg m.length (fun t => if t = i then 0 else x t * el (gr (swapM m i k) t) c) = F at h3 hF
    have h4 : (x i - F) % p = 0 := by
      have h5 := mul_mod_zero (b := el (gr m k) c) h3
      rw [Int.mul_assoc, Int.mul_comm (invF p _), ← mul_mod2, e1, Int.mul_one] at h5
      exact h5
    rw [mod_of_sub h4, hF]
  · exact h0 i h1 h2
theorem Indep.unstep {p : Int} {c r k N q : Nat} {m a : Rows} (hf : fdB p = true) (h : okM p N m) (ha : okM p q a) (hl : a.length = m.length) (hr : r < m.length) (hk : k < m.length) (hc : c < N) (hne : el (gr m k) c ≠ 0) (hi : Indep p q (stepA p c m a r k)) : Indep p q a := by
  obtain ⟨e1, e2, e3⟩ := stepA_el hf h ha hl hr hk hc hne
  have hsl : (stepA p c m a r k).length = m.length := by rw [stepA_len, hl]
  have hra : r < a.length := by omega
  have hka : k < a.length := by omega
  refine Indep.unswap hra hka ?_
  intro y hy
  rw [swapM_len, hl] at hy ⊢
  have hs := hi (fun i => if i = r then y r * el (gr m k) c + sg m.length (fun i => if i = r then 0 else y i * el (gr (swapM m r k) i) c) else y i) (fun j hj => by
    rw [hsl, step_sum hf h ha hl hr hk hc hne _ hj]
    have e4 : sg m.length (fun i => if i = r then 0 else (if i = r then y r * el (gr m k) c + sg m.length (fun i => if i = r then 0 else y i * el (gr (swapM m r k) i) c) else y i) * el (gr (swapM a r k) i) j) = sg m.length (fun i => if i = r then 0 else y i * el (gr (swapM a r k) i) j) :=
      sg_congr fun i _ => by by_cases hir : i = r <;> simp [hir]
    have e5 : sg m.length (fun i => if i = r then 0 else (if i = r then y r * el (gr m k) c + sg m.length (fun i => if i = r then 0 else y i * el (gr (swapM m r k) i) c) else y i) * el (gr (swapM m r k) i) c) = sg m.length (fun i => if i = r then 0 else y i * el (gr (swapM m r k) i) c) :=
      sg_congr fun i _ => by by_cases hir : i = r <;> simp [hir]
    rw [e4, e5, if_pos rfl]
    have h1 := hy j hj
    rw [sg_split hr, swapM_gr hra hka] at h1
    refine Eq.trans ?_ h1
    generalize sg m.length (fun i => if i = r then 0 else y i * el (gr (swapM m r k) i) c) = F
    rw [show y r * el (gr m k) c + F - F = y r * el (gr m k) c by omega]
    rw [Int.add_emod, Int.mul_assoc, ← Int.mul_assoc (el (gr m k) c), ← mul_mod2 p (y r), ← mul_mod1 p (el (gr m k) c * _), e1, Int.one_mul, mul_mod2, ← Int.add_emod])
  rw [hsl] at hs
  have h0 : ∀ i, i < m.length → i ≠ r → y i % p = 0 := fun i h1 h2 => by
    have := hs i h1
    simpa only [if_neg h2] using this
  intro i h1
  by_cases h2 : i = r
  · subst h2
    have h3 := hs i hr
    simp only [if_true] at h3
    have hF : sg m.length (fun t => if t = i then 0 else y t * el (gr (swapM m i k) t) c) % p = 0 := by
      rw [sg_mod (g := fun _ => 0) (fun t ht => by
        by_cases hti : t = i
        · rw [if_pos hti]
        · rw [if_neg hti, mul_mod_zero (h0 t ht hti)]; exact (Int.zero_emod p).symm), sg_zero (fun _ _ => rfl)]
      exact Int.zero_emod p
    generalize sg m.length (fun t => if t = i then 0 else y t * el (gr (swapM m i k) t) c) = F at h3 hF
    have h4 : (y i * el (gr m k) c) % p = 0 := by
      rw [Int.add_emod, hF, Int.add_zero, mod_mod] at h3; exact h3
    have h5 := mul_mod_zero (b := invF p (el (gr m k) c)) h4
    rw [Int.mul_assoc, ← mul_mod2, e1, Int.mul_one] at h5
    exact h5
  · exact h0 i h1 h2
theorem loop_indep {p : Int} {N q : Nat} (hf : fdB p = true) : ∀ (d c : Nat) (m a : Rows) (r : Nat), c + d ≤ N → okM p N m → okM p q a → a.length = m.length → r ≤ m.length → (Indep p q a ↔ Indep p q (redLoop p d c m a r).2.1)
  | 0, _, _, a, _, _, _, _, _, _ => Iff.rfl
  | d + 1, c, m, a, r, hN, h, ha, hl, hr => by
    unfold redLoop
    by_cases hrl : r < m.length
    · rw [if_pos hrl]
      obtain ⟨s1, s2, s3⟩ := scanN_spec m c (m.length - r) r (by omega)
      split
      · exact loop_indep hf d (c + 1) m a r (by omega) h ha hl hr
      · rename_i hk
        have hkl : scanN m c (m.length - r) r < m.length := by omega
        have ha2 : okM p q (stepA p c m a r (scanN m c (m.length - r) r)) := stepA_ok (fdB_rng hf).1 ha (by omega) (by omega)
        have k1 := loop_indep hf d (c + 1) (stepA p c m m r (scanN m c (m.length - r) r)) (stepA p c m a r (scanN m c (m.length - r) r)) (r + 1) (by omega) (stepA_ok (fdB_rng hf).1 h hrl hkl) ha2 (by rw [stepA_len, stepA_len]; exact hl) (by rw [stepA_len]; omega)
        exact ⟨fun h1 => k1.1 (h1.step hf h ha hl hrl hkl (show c < N by omega) (s3 hkl)), fun h1 => Indep.unstep hf h ha hl hrl hkl (show c < N by omega) (s3 hkl) (k1.2 h1)⟩
    · rw [if_neg hrl]
theorem Red.indep {p : Int} {n : Nat} {b : Rows} (h : Red p n b) : Indep p n b := by
  intro x hx i hi
  have := hx _ (h.lt i hi)
  rw [sg_one hi (fun t ht hn => by rw [h.zero i t hi ht (Ne.symm hn), Int.mul_zero]), h.one i hi, Int.mul_one] at this
  exact this
/-- rows are independent if and only if the reduction leaves as many -/
theorem indep_iff {p : Int} {n : Nat} {m : Rows} (hf : fdB p = true) (h : okM p n m) : Indep p n m ↔ (redM p n m).length = m.length := by
  have hp := fdB_rng hf
  have k1 := loop_indep hf n 0 m m 0 (by omega) h h rfl (by omega)
  rw [redLoop_self] at k1
  have h1 := redLoop_red hf n 0 m 0 (by omega) h (RedI.start m)
  rw [Nat.zero_add] at h1
  obtain ⟨_, _, hlen, _⟩ := redLoop_ok hp.1 n 0 m m 0 h h rfl (by omega)
  have hle := h1.le
  have hred := redM_red hf h
  unfold redM at hred ⊢
  rw [List.length_take]
  rw [k1]
  generalize redLoop p n 0 m m 0 = t at k1 h1 hlen hle hred
  constructor
  · intro hi
    rcases Nat.lt_or_ge t.2.2 t.1.length with hlt | hge
    · exfalso
      have := hi (fun i => if i = t.2.2 then 1 else 0) (fun j hj => by
        rw [sg_zero]
        · exact Int.zero_emod p
        · intro i hi'
          by_cases he : i = t.2.2
          · rw [if_pos he, he, h1.rest t.2.2 (Nat.le_refl _) hlt j hj, Int.mul_zero]
          · rw [if_neg he, Int.zero_mul]) t.2.2 hlt
      simp only [if_true] at this
      rw [emod_sm (by omega)] at this
      omega
    · omega
  · intro he
    have : t.1.take t.2.2 = t.1 := List.take_of_length_le (by omega)
    rw [this] at hred
    exact hred.indep

/-! ### reduced lists are determined -/
theorem hasB_iff {p : Int} {n : Nat} {b : Rows} {v : List Int} (hf : fdB p = true) (hb : Red p n b) (hv : okR p n v) : hasB p n b v = true ↔ inSpan p n b v := by
  have hp := fdB_rng hf
  have hcl : b.length ≤ (coordsL b v).length := by simp [coordsL]
  have hco := combR_ok (cs := coordsL b v) hp.1 hb.ok
  unfold hasB
  rw [decide_eq_true_eq]
  constructor
  · intro h
    refine ⟨fun i => el (coordsL b v) i, fun j hj => ?_⟩
    have h2 : el (combR p n b (coordsL b v)) j = el v j := by rw [h]
    rw [← h2, el_combR hp.1 hb.ok hcl hj, mod_mod]
  · rintro ⟨x, hx⟩
    refine ext_el (by rw [hco.1, hv.1]) fun j hj => ?_
    rw [hco.1] at hj
    have hvj := hv.2 _ (el_mem (r := v) (c := j) (by rw [hv.1]; exact hj))
    rw [el_combR hp.1 hb.ok hcl hj, ← emod_sm hvj, hx j hj]
    refine sg_mod fun i hi => ?_
    have hl := hb.lt i hi
    have h1 := hx _ hl
    rw [sg_one hi (fun t ht hn => by rw [hb.zero i t hi ht (Ne.symm hn), Int.mul_zero]), hb.one i hi, Int.mul_one] at h1
    rw [el_coords hi, ← mul_mod1, h1, mul_mod1]
/-- a vector of the span, by its elements at the leads -/
theorem span_leads {p : Int} {n : Nat} {b : Rows} {v : List Int} (hb : Red p n b) (hv : inSpan p n b v) : ∀ j, j < n → el v j % p = sg b.length (fun i => el v (leadN (gr b i)) * el (gr b i) j) % p := by
  obtain ⟨x, hx⟩ := hv
  intro j hj
  rw [hx j hj]
  refine sg_mod fun i hi => ?_
  have h1 := hx _ (hb.lt i hi)
  rw [sg_one hi (fun t ht hn => by rw [hb.zero i t hi ht (Ne.symm hn), Int.mul_zero]), hb.one i hi, Int.mul_one] at h1
  rw [← mul_mod1, ← h1, mul_mod1]
/-- the lead of a vector of the span is one of the leads -/
theorem span_lead {p : Int} {n : Nat} {b : Rows} {v : List Int} (hp : 2 ≤ p) (hb : Red p n b) (hv : okR p n v) (hs : inSpan p n b v) (h0 : leadN v < n) : ∃ i, i < b.length ∧ leadN (gr b i) = leadN v := by
  apply Classical.byContradiction
  intro hno
  have hno : ∀ i, i < b.length → leadN (gr b i) ≠ leadN v := fun i hi he => hno ⟨i, hi, he⟩
  have h1 := span_leads hb hs _ h0
  have h2 : sg b.length (fun i => el v (leadN (gr b i)) * el (gr b i) (leadN v)) = 0 := by
    refine sg_zero fun i hi => ?_
    rcases Nat.lt_trichotomy (leadN (gr b i)) (leadN v) with h | h | h
    · rw [leadN_z v _ h, Int.zero_mul]
    · exact absurd h (hno i hi)
    · rw [leadN_z (gr b i) _ h, Int.mul_zero]
  rw [h2, Int.zero_emod, emod_sm (hv.2 _ (el_mem (by rw [hv.1]; exact h0)))] at h1
  exact leadN_nz v (by rw [hv.1]; exact h0) h1
theorem leads_le {p : Int} {n : Nat} {b b' : Rows} (hp : 2 ≤ p) (hb : Red p n b) (hb' : Red p n b') (hs : subSpan p n b b') : ∀ k, k ≤ b.length → ∃ g : Nat → Nat, (∀ i, i < k → g i < b'.length ∧ leadN (gr b' (g i)) = leadN (gr b i)) ∧ (∀ i, i < k → i ≤ g i) := by
  intro k hk
  have hex : ∀ i, i < b.length → ∃ t, t < b'.length ∧ leadN (gr b' t) = leadN (gr b i) := fun i hi => span_lead hp hb' (okM_gr hb.ok hi) (hs i hi) (hb.lt i hi)
  refine ⟨fun i => if h : i < b.length then Classical.choose (hex i h) else 0, fun i hi => ?_, fun i hi => ?_⟩
  · simp only [dif_pos (Nat.lt_of_lt_of_le hi hk)]
    exact Classical.choose_spec (hex i (Nat.lt_of_lt_of_le hi hk))
  · induction i with
    | zero => exact Nat.zero_le _
    | succ i ih =>
      have h1 := ih (by omega)
      have hi1 : i < b.length := by omega
      have hi2 : i + 1 < b.length := by omega
      simp only [dif_pos hi1] at h1
      simp only [dif_pos hi2]
      have s1 := Classical.choose_spec (hex i hi1)
      have s2 := Classical.choose_spec (hex (i + 1) hi2)
      generalize Classical.choose (hex i hi1) = t1 at s1 h1
      generalize Classical.choose (hex (i + 1) hi2) = t2 at s2
      have hlt := hb.inc i (i + 1) (by omega) hi2
      have : t1 < t2 := by
        rcases Nat.lt_trichotomy t1 t2 with h | h | h
        · exact h
        · rw [h] at s1; omega
        · have := hb'.inc t2 t1 h s1.1; omega
      omega
/-- what lies in a space has no more rows -/
theorem red_len_le {p : Int} {n : Nat} {b b' : Rows} (hp : 2 ≤ p) (hb : Red p n b) (hb' : Red p n b') (hs : subSpan p n b b') : b.length ≤ b'.length := by
  obtain ⟨g, h1, h2⟩ := leads_le hp hb hb' hs b.length (Nat.le_refl _)
  rcases Nat.eq_zero_or_pos b.length with h0 | h0
  · omega
  · have := (h1 (b.length - 1) (by omega)).1
    have := h2 (b.length - 1) (by omega)
    omega
/-- and if it has as many rows, it is the same list -/
theorem red_eq {p : Int} {n : Nat} {b b' : Rows} (hp : 2 ≤ p) (hb : Red p n b) (hb' : Red p n b') (hs : subSpan p n b b') (hl : b.length = b'.length) : b = b' := by
  obtain ⟨g, h1, h2⟩ := leads_le hp hb hb' hs b.length (Nat.le_refl _)
  have hg : ∀ d i, i + d + 1 = b.length → g i = i := by
    intro d
    induction d with
    | zero =>
      intro i hi
      have := (h1 i (by omega)).1
      have := h2 i (by omega)
      omega
    | succ d ih =>
      intro i hi
      have e1 := ih (i + 1) (by omega)
      have a1 := h1 i (by omega)
      have a2 := h1 (i + 1) (by omega)
      have a3 := hb.inc i (i + 1) (by omega) (by omega)
      have a4 := h2 i (by omega)
      rw [e1] at a2
      rcases Nat.lt_trichotomy (g i) (i + 1) with h | h | h
      · omega
      · rw [h] at a1; omega
      · have := hb'.inc (i + 1) (g i) h a1.1; omega
  have hlead : ∀ i, i < b.length → leadN (gr b' i) = leadN (gr b i) := fun i hi => by
    have := (h1 i hi).2
    rw [hg (b.length - 1 - i) i (by omega)] at this; exact this
  refine ext_gr hl fun i hi => ?_
  have r1 := okM_gr hb.ok hi
  have r2 := okM_gr hb'.ok (i := i) (by omega)
  refine ext_el (by rw [r1.1, r2.1]) fun j hj => ?_
  rw [r1.1] at hj
  have h3 := span_leads hb' (hs i hi) j hj
  rw [sg_one (i0 := i) (by omega) (fun t ht hn => by rw [hlead t (by omega), hb.zero t i (by omega) hi hn, Int.zero_mul]), hlead i hi, hb.one i hi, Int.one_mul] at h3
  rw [emod_sm (r1.2 _ (el_mem (by omega))), emod_sm (r2.2 _ (el_mem (by omega)))] at h3
  exact h3
/-- reduced lists that span the same are the same -/
theorem red_unique {p : Int} {n : Nat} {b b' : Rows} (hp : 2 ≤ p) (hb : Red p n b) (hb' : Red p n b') (h1 : subSpan p n b b') (h2 : subSpan p n b' b) : b = b' :=
  red_eq hp hb hb' h1 (Nat.le_antisymm (red_len_le hp hb hb' h1) (red_len_le hp hb' hb h2))
theorem redM_unique {p : Int} {n : Nat} {a b : Rows} (hf : fdB p = true) (ha : okM p n a) (hb : okM p n b) (h1 : subSpan p n a b) (h2 : subSpan p n b a) : redM p n a = redM p n b := by
  obtain ⟨a1, a2⟩ := redM_span hf ha
  obtain ⟨b1, b2⟩ := redM_span hf hb
  exact red_unique (fdB_rng hf).1 (redM_red hf ha) (redM_red hf hb) (subSpan_trans a1 (subSpan_trans h1 b2)) (subSpan_trans b1 (subSpan_trans h2 a2))
end Go.Proofs.YtocpeclcoikdpaaDoor
namespace Go.Proofs.YtocpeclcoikdpaaDoor

def mx0 : Mat := (0, [])
def gm (l : List Mat) (i : Nat) : Mat := l.getD i mx0
theorem gm_get {l : List Mat} {i : Nat} (h : i < l.length) : l[i]? = some (gm l i) := by unfold gm; rw [List.getD_eq_getElem?_getD, List.getElem?_eq_getElem h]; rfl
theorem idx_gm {l : List Mat} {i : Nat} (h : i < l.length) : idxO l (i : Int) = some (gm l i) := idxO_of (gm_get h)

/-! ### lists of matrices in the law -/

/-! ### matrices and responses -/
def matB (p : Int) (m : Mat) : Bool := fdB p && (rng m.1 0 24 && (decide ((m.2.length : Int) ≤ 24) && rowsB p m.1 m.2))
theorem isMatrix_ (p : Int) (m : Mat) : F_impl_isMatrix p m = some (matB p m) := by
  refine bnd (a := matB p m) ?_ rfl
  refine bndB (isField_ p) (fun _ => rfl) (fun _ => cTW rfl ?_)
  refine bndB (within_ _ _ _) (fun _ => rfl) (fun _ => cTW rfl (stp ?_))
  cases decide ((m.2.length : Int) ≤ 24) with
  | false => rfl
  | true => exact cTW rfl (bnd (areVectors_ p m.1 m.2) rfl)
theorem mxGood_ (p : Int) (m : Mat) : F_spec_mxGood p m = some (matB p m) := by
  unfold matB
  refine bnd (a := !(fdB p && (rng m.1 0 24 && decide ((m.2.length : Int) ≤ 24)))) ?_ ?_
  · refine bndN (fdGood p) (fun _ => rfl) (fun _ => stp (cFW rfl ?_))
    refine bndN (l1In _ _ _) (fun _ => rfl) (fun _ => stp (cFW rfl (stp ?_)))
    by_cases h : (m.2.length : Int) ≤ 24
    · rw [dT h, dF (by omega)]; rfl
    · rw [dF h, dT (by omega)]; rfl
  · cases hb : (fdB p && (rng m.1 0 24 && decide ((m.2.length : Int) ≤ 24))) with
    | false =>
      refine cTW rfl ?_
      rw [← Bool.and_assoc (rng m.1 0 24), ← Bool.and_assoc (fdB p), hb]; rfl
    | true =>
      refine cFW rfl ?_
      rw [← Bool.and_assoc (rng m.1 0 24), ← Bool.and_assoc (fdB p), hb, Bool.true_and]
      have hp := fdB_rng (by rw [Bool.and_eq_true] at hb; exact hb.1 : fdB p = true)
      refine sqW (forO_all (fun r : List Int => decide ((r.length : Int) = m.1) && inB p r) m.2 0 ?_ (t := false)) ?_
      · intro j r hj
        rw [Nat.zero_add]
        refine bnd (idxO_of hj) ?_
        refine bnd (a := !(decide ((r.length : Int) = m.1) && inB p r)) (stp ?_) ?_
        · cases decide ((r.length : Int) = m.1) with
          | false => rfl
          | true => exact cFW rfl (bnd (fdIn hp r) rfl)
        · cases (decide ((r.length : Int) = m.1) && inB p r) <;> rfl
      · show _ = some (m.2.all _)
        cases (m.2.all fun r => decide ((r.length : Int) = m.1) && inB p r) <;> rfl
def oneB (p : Int) (l : List Mat) (x : Mat) : Bool := matB p x && (decide ((x.2.length : Int) = ((gm l 0).2.length : Int)) && decide (x.1 = (gm l 0).1))
def respB (p : Int) (l : List Mat) : Bool := (fdB p && rng (l.length : Int) 1 60) && ((l.all (oneB p l)) && (decide (((gm l 0).2.length : Int) ≤ 8) && decide ((gm l 0).1 ≤ 8)))
theorem isResponse_ (p : Int) (l : List Mat) : F_impl_isResponse p l = some (respB p l) := by
  unfold respB
  refine bnd (a := !(fdB p && rng (l.length : Int) 1 60)) (bndN (isField_ p) (fun _ => rfl) (fun _ => stp (cFW rfl (bnd (within_ _ _ _) rfl)))) ?_
  cases hb : (fdB p && rng (l.length : Int) 1 60) with
  | false => rfl
  | true =>
    refine cFW rfl ?_
    have hl : 0 < l.length := by rw [Bool.and_eq_true, rng_true] at hb; omega
    have h0 := idx_gm hl
    refine sqW (forO_all (oneB p l) l 0 ?_ (t := false)) ?_
    · intro j x hj
      rw [Nat.zero_add]
      refine bnd (idxO_of hj) (bnd (a := !(oneB p l x)) ?_ ?_)
      · refine bndN (isMatrix_ p x) (fun _ => rfl) (fun _ => stp (cFW rfl (bnd h0 (stp ?_))))
        cases decide ((x.2.length : Int) = ((gm l 0).2.length : Int)) with
        | false => rfl
        | true => exact cFW rfl (bnd h0 rfl)
      · cases oneB p l x <;> rfl
    · cases l.all (oneB p l) with
      | false => rfl
      | true =>
        rw [if_pos rfl, seqO_l]
        refine bnd (bnd h0 (stp (?_ : _ = some (decide (((gm l 0).2.length : Int) ≤ 8) && decide ((gm l 0).1 ≤ 8))))) rfl
        cases decide (((gm l 0).2.length : Int) ≤ 8) with
        | false => rfl
        | true => exact cTW rfl (bnd h0 rfl)
theorem rzResponse_ (p : Int) (l : List Mat) : F_spec_rzResponse p l = some (respB p l) := by
  unfold respB
  refine bnd (a := !(fdB p && rng (l.length : Int) 1 60)) (bndN (fdGood p) (fun _ => rfl) (fun _ => stp (cFW rfl (bnd (l1In _ _ _) rfl)))) ?_
  cases hb : (fdB p && rng (l.length : Int) 1 60) with
  | false => rfl
  | true =>
    refine cFW rfl ?_
    have hl : 0 < l.length := by rw [Bool.and_eq_true, rng_true] at hb; omega
    have h0 := idx_gm hl
    refine sqW (forO_all (oneB p l) l 0 ?_ (t := false)) ?_
    · intro j x hj
      rw [Nat.zero_add]
      refine bnd (idxO_of hj) (bnd (a := !(oneB p l x)) ?_ ?_)
      · refine bndN (mxGood_ p x) (fun _ => rfl) (fun _ => stp (cFW rfl (bnd h0 (stp ?_))))
        cases decide ((x.2.length : Int) = ((gm l 0).2.length : Int)) with
        | false => rfl
        | true => exact cFW rfl (bnd h0 rfl)
      · cases oneB p l x <;> rfl
    · cases l.all (oneB p l) with
      | false => rfl
      | true =>
        rw [if_pos rfl, seqO_l]
        refine bnd (bnd h0 (stp (?_ : _ = some (decide (((gm l 0).2.length : Int) ≤ 8) && decide ((gm l 0).1 ≤ 8))))) rfl
        cases decide (((gm l 0).2.length : Int) ≤ 8) with
        | false => rfl
        | true => exact cTW rfl (bnd h0 rfl)
/-- a response that is valid: R rows, C columns -/
structure Resp (p : Int) (R C : Nat) (l : List Mat) : Prop where
  hf : fdB p = true
  len : 0 < l.length ∧ l.length ≤ 60
  R8 : R ≤ 8
  C8 : C ≤ 8
  mat : ∀ x ∈ l, x.1 = (C : Int) ∧ x.2.length = R ∧ okM p C x.2
theorem respB_ok {p : Int} {l : List Mat} (h : respB p l = true) : ∃ R C, Resp p R C l := by
  unfold respB at h
  simp only [Bool.and_eq_true, rng_true, decide_eq_true_eq] at h
  obtain ⟨⟨h1, h2⟩, h3, h4, h5⟩ := h
  have hl : 0 < l.length := by omega
  rw [List.all_eq_true] at h3
  have h0 := h3 (gm l 0) (mem_of_get (gm_get hl))
  have hc0 : 0 ≤ (gm l 0).1 := by
    unfold oneB matB at h0
    simp only [Bool.and_eq_true, rng_true] at h0
    exact h0.1.2.1.1
  refine ⟨(gm l 0).2.length, (gm l 0).1.toNat, h1, ⟨hl, by omega⟩, by omega, by omega, fun x hx => ?_⟩
  have h6 := h3 x hx
  unfold oneB matB at h6
  simp only [Bool.and_eq_true, rng_true, decide_eq_true_eq] at h6
  obtain ⟨⟨_, _, _, h7⟩, h8, h9⟩ := h6
  have e : x.1 = ((gm l 0).1.toNat : Int) := by omega
  rw [e] at h7
  exact ⟨e, by omega, rowsB_true.1 h7⟩
end Go.Proofs.YtocpeclcoikdpaaDoor
namespace Go.Proofs.YtocpeclcoikdpaaDoor

def tabB (p : Int) (rows cols : Int) (m : List (List Int)) : Bool := decide ((m.length : Int) = rows) && rowsB p cols m
def ssB (p : Int) (s : SSt) : Bool :=
  fdB p && rng s.1 0 24 && rng s.2.1 0 8 && rng s.2.2.1 0 8 && tabB p s.1 s.1 s.2.2.2.1 && tabB p s.2.1 s.1 s.2.2.2.2.1 && tabB p s.1 s.2.2.1 s.2.2.2.2.2.1 && tabB p s.2.1 s.2.2.1 s.2.2.2.2.2.2
theorem ssTable_ {p : Int} (hp : 2 ≤ p ∧ p ≤ 97) (rows cols : Int) (m : List (List Int)) : F_spec_ssTable p rows cols m = some (tabB p rows cols m) := by
  refine bnd (a := tabB p rows cols m) (stp ?_) rfl
  unfold tabB
  cases decide ((m.length : Int) = rows) with
  | false => rfl
  | true => exact cTW rfl (bnd (spRows hp cols m) rfl)
theorem ssGood (p : Int) (s : SSt) : F_spec_ssGood p s = some (ssB p s) := by
  refine bnd (a := ssB p s) ?_ rfl
  unfold ssB
  simp only [Bool.and_assoc]
  refine bndB (fdGood p) (fun _ => rfl) (fun h => cTW rfl ?_)
  have hp := fdB_rng h
  refine bndB (l1In _ _ _) (fun _ => rfl) (fun _ => cTW rfl ?_)
  refine bndB (l1In _ _ _) (fun _ => rfl) (fun _ => cTW rfl ?_)
  refine bndB (l1In _ _ _) (fun _ => rfl) (fun _ => cTW rfl ?_)
  refine bndB (ssTable_ hp _ _ _) (fun _ => rfl) (fun _ => cTW rfl ?_)
  refine bndB (ssTable_ hp _ _ _) (fun _ => rfl) (fun _ => cTW rfl ?_)
  refine bndB (ssTable_ hp _ _ _) (fun _ => rfl) (fun _ => cTW rfl ?_)
  exact bnd (ssTable_ hp _ _ _) rfl

/-- a state space that is valid -/
structure SSok (p : Int) (n k o : Nat) (s : SSt) : Prop where
  hp : 2 ≤ p ∧ p ≤ 97
  h1 : s.1 = n
  h2 : s.2.1 = k
  h3 : s.2.2.1 = o
  hn : n ≤ 24
  hk : k ≤ 8
  ho : o ≤ 8
  a : s.2.2.2.1.length = n ∧ rowsP p n s.2.2.2.1
  b : s.2.2.2.2.1.length = k ∧ rowsP p n s.2.2.2.2.1
  c : s.2.2.2.2.2.1.length = n ∧ rowsP p o s.2.2.2.2.2.1
  d : s.2.2.2.2.2.2.length = k ∧ rowsP p o s.2.2.2.2.2.2

/-- the Markov parameters, and the states that are reached -/
def mkv (p : Int) (n o : Nat) (s : SSt) : Nat → List Mat × List (List Int)
  | 0 => ([], s.2.2.2.2.1)
  | k + 1 => if k = 0 then ((mkv p n o s k).1 ++ [((o : Int), s.2.2.2.2.2.2)], (mkv p n o s k).2)
    else ((mkv p n o s k).1 ++ [((o : Int), mulM p o (mkv p n o s k).2 s.2.2.2.2.2.1)], mulM p n (mkv p n o s k).2 s.2.2.2.1)
theorem mkv_succ (p : Int) (n o : Nat) (s : SSt) (k : Nat) : mkv p n o s (k + 1) = if k = 0 then ((mkv p n o s k).1 ++ [((o : Int), s.2.2.2.2.2.2)], (mkv p n o s k).2)
    else ((mkv p n o s k).1 ++ [((o : Int), mulM p o (mkv p n o s k).2 s.2.2.2.2.2.1)], mulM p n (mkv p n o s k).2 s.2.2.2.1) := rfl
theorem mkv_ok {p : Int} {n k o : Nat} {s : SSt} (h : SSok p n k o s) : ∀ j, (mkv p n o s j).1.length = j ∧ (mkv p n o s j).2.length = k ∧ rowsP p n (mkv p n o s j).2 ∧ ∀ m ∈ (mkv p n o s j).1, m.2.length = k ∧ rowsP p o m.2
  | 0 => ⟨rfl, h.b.1, h.b.2, by intro m hm; cases hm⟩
  | j + 1 => by
    obtain ⟨h1, h2, h3, h4⟩ := mkv_ok h j
    have hm : maxN = 1099511627776 := rfl
    have := h.hn
    have := h.ho
    rw [mkv_succ]
    by_cases hj : j = 0
    · rw [if_pos hj]
      refine ⟨by simp [h1], h2, h3, fun m hm' => ?_⟩
      rcases List.mem_append.1 hm' with hm' | hm'
      · exact h4 m hm'
      · rw [List.mem_singleton.1 hm']; exact h.d
    · rw [if_neg hj]
      refine ⟨by simp [h1], by rw [mulM_len, h2], mulM_ok h.hp (by omega) h.a.2 h3 (by rw [h.a.1]; exact Nat.le_refl _), fun m hm' => ?_⟩
      rcases List.mem_append.1 hm' with hm' | hm'
      · exact h4 m hm'
      · rw [List.mem_singleton.1 hm']
        exact ⟨by rw [mulM_len, h2], mulM_ok h.hp (by omega) h.c.2 h3 (by rw [h.c.1]; exact Nat.le_refl _)⟩
theorem rowsP_len {p : Int} {n : Nat} {m : List (List Int)} (h : rowsP p n m) (hn : n ≤ 1048576) : ∀ r ∈ m, r.length ≤ maxN := by
  intro r hr; have := (h r hr).1; have hm : maxN = 1099511627776 := rfl; omega
theorem ssMarkov_ {p : Int} {n k o : Nat} {s : SSt} (h : SSok p n k o s) (q : Nat) (hq : q ≤ 60) : F_spec_ssMarkov p s (q : Int) = some (mkv p n o s q).1 := by
  have hm : maxN = 1099511627776 := rfl
  have g1 := h.hn; have g2 := h.hk; have g3 := h.ho
  refine bnd (ssCopy_ (by rw [h.b.1]; omega) (rowsP_len h.b.2 (by omega))) (bnd (whileO_is (fun j => ((mkv p n o s j).1, (mkv p n o s j).2, (j : Int))) (t := (mkv p n o s q).1) q ?_ ?_) rfl)
  · intro j hj
    obtain ⟨h1, h2, h3, h4⟩ := mkv_ok h j
    dsimp only
    refine stp (cTW (dT (by omega)) (bnd (a := mkv p n o s (j + 1)) ?_ (bnd (addO_of (by omega) (by omega)) rfl)))
    refine stp ?_
    rw [mkv_succ, h.h3, h.h1]
    by_cases hj0 : j = 0
    · rw [if_pos hj0]
      exact cTW (dT (by omega)) (bnd (ssCopy_ (by rw [h.d.1]; omega) (rowsP_len h.d.2 (by omega))) (bnd (appO_of (by simp; omega)) rfl))
    · rw [if_neg hj0]
      exact cFW (dF (by omega)) (bnd (ssTimes_ h.hp (by omega) h.c.2 h3 (by rw [h.c.1]; exact Nat.le_refl _) (by omega)) (bnd (appO_of (by simp; omega)) (bnd (ssTimes_ h.hp (by omega) h.a.2 h3 (by rw [h.a.1]; exact Nat.le_refl _) (by omega)) rfl)))
  · dsimp only; exact stp (cFW (dF (by omega)) rfl)
theorem markov_ {p : Int} {n k o : Nat} {s : SSt} (h : SSok p n k o s) (q : Nat) (hq : q ≤ 60) : F_impl_StateSpace_markov s p (q : Int) = some (mkv p n o s q).1 := by
  have hm : maxN = 1099511627776 := rfl
  have g1 := h.hn; have g2 := h.hk; have g3 := h.ho
  refine bnd (clones_ (by rw [h.b.1]; omega) (rowsP_len h.b.2 (by omega))) (bnd (cI_of ⟨by omega, by omega⟩) (bnd (forS_is (fun j => mkv p n o s j) ?_) rfl))
  intro j hj
  obtain ⟨h1, h2, h3, h4⟩ := mkv_ok h j
  rw [Int.toNat_natCast] at hj
  refine bnd (a := mkv p n o s (j + 1)) (stp ?_) rfl
  rw [mkv_succ, h.h3, h.h1]
  by_cases hj0 : j = 0
  · rw [if_pos hj0]
    exact cTW (dT (by omega)) (bnd (clones_ (by rw [h.d.1]; omega) (rowsP_len h.d.2 (by omega))) (bnd (appO_of (by simp; omega)) rfl))
  · rw [if_neg hj0]
    exact cFW (dF (by omega)) (bnd (product_ h.hp (by omega) h.c.2 h3 (by rw [h.c.1]; exact Nat.le_refl _) (by omega)) (bnd (appO_of (by simp; omega)) (bnd (product_ h.hp (by omega) h.a.2 h3 (by rw [h.a.1]; exact Nat.le_refl _) (by omega)) rfl)))
end Go.Proofs.YtocpeclcoikdpaaDoor
namespace Go.Proofs.YtocpeclcoikdpaaDoor

theorem tot_le {α : Type} {n : α → Nat} {c : Nat} {l : List α} (h : ∀ a ∈ l, n a ≤ c) : tot n l ≤ l.length * c := by
  induction l with
  | nil => simp [tot]
  | cons a l ih =>
    rw [tot_cons, List.length_cons, Nat.succ_mul]
    have := ih (fun x hx => h x (List.mem_cons_of_mem _ hx))
    have := h a (List.mem_cons_self ..)
    omega

end Go.Proofs.YtocpeclcoikdpaaDoor
namespace Go.Proofs.YtocpeclcoikdpaaDoor

theorem forO_eq9 {α : Type} [DecidableEq α] {f : Nat → Unit → Option (Unit ⊕ Bool)} : ∀ (L M : List α) (k : Nat), L.length = M.length →
    (∀ (j : Nat) (a b : α), L[j]? = some a → M[j]? = some b → f (k + j) () = some (if a = b then .inl () else .inr false)) → forO f L.length k () = some (if L = M then .inl () else .inr false)
  | [], [], _, _, _ => rfl
  | [], _ :: _, _, h, _ => by simp at h
  | _ :: _, [], _, h, _ => by simp at h
  | a :: L, b :: M, k, hl, h => by
    have h0 : f k () = _ := h 0 a b rfl rfl
    show (f k ()).bind _ = _
    rw [h0]
    by_cases hab : a = b
    · rw [if_pos hab]
      have ih := forO_eq9 L M (k + 1) (by simpa using hl) (fun j x y hx hy => by
        have := h (j + 1) x y (by simpa using hx) (by simpa using hy)
        rw [show k + 1 + j = k + (j + 1) by omega]; exact this)
      show forO f L.length (k + 1) () = _
      rw [ih]
      by_cases h2 : L = M
      · rw [if_pos h2, if_pos (by rw [hab, h2])]
      · rw [if_neg h2, if_neg (fun h3 => h2 (List.cons.inj h3).2)]
    · rw [if_neg hab, if_neg (fun h3 => hab (List.cons.inj h3).1)]; rfl
/-- a comparison by length and element -/
theorem same_of {α : Type} [DecidableEq α] {f : Nat → Unit → Option (Unit ⊕ Bool)} (L M : List α)
    (h : L.length = M.length → ∀ (j : Nat) (a b : α), L[j]? = some a → M[j]? = some b → f j () = some (if a = b then .inl () else .inr false)) :
    ((some (!decide (((L.length : Nat) : Int) = ((M.length : Nat) : Int)))).bind fun c => cond c (some false) (seqO (forO f L.length 0 ()) fun (_ : Unit) => some true)) = some (decide (L = M)) := by
  refine stp ?_
  by_cases hl : L.length = M.length
  · refine cFW (nT (dT (by omega))) (sqW (forO_eq9 L M 0 hl (fun j a b ha hb => by rw [Nat.zero_add]; exact h hl j a b ha hb)) ?_)
    by_cases h2 : L = M
    · rw [if_pos h2, show decide (L = M) = true from dT h2]; rfl
    · rw [if_neg h2, show decide (L = M) = false from dF h2]; rfl
  · rw [show decide (L = M) = false from dF (fun h2 => hl (by rw [h2]))]
    exact cTW (nF (dF (by omega))) rfl
theorem stepE {α : Type} {a b : α} [DecidableEq α] : (some (!decide (a = b))).bind (fun c => cond c (some (Sum.inr false)) (some (Sum.inl ()))) = some (if a = b then (.inl () : Unit ⊕ Bool) else .inr false) := by
  by_cases h : a = b
  · rw [if_pos h]; exact stp (cFW (nT (dT h)) rfl)
  · rw [if_neg h]; exact stp (cTW (nF (dF h)) rfl)
theorem l1Same (a b : List Int) : F_spec_l1Same a b = some (decide (a = b)) :=
  same_of a b (fun _ _ _ _ hx hy => bnd (idxO_of hx) (bnd (idxO_of hy) stepE))
theorem spSame (a b : List (List Int)) : F_spec_spSame a b = some (decide (a = b)) :=
  same_of a b (fun _ _ x y hx hy => bnd (idxO_of hx) (bnd (idxO_of hy) (bnd (l1Same x y) stepE)))
theorem slEqual (a b : List Int) : F_slices_Equal_int_int a b = some (decide (a = b)) :=
  same_of a b (fun _ _ _ _ hx hy => bnd (idxO_of hx) (bnd (idxO_of hy) stepE))
theorem slEqual2 (a b : List (List Int)) : F_slices_EqualFunc_int_int_int_int_slices_Equal_int_int a b = some (decide (a = b)) :=
  same_of a b (fun _ _ x y hx hy => bnd (idxO_of hx) (bnd (idxO_of hy) (bnd (slEqual x y) stepE)))
theorem equalMat (a b : Mat) : F_impl_equalMatrices a b = some (decide (a = b)) := by
  obtain ⟨c, m⟩ := a
  obtain ⟨d, n⟩ := b
  refine bnd (a := decide ((c, m) = (d, n))) (stp ?_) rfl
  by_cases h : c = d
  · refine cTW (dT h) (bnd (bnd (slEqual2 m n) rfl) ?_)
    subst h
    simp
  · refine cFW (dF h) ?_
    rw [dF (fun h2 => h (Prod.ext_iff.1 h2).1)]
theorem equalMats (a b : List Mat) : F_slices_EqualFunc_impl_Matrix_impl_Matrix_impl_Matrix_impl_Matrix_impl_equalMatrices a b = some (decide (a = b)) :=
  same_of a b (fun _ _ x y hx hy => bnd (idxO_of hx) (bnd (idxO_of hy) (bnd (equalMat x y) stepE)))
theorem mkv_fst (p : Int) (n o : Nat) (s : SSt) : ∀ j, ∀ m ∈ (mkv p n o s j).1, m.1 = o
  | 0, m, hm => by cases hm
  | j + 1, m, hm => by
    rw [mkv_succ] at hm
    split at hm
    all_goals
      rcases List.mem_append.1 hm with h | h
      · exact mkv_fst p n o s j m h
      · rw [List.mem_singleton.1 h]
end Go.Proofs.YtocpeclcoikdpaaDoor
namespace Go.Proofs.YtocpeclcoikdpaaDoor
def nIntS (a : List Int) : Nat := a.length
def nIntSS (a : List (List Int)) : Nat := rowsN a
def cIntS (a : List Int) : Nat := rowN a
def cIntSS (a : List (List Int)) : Nat := tot rowN a
theorem cIntS_le (a : List Int) : cIntS a ≤ 8 * nIntS a := by unfold cIntS nIntS rowN; omega
theorem cIntSS_le (a : List (List Int)) : cIntSS a ≤ 8 * nIntSS a := by unfold cIntSS nIntSS rowsN; omega
def mk_IntS := mkS
def mk_IntSS := mkSS
theorem mk_IntS_snd (a : List Int) (k : Int) : (mk_IntS a k).2 = k + cIntS a := mkS_snd a k
theorem mk_IntSS_snd (a : List (List Int)) (k : Int) : (mk_IntSS a k).2 = k + cIntSS a := mkSS_snd a k
theorem t_IntS (a : List Int) (h : nIntS a ≤ 1048576) : F_laws_toIntS a = some a := by
  have hm : maxN = 1099511627776 := rfl
  exact toIntS a (by unfold nIntS at h; omega)
theorem e_IntS (a : List Int) (h : nIntS a ≤ 1048576) : F_laws_eqIntS a a = some true := by rw [eqIntS a a (by unfold nIntS at h; unfold lenOk; omega), show decide (a = a) = true from dT rfl]
theorem e_IntSS (a : List (List Int)) (h : nIntSS a ≤ 1048576) : F_laws_eqIntSS a a = some true := eqIntSS_same a (lensOk_of h)
theorem m_IntS (a : List Int) (k : Int) (h0 : 0 ≤ k) (h : k + 8 * nIntS a ≤ 1125899906842624) : F_laws_markIntS a k = some (mk_IntS a k) := markIntS a k h0 (by unfold nIntS at h; unfold rowN bigN; omega)
theorem m_IntSS (a : List (List Int)) (k : Int) (h0 : 0 ≤ k) (h : k + 8 * nIntSS a ≤ 1125899906842624) : F_laws_markIntSS a k = some (mk_IntSS a k) := markIntSS a k h0 (by unfold nIntSS rowsN at h; unfold bigN; omega) (by unfold nIntSS rowsN at h; unfold bigN; omega)
theorem h_IntSS (a : List (List Int)) (k : Int) (h0 : 0 ≤ k) (h : k + 8 * nIntSS a ≤ 1125899906842624) : F_laws_heldIntSS (mk_IntSS a k).1 k = some (k + cIntSS a) := heldIntSS a k h0 (by unfold nIntSS rowsN at h; unfold bigN; omega) (by unfold nIntSS rowsN at h; unfold bigN; omega)
end Go.Proofs.YtocpeclcoikdpaaDoor
namespace Go.Proofs.YtocpeclcoikdpaaDoor

abbrev TyStateSpace := Int × Int × Int × (List (List Int)) × (List (List Int)) × (List (List Int)) × (List (List Int))
def nStateSpace (a : TyStateSpace) : Nat := nIntSS a.2.2.2.1 + nIntSS a.2.2.2.2.1 + nIntSS a.2.2.2.2.2.1 + nIntSS a.2.2.2.2.2.2
theorem e_StateSpace (a : TyStateSpace) (h : nStateSpace a ≤ 1048576) : F_laws_eqStateSpace a a = some true := by
  unfold nStateSpace at h
  exact stp (cFW (nT (dT rfl)) (stp (cFW (nT (dT rfl)) (stp (cFW (nT (dT rfl)) (bnd (e_IntSS a.2.2.2.1 (by omega)) (stp (cFW rfl (bnd (e_IntSS a.2.2.2.2.1 (by omega)) (stp (cFW rfl (bnd (e_IntSS a.2.2.2.2.2.1 (by omega)) (stp (cFW rfl (bnd (e_IntSS a.2.2.2.2.2.2 (by omega)) (stp (cFW rfl (rfl))))))))))))))))))
def mk_StateSpace (a : TyStateSpace) (k : Int) : TyStateSpace × Int := ((a.1, a.2.1, a.2.2.1, (mk_IntSS a.2.2.2.1 k).1, (mk_IntSS a.2.2.2.2.1 (mk_IntSS a.2.2.2.1 k).2).1, (mk_IntSS a.2.2.2.2.2.1 (mk_IntSS a.2.2.2.2.1 (mk_IntSS a.2.2.2.1 k).2).2).1, (mk_IntSS a.2.2.2.2.2.2 (mk_IntSS a.2.2.2.2.2.1 (mk_IntSS a.2.2.2.2.1 (mk_IntSS a.2.2.2.1 k).2).2).2).1), (mk_IntSS a.2.2.2.2.2.2 (mk_IntSS a.2.2.2.2.2.1 (mk_IntSS a.2.2.2.2.1 (mk_IntSS a.2.2.2.1 k).2).2).2).2)
def cStateSpace (a : TyStateSpace) : Nat := cIntSS a.2.2.2.1 + cIntSS a.2.2.2.2.1 + cIntSS a.2.2.2.2.2.1 + cIntSS a.2.2.2.2.2.2
theorem cStateSpace_le (a : TyStateSpace) : cStateSpace a ≤ 8 * nStateSpace a := by
  unfold cStateSpace nStateSpace
  have h3 := cIntSS_le a.2.2.2.1
  have h4 := cIntSS_le a.2.2.2.2.1
  have h5 := cIntSS_le a.2.2.2.2.2.1
  have h6 := cIntSS_le a.2.2.2.2.2.2
  omega
theorem mk_StateSpace_snd (a : TyStateSpace) (k : Int) : (mk_StateSpace a k).2 = k + cStateSpace a := by
  unfold mk_StateSpace cStateSpace
  simp only [mk_IntSS_snd]
  try omega
theorem m_StateSpace (a : TyStateSpace) (k : Int) (h0 : 0 ≤ k) (h : k + 8 * nStateSpace a ≤ 1125899906842624) : F_laws_markStateSpace a k = some (mk_StateSpace a k) := by
  unfold nStateSpace at h
  have h3 := cIntSS_le a.2.2.2.1
  have h4 := cIntSS_le a.2.2.2.2.1
  have h5 := cIntSS_le a.2.2.2.2.2.1
  have h6 := cIntSS_le a.2.2.2.2.2.2
  exact bnd (m_IntSS _ _ h0 (by omega)) (bnd (m_IntSS _ _ (by simp only [mk_IntSS_snd]; omega) (by simp only [mk_IntSS_snd]; omega)) (bnd (m_IntSS _ _ (by simp only [mk_IntSS_snd]; omega) (by simp only [mk_IntSS_snd]; omega)) (bnd (m_IntSS _ _ (by simp only [mk_IntSS_snd]; omega) (by simp only [mk_IntSS_snd]; omega)) (rfl))))
theorem h_StateSpace (a : TyStateSpace) (k : Int) (h0 : 0 ≤ k) (h : k + 8 * nStateSpace a ≤ 1125899906842624) : F_laws_heldStateSpace (mk_StateSpace a k).1 k = some (k + cStateSpace a) := by
  unfold nStateSpace at h
  have h3 := cIntSS_le a.2.2.2.1
  have h4 := cIntSS_le a.2.2.2.2.1
  have h5 := cIntSS_le a.2.2.2.2.2.1
  have h6 := cIntSS_le a.2.2.2.2.2.2
  have e0 : F_laws_heldIntSS (mk_IntSS a.2.2.2.1 k).1 k = some (k + cIntSS a.2.2.2.1) := h_IntSS _ _ h0 (by omega)
  have e1 : F_laws_heldIntSS (mk_IntSS a.2.2.2.2.1 (mk_IntSS a.2.2.2.1 k).2).1 (mk_IntSS a.2.2.2.1 k).2 = some ((mk_IntSS a.2.2.2.1 k).2 + cIntSS a.2.2.2.2.1) := h_IntSS _ _ (by simp only [mk_IntS_snd, mk_IntSS_snd]; omega) (by simp only [mk_IntS_snd, mk_IntSS_snd]; omega)
  have e2 : F_laws_heldIntSS (mk_IntSS a.2.2.2.2.2.1 (mk_IntSS a.2.2.2.2.1 (mk_IntSS a.2.2.2.1 k).2).2).1 (mk_IntSS a.2.2.2.2.1 (mk_IntSS a.2.2.2.1 k).2).2 = some ((mk_IntSS a.2.2.2.2.1 (mk_IntSS a.2.2.2.1 k).2).2 + cIntSS a.2.2.2.2.2.1) := h_IntSS _ _ (by simp only [mk_IntS_snd, mk_IntSS_snd]; omega) (by simp only [mk_IntS_snd, mk_IntSS_snd]; omega)
  have e3 : F_laws_heldIntSS (mk_IntSS a.2.2.2.2.2.2 (mk_IntSS a.2.2.2.2.2.1 (mk_IntSS a.2.2.2.2.1 (mk_IntSS a.2.2.2.1 k).2).2).2).1 (mk_IntSS a.2.2.2.2.2.1 (mk_IntSS a.2.2.2.2.1 (mk_IntSS a.2.2.2.1 k).2).2).2 = some ((mk_IntSS a.2.2.2.2.2.1 (mk_IntSS a.2.2.2.2.1 (mk_IntSS a.2.2.2.1 k).2).2).2 + cIntSS a.2.2.2.2.2.2) := h_IntSS _ _ (by simp only [mk_IntS_snd, mk_IntSS_snd]; omega) (by simp only [mk_IntS_snd, mk_IntSS_snd]; omega)
  simp only [mk_IntS_snd, mk_IntSS_snd] at e1
  simp only [mk_IntS_snd, mk_IntSS_snd] at e2
  simp only [mk_IntS_snd, mk_IntSS_snd] at e3
  unfold cStateSpace mk_StateSpace
  refine bnd e0 (stp (cFW (dF (by omega)) ?_))
  refine bnd (by simp only [mk_IntS_snd, mk_IntSS_snd]; exact e1) (stp (cFW (dF (by omega)) ?_))
  refine bnd (by simp only [mk_IntS_snd, mk_IntSS_snd]; exact e2) (stp (cFW (dF (by omega)) ?_))
  refine bnd (by simp only [mk_IntS_snd, mk_IntSS_snd]; exact e3) (stp (cFW (dF (by omega)) ?_))
  refine congrArg some ?_
  try simp only [mk_IntS_snd, mk_IntSS_snd]
  try omega
end Go.Proofs.YtocpeclcoikdpaaDoor
namespace Go.Proofs.YtocpeclcoikdpaaDoor
set_option linter.unusedVariables false

/-! ### rows after rows -/
theorem gr_app1 {a b : Rows} {i : Nat} (h : i < a.length) : gr (a ++ b) i = gr a i := by
  unfold gr; rw [List.getD_eq_getElem?_getD, List.getD_eq_getElem?_getD, List.getElem?_append_left h]
theorem gr_app2 {a b : Rows} (i : Nat) : gr (a ++ b) (a.length + i) = gr b i := by
  unfold gr; rw [List.getD_eq_getElem?_getD, List.getD_eq_getElem?_getD, List.getElem?_append_right (by omega), Nat.add_sub_cancel_left]
theorem span_app1 {p : Int} {n : Nat} {a b : Rows} : subSpan p n a (a ++ b) := fun i hi => by
  rw [← gr_app1 (b := b) hi]; exact inSpan_row (by rw [List.length_append]; omega)
theorem span_app2 {p : Int} {n : Nat} {a b : Rows} : subSpan p n b (a ++ b) := fun i hi => by
  rw [← gr_app2 (a := a) i]; exact inSpan_row (by rw [List.length_append]; omega)
theorem app_span {p : Int} {n : Nat} {a b c : Rows} (h1 : subSpan p n a c) (h2 : subSpan p n b c) : subSpan p n (a ++ b) c := by
  intro i hi
  by_cases h : i < a.length
  · rw [gr_app1 h]; exact h1 i h
  · rw [List.length_append] at hi
    have := h2 (i - a.length) (by omega)
    rw [show i = a.length + (i - a.length) by omega, gr_app2]; exact this
theorem okM_app {p : Int} {n : Nat} {a b : Rows} (h1 : okM p n a) (h2 : okM p n b) : okM p n (a ++ b) :=
  fun r hr => (List.mem_append.1 hr).elim (h1 r) (h2 r)

/-! ### the states that are reached -/
def rc (p : Int) (n : Nat) (A B : Rows) : Nat → Rows
  | 0 => redM p n B
  | k + 1 => redM p n (rc p n A B k ++ mulM p n (rc p n A B k) A)
section
variable {p : Int} {n : Nat} {A B : Rows}
theorem rc_red (hf : fdB p = true) (hn : n ≤ 200) (hA : okM p n A) (hAl : A.length = n) (hB : okM p n B) : ∀ k, Red p n (rc p n A B k)
  | 0 => redM_red hf hB
  | k + 1 => by
    have hm : maxN = 1099511627776 := rfl
    exact redM_red hf (okM_app (rc_red hf hn hA hAl hB k).ok (mulM_ok (fdB_rng hf) (by omega) hA (rc_red hf hn hA hAl hB k).ok (by omega)))
theorem rc_app (hf : fdB p = true) (hn : n ≤ 200) (hA : okM p n A) (hAl : A.length = n) (hB : okM p n B) (k : Nat) : okM p n (rc p n A B k ++ mulM p n (rc p n A B k) A) := by
  have hm : maxN = 1099511627776 := rfl
  exact okM_app (rc_red hf hn hA hAl hB k).ok (mulM_ok (fdB_rng hf) (by omega) hA (rc_red hf hn hA hAl hB k).ok (by omega))
theorem rc_len (hf : fdB p = true) (hn : n ≤ 200) (hA : okM p n A) (hAl : A.length = n) (hB : okM p n B) : ∀ k, (rc p n A B k).length ≤ n
  | 0 => (redM_ok (n := n) (fdB_rng hf).1 hB).2.2
  | k + 1 => (redM_ok (n := n) (fdB_rng hf).1 (rc_app hf hn hA hAl hB k)).2.2
theorem rc_step (hf : fdB p = true) (hn : n ≤ 200) (hA : okM p n A) (hAl : A.length = n) (hB : okM p n B) (k : Nat) : subSpan p n (rc p n A B k) (rc p n A B (k + 1)) :=
  subSpan_trans span_app1 (redM_span hf (rc_app hf hn hA hAl hB k)).2
theorem rc_stable (hf : fdB p = true) (hn : n ≤ 200) (hA : okM p n A) (hAl : A.length = n) (hB : okM p n B) {k : Nat} (h : (rc p n A B (k + 1)).length = (rc p n A B k).length) : ∀ d, rc p n A B (k + d) = rc p n A B k
  | 0 => rfl
  | d + 1 => by
    have h1 := red_eq (fdB_rng hf).1 (rc_red hf hn hA hAl hB k) (rc_red hf hn hA hAl hB (k + 1)) (rc_step hf hn hA hAl hB k) h.symm
    show redM p n (rc p n A B (k + d) ++ mulM p n (rc p n A B (k + d)) A) = _
    rw [rc_stable hf hn hA hAl hB h d]
    exact h1.symm
theorem first_of {P : Nat → Prop} [DecidablePred P] : ∀ d, (∀ j, j < d → ¬ P j) ∨ ∃ k, k < d ∧ (∀ j, j < k → ¬ P j) ∧ P k
  | 0 => .inl (fun j hj => by omega)
  | d + 1 => by
    rcases first_of (P := P) d with h | ⟨k, h1, h2, h3⟩
    · by_cases hd : P d
      · exact .inr ⟨d, by omega, h, hd⟩
      · exact .inl (fun j hj => by
          by_cases hjd : j = d
          · rw [hjd]; exact hd
          · exact h j (by omega))
    · exact .inr ⟨k, by omega, h2, h3⟩
/-- what the loops compute -/
def rcN (p : Int) (n : Nat) (A B : Rows) : Rows := rc p n A B n
theorem rcN_red (hf : fdB p = true) (hn : n ≤ 200) (hA : okM p n A) (hAl : A.length = n) (hB : okM p n B) : Red p n (rcN p n A B) := rc_red hf hn hA hAl hB n
end

/-! ### realizations -/
end Go.Proofs.YtocpeclcoikdpaaDoor
namespace Go.Proofs.YtocpeclcoikdpaaDoor

theorem okR_app {p : Int} {l r : Nat} {x y : List Int} (hx : okR p l x) (hy : okR p r y) : okR p (l + r) (x ++ y) :=
  ⟨by rw [List.length_append, hx.1, hy.1], fun z hz => by rcases List.mem_append.1 hz with h | h; exact hx.2 z h; exact hy.2 z h⟩

/-! ### inclusion -/

/-! ### ports that are never inputs -/
end Go.Proofs.YtocpeclcoikdpaaDoor
namespace Go.Proofs.YtocpeclcoikdpaaDoor
set_option linter.unusedVariables false

theorem fdNeg_ {p a : Int} (hp : 2 ≤ p ∧ p ≤ 97) (ha : 0 ≤ a ∧ a < p) : F_spec_fdNeg p a = some ((p - a) % p) := by
  refine bnd (subO_of (by omega) (by omega)) (bnd (remO_of (by omega)) ?_)
  rw [Int.tmod_eq_emod_of_nonneg (by omega)]
theorem mxScale_ {p k : Int} {r : List Int} (hp : 2 ≤ p ∧ p ≤ 97) (h : inP p r) (hk : 0 ≤ k ∧ k < p) : F_spec_mxScale p r k = some (mapR (scaleG p k) r) := by
  have := forS_is (n := r.length) (fun j => part (scaleG p k) r j) (f := fun (k2 : Nat) (s47 : List Int) =>
      (idxO s47 ((k2 : Nat) : Int)).bind fun a62 =>
      (F_spec_fdMul p a62 k).bind fun y64 =>
      (setO s47 ((k2 : Nat) : Int) y64).bind fun a73 =>
      some a73) (by
    intro j hj
    exact bnd (idxO_of (part_get _ _ hj)) (bnd (fdMul_ hp (h _ (el_mem hj)) hk) (bnd (setO_of _ (by rw [part_len]; exact hj)) (congrArg some (part_set (scaleG p k) r hj)))))
  rw [part0, partN] at this
  exact bnd this rfl
theorem mxLess_ {p f : Int} {v w : List Int} (hp : 2 ≤ p ∧ p ≤ 97) (hv : inP p v) (hw : inP p w) (hl : v.length = w.length) (hf : 0 ≤ f ∧ f < p) : F_spec_mxLess p v w f = some (mapR (subG p f w) v) := by
  have := forS_is (n := v.length) (fun j => part (subG p f w) v j) (f := fun (k3 : Nat) (s72 : List Int) =>
      (idxO s72 ((k3 : Nat) : Int)).bind fun a88 =>
      (idxO w ((k3 : Nat) : Int)).bind fun a96 =>
      (F_spec_fdMul p f a96).bind fun y98 =>
      (F_spec_fdSub p a88 y98).bind fun y101 =>
      (setO s72 ((k3 : Nat) : Int) y101).bind fun a110 =>
      some a110) (by
    intro j hj
    have hjw : j < w.length := by omega
    have hm := emod_in (p := p) (x := f * el w j) hp.1
    refine bnd (idxO_of (part_get _ _ hj)) (bnd (idx_el hjw) (bnd (fdMul_ hp hf (hw _ (el_mem hjw))) (bnd (fdSub_ hp (hv _ (el_mem hj)) hm) (bnd (setO_of _ (by rw [part_len]; exact hj)) ?_))))
    rw [sub_mod]
    exact congrArg some (part_set (subG p f w) v hj))
  rw [part0, partN] at this
  exact bnd this rfl
theorem swapM_comm {m : Rows} {r k : Nat} (hrk : r ≠ k) : (m.set k (gr m r)).set r (gr m k) = swapM m r k := by
  unfold swapM; rw [List.set_comm _ _ (Ne.symm hrk)]
/-- the rounds over the rows -/
theorem mrElim {p : Int} {N q c r : Nat} {w v : Rows} (hp : 2 ≤ p ∧ p ≤ 97) (h : okM p N w) (hv : okM p q v) (hl : v.length = w.length) (hr : r < w.length) (hc : c < N) :
    forS (fun (k11319 : Nat) (s11522 : Rows × Rows) =>
                (idxO s11522.1 ((k11319 : Nat) : Int)).bind fun a11537 =>
                (idxO a11537 (c : Int)).bind fun a11546 =>
                ((some (!decide (((k11319 : Nat) : Int) = (r : Int)))).bind fun a11560 =>
                  cond a11560
                  ((some (!decide (a11546 = 0))).bind fun a11564 =>
                    some a11564)
                  (some false)).bind fun (s11554 : Bool) =>
                cond s11554
                ((idxO s11522.1 ((k11319 : Nat) : Int)).bind fun a11577 =>
                  (idxO s11522.1 (r : Int)).bind fun a11586 =>
                  (F_spec_mxLess p a11577 a11586 a11546).bind fun y11589 =>
                  (neqO ((k11319 : Nat) : Int) (r : Int)).bind fun _ =>
                  (setO s11522.1 ((k11319 : Nat) : Int) y11589).bind fun a11598 =>
                  (idxO s11522.2 ((k11319 : Nat) : Int)).bind fun a11607 =>
                  (idxO s11522.2 (r : Int)).bind fun a11616 =>
                  (F_spec_mxLess p a11607 a11616 a11546).bind fun y11619 =>
                  (neqO ((k11319 : Nat) : Int) (r : Int)).bind fun _ =>
                  (setO s11522.2 ((k11319 : Nat) : Int) y11619).bind fun a11628 =>
                  some (a11598, a11628))
                (some (s11522.1, s11522.2))) w.length 0 (w, v) = some (elimA p c r w w, elimA p c r w v) := by
  have := forS_is (n := w.length) (fun i => (partG (elimG p c r w w) w i, partG (elimG p c r w v) v i)) (f := fun (k11319 : Nat) (s11522 : Rows × Rows) =>
                (idxO s11522.1 ((k11319 : Nat) : Int)).bind fun a11537 =>
                (idxO a11537 (c : Int)).bind fun a11546 =>
                ((some (!decide (((k11319 : Nat) : Int) = (r : Int)))).bind fun a11560 =>
                  cond a11560
                  ((some (!decide (a11546 = 0))).bind fun a11564 =>
                    some a11564)
                  (some false)).bind fun (s11554 : Bool) =>
                cond s11554
                ((idxO s11522.1 ((k11319 : Nat) : Int)).bind fun a11577 =>
                  (idxO s11522.1 (r : Int)).bind fun a11586 =>
                  (F_spec_mxLess p a11577 a11586 a11546).bind fun y11589 =>
                  (neqO ((k11319 : Nat) : Int) (r : Int)).bind fun _ =>
                  (setO s11522.1 ((k11319 : Nat) : Int) y11589).bind fun a11598 =>
                  (idxO s11522.2 ((k11319 : Nat) : Int)).bind fun a11607 =>
                  (idxO s11522.2 (r : Int)).bind fun a11616 =>
                  (F_spec_mxLess p a11607 a11616 a11546).bind fun y11619 =>
                  (neqO ((k11319 : Nat) : Int) (r : Int)).bind fun _ =>
                  (setO s11522.2 ((k11319 : Nat) : Int) y11619).bind fun a11628 =>
                  some (a11598, a11628))
                (some (s11522.1, s11522.2))) (by
    intro i hi
    have hiv : i < v.length := by omega
    have hrv : r < v.length := by omega
    have g1 : gr (partG (elimG p c r w w) w i) i = gr w i := by rw [gr_part hi, if_neg (by omega)]
    have g2 : gr (partG (elimG p c r w v) v i) i = gr v i := by rw [gr_part hiv, if_neg (by omega)]
    have g3 : gr (partG (elimG p c r w w) w i) r = gr w r := by
      rw [gr_part hr]
      split
      · unfold elimG; rw [if_pos (Or.inl rfl)]
      · rfl
    have g4 : gr (partG (elimG p c r w v) v i) r = gr v r := by
      rw [gr_part hrv]
      split
      · unfold elimG; rw [if_pos (Or.inl rfl)]
      · rfl
    have l1 : i < (partG (elimG p c r w w) w i).length := by rw [partG_len]; exact hi
    have l2 : r < (partG (elimG p c r w w) w i).length := by rw [partG_len]; exact hr
    have l3 : i < (partG (elimG p c r w v) v i).length := by rw [partG_len]; exact hiv
    have l4 : r < (partG (elimG p c r w v) v i).length := by rw [partG_len]; exact hrv
    have i1 := idx_gr l1; have i2 := idx_gr l2; have i3 := idx_gr l3; have i4 := idx_gr l4
    rw [g1] at i1; rw [g3] at i2; rw [g2] at i3; rw [g4] at i4
    have s1 := part_setG (g := elimG p c r w w) (m := w) hi
    have s2 := part_setG (g := elimG p c r w v) (m := v) hiv
    have hrow := okM_gr h hi
    have hrr := okM_gr h hr
    have hrow2 := okM_gr hv hiv
    have hrr2 := okM_gr hv hrv
    refine bnd i1 (bnd (idx_el (by omega)) ?_)
    by_cases hir : i = r
    · refine bnd (a := false) (stp (cFW (nT (dT (by omega))) rfl)) (cFW rfl ?_)
      have e1 : elimG p c r w w i (gr w i) = gr w i := by unfold elimG; rw [if_pos (Or.inl hir)]
      have e2 : elimG p c r w v i (gr v i) = gr v i := by unfold elimG; rw [if_pos (Or.inl hir)]
      rw [← s1, ← s2, e1, e2]
      refine congrArg some (Prod.ext ?_ ?_)
      · show partG _ w i = _; conv => rhs; rw [← g1]
        rw [set_gr l1]
      · show partG _ v i = _; conv => rhs; rw [← g2]
        rw [set_gr l3]
    · by_cases h0 : el (gr w i) c = 0
      · refine bnd (a := false) (stp (cTW (nF (dF (by omega))) (stp (by rw [dT h0]; rfl)))) (cFW rfl ?_)
        have e1 : elimG p c r w w i (gr w i) = gr w i := by unfold elimG; rw [if_pos (Or.inr h0)]
        have e2 : elimG p c r w v i (gr v i) = gr v i := by unfold elimG; rw [if_pos (Or.inr h0)]
        rw [← s1, ← s2, e1, e2]
        refine congrArg some (Prod.ext ?_ ?_)
        · show partG _ w i = _; conv => rhs; rw [← g1]
          rw [set_gr l1]
        · show partG _ v i = _; conv => rhs; rw [← g2]
          rw [set_gr l3]
      · refine bnd (a := true) (stp (cTW (nF (dF (by omega))) (stp (by rw [dF h0]; rfl)))) (cTW rfl ?_)
        have hne : neqO ((i : Nat) : Int) (r : Int) = some () := by unfold neqO; rw [if_neg (by omega)]
        have hfe := okM_el h hi hc
        refine bnd i1 (bnd i2 (bnd (mxLess_ hp hrow.2 hrr.2 (by rw [hrow.1, hrr.1]) hfe) (bnd hne (bnd (setO_of _ l1) ?_))))
        refine bnd i3 (bnd i4 (bnd (mxLess_ hp hrow2.2 hrr2.2 (by rw [hrow2.1, hrr2.1]) hfe) (bnd hne (bnd (setO_of _ l3) ?_))))
        rw [← s1, ← s2]
        unfold elimG
        rw [if_neg (by intro h; rcases h with h | h; exact hir h; exact h0 h), if_neg (by intro h; rcases h with h | h; exact hir h; exact h0 h)])
  rw [partG0, partG0] at this
  have e1 := partGN (elimG p c r w w) w
  have e2 := partGN (elimG p c r w v) v
  rw [hl] at e2
  rw [e1, e2] at this
  exact this
/-- one round of the reference's reduction -/
noncomputable def mrBody (p n : Int) (s : Rows × Rows × Int × Int × Int) : Option ((Rows × Rows × Int × Int × Int) ⊕ (Rows × Rows × Int × Int)) :=
      (some (decide (s.2.2.2.2 < n))).bind fun a9772 =>
      cond a9772
      (((whileO (fun (s11024 : Int) =>
              ((some (decide (s11024 < ((s.1.length : Nat) : Int)))).bind fun a11062 =>
                cond a11062
                ((idxO s.1 s11024).bind fun a11072 =>
                  (idxO a11072 s.2.2.2.2).bind fun a11081 =>
                  (some (decide (a11081 = 0))).bind fun a11083 =>
                  some a11083)
                (some false)).bind fun (s11056 : Bool) =>
              cond s11056
              ((addO s11024 1).bind fun a11090 =>
                some (.inl a11090))
              (some (.inr s11024))) s.2.2.1).bind fun (s10898 : Int) =>
          (some (decide (s10898 = ((s.1.length : Nat) : Int)))).bind fun a11094 =>
          cond a11094
          (some (s.1, s.2.1, s.2.2.1, s.2.2.2.1))
          (((some (decide (s.2.2.1 < s10898))).bind fun a11181 =>
              cond a11181
              ((idxO s.1 s10898).bind fun a11192 =>
                (idxO s.2.1 s10898).bind fun a11201 =>
                (idxO s.1 s.2.2.1).bind fun a11211 =>
                (idxO s.2.1 s.2.2.1).bind fun a11228 =>
                (swapO s.1 s10898 s.2.2.1).bind fun a11245 =>
                (swapO s.2.1 s10898 s.2.2.1).bind fun a11254 =>
                (F_spec_fdNeg p s.2.2.2.1).bind fun y11256 =>
                some (a11245, a11254, y11256))
              (some (s.1, s.2.1, s.2.2.2.1))).bind fun (s11175 : List (List Int) × List (List Int) × Int) =>
            (idxO s11175.1 s.2.2.1).bind fun a11267 =>
            (idxO a11267 s.2.2.2.2).bind fun a11276 =>
            (F_spec_fdMul p s11175.2.2 a11276).bind fun y11278 =>
            (idxO s11175.1 s.2.2.1).bind fun a11288 =>
            (F_spec_fdInv p a11276).bind fun y11291 =>
            (F_spec_mxScale p a11288 y11291).bind fun y11294 =>
            (setO s11175.1 s.2.2.1 y11294).bind fun a11298 =>
            (idxO s11175.2.1 s.2.2.1).bind fun a11307 =>
            (F_spec_fdInv p a11276).bind fun y11310 =>
            (F_spec_mxScale p a11307 y11310).bind fun y11313 =>
            (setO s11175.2.1 s.2.2.1 y11313).bind fun a11317 =>
            (forS (fun (k11319 : Nat) (s11522 : List (List Int) × List (List Int)) =>
                (idxO s11522.1 ((k11319 : Nat) : Int)).bind fun a11537 =>
                (idxO a11537 s.2.2.2.2).bind fun a11546 =>
                ((some (!decide (((k11319 : Nat) : Int) = s.2.2.1))).bind fun a11560 =>
                  cond a11560
                  ((some (!decide (a11546 = 0))).bind fun a11564 =>
                    some a11564)
                  (some false)).bind fun (s11554 : Bool) =>
                cond s11554
                ((idxO s11522.1 ((k11319 : Nat) : Int)).bind fun a11577 =>
                  (idxO s11522.1 s.2.2.1).bind fun a11586 =>
                  (F_spec_mxLess p a11577 a11586 a11546).bind fun y11589 =>
                  (neqO ((k11319 : Nat) : Int) s.2.2.1).bind fun _ =>
                  (setO s11522.1 ((k11319 : Nat) : Int) y11589).bind fun a11598 =>
                  (idxO s11522.2 ((k11319 : Nat) : Int)).bind fun a11607 =>
                  (idxO s11522.2 s.2.2.1).bind fun a11616 =>
                  (F_spec_mxLess p a11607 a11616 a11546).bind fun y11619 =>
                  (neqO ((k11319 : Nat) : Int) s.2.2.1).bind fun _ =>
                  (setO s11522.2 ((k11319 : Nat) : Int) y11619).bind fun a11628 =>
                  some (a11598, a11628))
                (some (s11522.1, s11522.2))) a11298.length 0 (a11298, a11317)).bind fun (s11632 : List (List Int) × List (List Int)) =>
            (addO s.2.2.1 1).bind fun a11634 =>
            some (s11632.1, s11632.2, a11634, y11278))).bind fun (s10704 : List (List Int) × List (List Int) × Int × Int) =>
        (addO s.2.2.2.2 1).bind fun a11639 =>
        some (.inl (s10704.1, s10704.2.1, s10704.2.2.1, s10704.2.2.2, a11639)))
      (some (.inr (s.1, s.2.1, s.2.2.1, s.2.2.2.1)))
theorem mr_step {p : Int} {n N q c r : Nat} {m a : Rows} {det : Int} (hf : fdB p = true) (h : okM p N m) (ha : okM p q a) (hl : a.length = m.length) (hn : n ≤ N) (hN : N ≤ 1048576) (hL : m.length ≤ 1048576) (hr : r ≤ m.length) (hc : c < n) (hd : 0 ≤ det ∧ det < p) :
    ∃ d2, (0 ≤ d2 ∧ d2 < p) ∧ mrBody p (n : Int) (m, a, (r : Int), det, (c : Int)) = some (.inl (if scanN m c (m.length - r) r = m.length then (m, a, (r : Int), d2, (c : Int) + 1) else (stepA p c m m r (scanN m c (m.length - r) r), stepA p c m a r (scanN m c (m.length - r) r), (r : Int) + 1, d2, (c : Int) + 1))) := by
  have hp := fdB_rng hf
  have hsc : ∀ {f : Int → Option (Int ⊕ Int)}, (∀ k : Nat, k < m.length → f (k : Int) = some (if el (gr m k) c = 0 then .inl ((k : Int) + 1) else .inr (k : Int))) → f (m.length : Int) = some (.inr (m.length : Int)) → whileO f (r : Int) = some ((scanN m c (m.length - r) r : Nat) : Int) := fun h1 h2 => scan_ h1 h2 (m.length - r) r (by omega)
  obtain ⟨s1, s2, s3⟩ := scanN_spec m c (m.length - r) r (by omega)
  generalize scanN m c (m.length - r) r = k at hsc s1 s2 s3 ⊢
  have scan : ∀ {k : Int → Option (Rows × Rows × Int × Int)} {y}, k _ = y → (whileO (fun (s11024 : Int) =>
              ((some (decide (s11024 < ((m.length : Nat) : Int)))).bind fun a11062 =>
                cond a11062
                ((idxO m s11024).bind fun a11072 =>
                  (idxO a11072 (c : Int)).bind fun a11081 =>
                  (some (decide (a11081 = 0))).bind fun a11083 =>
                  some a11083)
                (some false)).bind fun (s11056 : Bool) =>
              cond s11056
              ((addO s11024 1).bind fun a11090 =>
                some (.inl a11090))
              (some (.inr s11024))) (r : Int)).bind k = y := fun hy => bnd (hsc (by
      intro i hi
      have hrow := okM_gr h hi
      refine bnd (a := decide (el (gr m i) c = 0)) (stp (cTW (dT (by omega)) (bnd (idx_gr hi) (bnd (idx_el (by omega)) rfl)))) ?_
      by_cases h0 : el (gr m i) c = 0
      · rw [if_pos h0]; exact cTW (dT h0) (bnd (addO_of (by omega) (by omega)) rfl)
      · rw [if_neg h0]; exact cFW (dF h0) rfl) (bnd (a := false) (stp (cFW (dF (by omega)) rfl)) (cFW rfl rfl))) hy
  by_cases hk : k = m.length
  · simp only [if_pos hk]
    refine ⟨det, hd, ?_⟩
    unfold mrBody
    dsimp only
    refine stp (cTW (dT (by omega)) (bnd (a := (m, a, (r : Int), det)) (scan (stp (cTW (dT (by omega)) rfl))) ?_))
    exact bnd (addO_of (by omega) (by omega)) rfl
  · simp only [if_neg hk]
    have hkl : k < m.length := by omega
    have hrl : r < m.length := by omega
    have hne := s3 hkl
    have h1 : okM p N (swapM m r k) := swapM_ok h hrl hkl
    have h1a : okM p q (swapM a r k) := swapM_ok ha (by omega) (by omega)
    have hr1 : r < (swapM m r k).length := by rw [swapM_len]; exact hrl
    have hr1a : r < (swapM a r k).length := by rw [swapM_len]; omega
    have hrow := okM_gr h1 hr1
    have hrowa := okM_gr h1a hr1a
    have hel := okM_el h1 hr1 (show c < N by omega)
    have hnz : el (gr (swapM m r k) r) c ≠ 0 := by rw [swapM_gr hrl hkl]; exact hne
    obtain ⟨_, i1, i2, i3⟩ := inverse_ hf (x := el (gr (swapM m r k) r) c) ⟨by omega, hel.2⟩
    have h2 : okM p N (pivA p c m m r k) := pivA_ok hp.1 h hrl hkl
    have h2a : okM p q (pivA p c m a r k) := pivA_ok hp.1 ha (by omega) (by omega)
    have hl2 : (pivA p c m m r k).length = m.length := pivA_len p c m m r k
    have hl2a : (pivA p c m a r k).length = a.length := pivA_len p c m a r k
    have hsw : ∃ d1, (0 ≤ d1 ∧ d1 < p) ∧ ((some (decide ((r : Int) < (k : Int)))).bind fun a11181 =>
              cond a11181
              ((idxO m (k : Int)).bind fun a11192 =>
                (idxO a (k : Int)).bind fun a11201 =>
                (idxO m (r : Int)).bind fun a11211 =>
                (idxO a (r : Int)).bind fun a11228 =>
                (swapO m (k : Int) (r : Int)).bind fun a11245 =>
                (swapO a (k : Int) (r : Int)).bind fun a11254 =>
                (F_spec_fdNeg p det).bind fun y11256 =>
                some (a11245, a11254, y11256))
              (some (m, a, det))) = some (swapM m r k, swapM a r k, d1) := by
      by_cases hrk : r < k
      · refine ⟨(p - det) % p, emod_in hp.1, stp (cTW (dT (by omega)) ?_)⟩
        refine bnd (idx_gr hkl) (bnd (idx_gr (by omega)) (bnd (idx_gr hrl) (bnd (idx_gr (by omega)) (bnd (swapO_ hkl hrl) (bnd (swapO_ (by omega) (by omega)) (bnd (fdNeg_ hp hd) ?_))))))
        rw [swapM_comm (by omega), swapM_comm (by omega)]
      · have e : k = r := by omega
        subst e
        refine ⟨det, hd, stp (cFW (dF (by omega)) ?_)⟩
        rw [swapM_self hrl, swapM_self (by omega)]
    obtain ⟨d1, hd1, hsw⟩ := hsw
    refine ⟨(d1 * el (gr (swapM m r k) r) c) % p, emod_in hp.1, ?_⟩
    unfold mrBody
    dsimp only
    refine stp (cTW (dT (by omega)) (bnd (a := (stepA p c m m r k, stepA p c m a r k, (r : Int) + 1, (d1 * el (gr (swapM m r k) r) c) % p)) (scan (stp (cFW (dF (by omega)) ?_))) ?_))
    · refine bnd hsw ?_
      dsimp only
      refine bnd (idx_gr hr1) (bnd (idx_el (by omega)) (bnd (fdMul_ hp hd1 hel) (bnd (idx_gr hr1) (bnd (fdInv_ hf ⟨by omega, hel.2⟩) (bnd (mxScale_ hp hrow.2 ⟨i2, i3⟩) (bnd (setO_of _ hr1) ?_))))))
      refine bnd (idx_gr hr1a) (bnd (fdInv_ hf ⟨by omega, hel.2⟩) (bnd (mxScale_ hp hrowa.2 ⟨i2, i3⟩) (bnd (setO_of _ hr1a) ?_)))
      change (forS _ (pivA p c m m r k).length 0 (pivA p c m m r k, pivA p c m a r k)).bind _ = _
      exact bnd (mrElim hp h2 h2a (by omega) (by omega) (by omega)) (bnd (addO_of (by omega) (by omega)) rfl)
    · exact bnd (addO_of (by omega) (by omega)) rfl
theorem mr_loop {p : Int} {n N q : Nat} (hf : fdB p = true) (hn : n ≤ N) (hN : N ≤ 1048576) : ∀ (d c : Nat) (m a : Rows) (r : Nat) (det : Int), c + d = n → okM p N m → okM p q a → a.length = m.length → m.length ≤ 1048576 → r ≤ m.length → (0 ≤ det ∧ det < p) →
    ∃ d2, whileO (mrBody p (n : Int)) (m, a, (r : Int), det, (c : Int)) = some ((redLoop p d c m a r).1, (redLoop p d c m a r).2.1, ((redLoop p d c m a r).2.2 : Int), d2)
  | 0, c, m, a, r, det, hc, h, ha, hl, hL, hr, hd => by
    refine ⟨det, whileO_end ?_⟩
    unfold mrBody
    exact stp (cFW (dF (by dsimp only; omega)) rfl)
  | d + 1, c, m, a, r, det, hc, h, ha, hl, hL, hr, hd => by
    obtain ⟨d2, hd2, hs⟩ := mr_step hf h ha hl hn hN hL hr (show c < n by omega) hd
    obtain ⟨s1, s2, s3⟩ := scanN_spec m c (m.length - r) r (by omega)
    rw [whileO_step hs]
    by_cases hk : scanN m c (m.length - r) r = m.length
    · rw [if_pos hk]
      obtain ⟨d3, h3⟩ := mr_loop hf hn hN d (c + 1) m a r d2 (by omega) h ha hl hL hr hd2
      refine ⟨d3, ?_⟩
      have e : redLoop p (d + 1) c m a r = redLoop p d (c + 1) m a r := by
        conv => lhs; unfold redLoop
        by_cases hrl : r < m.length
        · rw [if_pos hrl, if_pos hk]
        · rw [if_neg hrl]
          cases d with
          | zero => rfl
          | succ d =>
            conv => rhs; unfold redLoop
            rw [if_neg hrl]
      rw [e]; exact h3
    · rw [if_neg hk]
      have hkl : scanN m c (m.length - r) r < m.length := by omega
      have hrl : r < m.length := by omega
      have ha2 : okM p q (stepA p c m a r (scanN m c (m.length - r) r)) := stepA_ok (fdB_rng hf).1 ha (by omega) (by omega)
      obtain ⟨d3, h3⟩ := mr_loop hf hn hN d (c + 1) (stepA p c m m r (scanN m c (m.length - r) r)) (stepA p c m a r (scanN m c (m.length - r) r)) (r + 1) d2 (by omega) (stepA_ok (fdB_rng hf).1 h hrl hkl) ha2 (by rw [stepA_len, stepA_len]; exact hl) (by rw [stepA_len]; exact hL) (by rw [stepA_len]; omega) hd2
      refine ⟨d3, ?_⟩
      have e : redLoop p (d + 1) c m a r = redLoop p d (c + 1) (stepA p c m m r (scanN m c (m.length - r) r)) (stepA p c m a r (scanN m c (m.length - r) r)) (r + 1) := by
        conv => lhs; unfold redLoop
        rw [if_pos hrl, if_neg hk]
      rw [e]; exact h3

/-! ### identity matrices -/
def unitN (n i : Nat) : List Int := (List.replicate n 0).set i 1
def idN (n : Nat) : Rows := (List.range n).map (unitN n)
theorem unitN_ok {p : Int} (hp : 2 ≤ p) (n i : Nat) : okR p n (unitN n i) := by
  refine ⟨by simp [unitN], fun x hx => ?_⟩
  rcases List.mem_or_eq_of_mem_set hx with h | rfl
  · have := List.eq_of_mem_replicate h; omega
  · omega
theorem idN_len (n : Nat) : (idN n).length = n := by simp [idN]
theorem idN_ok {p : Int} (hp : 2 ≤ p) (n : Nat) : okM p n (idN n) := by
  intro x hx
  obtain ⟨i, hi, rfl⟩ := List.mem_map.1 hx
  exact unitN_ok hp n i
theorem mxZero_ {r c : Nat} (hr : r ≤ maxN) (hc : c ≤ maxN) : F_spec_mxZero (r : Int) (c : Int) = some ((c : Int), List.replicate r (List.replicate c 0)) := by
  refine bnd (makeO_of _ hr) (bnd (a := List.replicate r (List.replicate c 0)) ?_ rfl)
  have := forS_is (n := r) (fun i => partG (fun _ _ => List.replicate c (0 : Int)) (List.replicate r []) i) (f := fun (k13 : Nat) (s48 : List (List Int)) =>
      (makeO (c : Int) (0 : Int)).bind fun a58 =>
      (setO s48 ((k13 : Nat) : Int) a58).bind fun a69 =>
      some a69) (by
    intro i hi
    have hi' : i < (List.replicate r ([] : List Int)).length := by simpa using hi
    have := part_setG (g := fun _ _ => List.replicate c (0 : Int)) (m := List.replicate r []) hi'
    refine bnd (makeO_of _ hc) (bnd (setO_of _ (by rw [partG_len]; exact hi')) ?_)
    rw [← this])
  rw [partG0] at this
  have e := partGN (fun _ _ => List.replicate c (0 : Int)) (List.replicate r ([] : List Int))
  rw [List.length_replicate] at e
  rw [e] at this
  rw [List.length_replicate]
  refine this.trans (congrArg some ?_)
  apply List.ext_getElem?
  intro i
  rw [List.getElem?_mapIdx, List.getElem?_replicate, List.getElem?_replicate]
  split <;> rfl
theorem mxId_ {n : Nat} (hn : n ≤ 1048576) : F_spec_mxId (n : Int) = some ((n : Int), idN n) := by
  have hm : maxN = 1099511627776 := rfl
  refine bnd (mxZero_ (by omega) (by omega)) (bnd (whileO_is (fun i => (partG (fun i (_ : List Int) => unitN n i) (List.replicate n (List.replicate n 0)) i, (i : Int))) (t := idN n) n ?_ ?_) rfl)
  · intro i hi
    dsimp only
    have hi' : i < (List.replicate n (List.replicate n (0 : Int))).length := by simpa using hi
    have hl : i < (partG (fun i (_ : List Int) => unitN n i) (List.replicate n (List.replicate n 0)) i).length := by rw [partG_len]; exact hi'
    have hg : gr (partG (fun i (_ : List Int) => unitN n i) (List.replicate n (List.replicate n 0)) i) i = List.replicate n 0 := by
      rw [gr_part hi', if_neg (by omega)]
      unfold gr
      rw [List.getD_eq_getElem?_getD, List.getElem?_replicate, if_pos hi]; rfl
    have h1 := idx_gr hl
    rw [hg] at h1
    have := part_setG (g := fun i (_ : List Int) => unitN n i) (m := List.replicate n (List.replicate n 0)) hi'
    refine stp (cTW (dT (by omega)) (bnd h1 (bnd (setO_of _ (by simpa using hi)) (bnd (setO_of _ hl) (bnd (addO_of (by omega) (by omega)) ?_)))))
    rw [← this]; rfl
  · dsimp only
    refine stp (cFW (dF (by omega)) ?_)
    have e := partGN (fun i (_ : List Int) => unitN n i) (List.replicate n (List.replicate n (0 : Int)))
    rw [List.length_replicate] at e
    rw [e]
    congr 2
    apply List.ext_getElem?
    intro i
    unfold idN
    rw [List.getElem?_mapIdx, List.getElem?_replicate, List.getElem?_map]
    by_cases hi : i < n
    · rw [if_pos hi, List.getElem?_range hi]; rfl
    · rw [if_neg hi, List.getElem?_eq_none (by simpa using hi)]; rfl
theorem mxCopy_ {m : Mat} (hl : m.2.length ≤ 1048576) (h : ∀ r ∈ m.2, r.length ≤ maxN) : F_spec_mxCopy m = some m := by
  have hm : maxN = 1099511627776 := rfl
  refine bnd (a := m.2) ?_ rfl
  refine (forS_map (fun r => r) m.2 [] (by simp; omega) ?_).trans (by simp)
  intro j x s hx hs
  have hj : j < m.2.length := (List.getElem?_eq_some_iff.1 hx).1
  exact bnd (idxO_of hx) (bnd (own_ (h x (mem_of_get hx))) (bnd (appO_of (by simp at hs ⊢; omega)) rfl))
/-- the reduction of a matrix of n columns with its transforming matrix -/
def redT (p : Int) (n : Nat) (m : Rows) : Rows × Rows × Nat := redLoop p n 0 m (idN m.length) 0
theorem mxReduce_ {p : Int} {n : Nat} {m : Rows} (hf : fdB p = true) (h : okM p n m) (hn : n ≤ 1048576) (hl : m.length ≤ 1048576) :
    ∃ d, F_spec_mxReduce p ((n : Int), m) = some (((n : Int), (redT p n m).1), ((m.length : Int), (redT p n m).2.1), ((redT p n m).2.2 : Int), d) := by
  have hm : maxN = 1099511627776 := rfl
  have hp := fdB_rng hf
  obtain ⟨d, hd⟩ := mr_loop hf (Nat.le_refl n) hn n 0 m (idN m.length) 0 1 (by omega) h (idN_ok hp.1 m.length) (idN_len _) hl (by omega) ⟨by omega, by omega⟩
  refine ⟨d, bnd (a := ((n : Int), m, (m.length : Int), idN m.length)) (bnd (mxCopy_ hl (fun r hr => by have := (h r hr).1; omega)) (bnd (mxId_ hl) rfl)) ?_⟩
  exact bnd hd rfl

/-! ### linear equations -/
theorem redT_facts {p : Int} {n : Nat} {m : Rows} (hf : fdB p = true) (h : okM p n m) : (redT p n m).2.2 ≤ m.length ∧ (redT p n m).1.length = m.length ∧ (redT p n m).2.1.length = m.length ∧ okM p m.length (redT p n m).2.1 ∧ okM p n (redT p n m).1 ∧ Red p n ((redT p n m).1.take (redT p n m).2.2) := by
  have hp := fdB_rng hf
  obtain ⟨k1, k2, k3, k4, k5, k6, k7⟩ := redLoop_ok hp.1 n 0 m (idN m.length) 0 h (idN_ok hp.1 m.length) (idN_len _) (by omega)
  have e : (redT p n m).1.take (redT p n m).2.2 = redM p n m := by
    obtain ⟨e1, e2⟩ := redLoop_any p n 0 m (idN m.length) m 0
    unfold redT redM; rw [e1, e2]
  exact ⟨k6, k3, k4, k2, k1, by rw [e]; exact redM_red hf h⟩
def xsN (p : Int) (b t : Rows) (v : List Int) (z : List Int) : Nat → List Int
  | 0 => z
  | i + 1 => mapR (subG p ((p - el v (leadN (gr b i))) % p) (gr t i)) (xsN p b t v z i)
theorem neg_mul_mod (p x k y : Int) : (x - (p - k) % p * y) % p = (x + k * y) % p := by
  have e1 : (x - (p - k) % p * y) % p = (x - (p - k) * y) % p := by
    rw [Int.sub_emod, mul_mod1, ← Int.sub_emod]
  rw [e1]
  have : x - (p - k) * y = x + k * y + p * (-y) := by
    rw [Int.sub_mul, Int.mul_neg]; omega
  rw [this, Int.add_mul_emod_self_left]
theorem mapR_addR {p k : Int} {w : List Int} : ∀ (acc : List Int), w.length = acc.length → mapR (subG p ((p - k) % p) w) acc = addR p k acc w := fun acc hl => by
  refine ext_el (by rw [mapR_len, addR_len hl]) fun j hj => ?_
  rw [mapR_len] at hj
  rw [el_mapR hj, el_addR hj hl]
  unfold subG
  exact neg_mul_mod p (el acc j) k (el w j)
theorem fold2_snoc {α β σ : Type} (g : σ → α → β → σ) : ∀ (l : List α) (m : List β) (s : σ) (a : α) (b : β), l.length = m.length → fold2 g (l ++ [a]) (m ++ [b]) s = g (fold2 g l m s) a b
  | [], [], _, _, _, _ => rfl
  | [], _ :: _, _, _, _, h => by simp at h
  | _ :: _, [], _, _, _, h => by simp at h
  | x :: l, y :: m, s, a, b, h => fold2_snoc g l m (g s x y) a b (by simpa using h)
theorem xsN_comb {p : Int} {q : Nat} {b t : Rows} {v : List Int} (hp : 2 ≤ p) (ht : okM p q t) (hl : b.length ≤ t.length) : ∀ i, i ≤ b.length → xsN p b t v (List.replicate q 0) i = combR p q (t.take i) ((coordsL b v).take i)
  | 0, _ => by simp [xsN, combR, fold2]
  | i + 1, hi => by
    have hti : i < t.length := by omega
    have hci : i < (coordsL b v).length := by simp [coordsL]; omega
    have e1 : t.take (i + 1) = t.take i ++ [gr t i] := by rw [List.take_add_one, gr_get hti]; rfl
    have e2 : (coordsL b v).take (i + 1) = (coordsL b v).take i ++ [el v (leadN (gr b i))] := by rw [List.take_add_one, el_get hci, el_coords (by omega)]; rfl
    show mapR _ (xsN p b t v (List.replicate q 0) i) = _
    rw [xsN_comb hp ht hl i (by omega), e1, e2]
    unfold combR
    rw [fold2_snoc _ _ _ _ _ _ (by simp [coordsL]; omega)]
    have hok : okR p q (fold2 (fun acc row c => addR p c acc row) (t.take i) ((coordsL b v).take i) (List.replicate q 0)) := fold2_ok hp _ _ _ (okR_zero hp q) (fun x hx => ht x (List.mem_of_mem_take hx))
    exact mapR_addR _ (by rw [(okM_gr ht hti).1, hok.1])
def solB (p : Int) (n : Nat) (m : Rows) (v : List Int) : Bool := hasB p n ((redT p n m).1.take (redT p n m).2.2) v
def solX (p : Int) (n : Nat) (m : Rows) (v : List Int) : List Int := combR p m.length ((redT p n m).2.1.take (redT p n m).2.2) (coordsL ((redT p n m).1.take (redT p n m).2.2) v)
theorem mxSolve_ {p : Int} {n : Nat} {m : Rows} {v : List Int} (hf : fdB p = true) (h : okM p n m) (hv : okR p n v) (hn : n ≤ 1048576) (hl : m.length ≤ 1048576) : F_spec_mxSolve p ((n : Int), m) v = some (solX p n m v, solB p n m v) := by
  have hp := fdB_rng hf
  have hm : maxN = 1099511627776 := rfl
  obtain ⟨d, hd⟩ := mxReduce_ hf h hn hl
  obtain ⟨f1, f2, f3, f4, f5, f6⟩ := redT_facts hf h
  unfold solX solB
  generalize redT p n m = t at hd f1 f2 f3 f4 f5 f6
  obtain ⟨a, u, r⟩ := t
  dsimp only at f1 f2 f3 f4 f5 f6 hd ⊢
  have hbl : (a.take r).length = r := by rw [List.length_take]; omega
  have hvl := hv.1
  refine bnd hd (bnd (a := (List.replicate m.length 0, v)) (bnd (makeO_of _ (by show m.length ≤ maxN; omega)) (bnd (own_ (by omega)) rfl)) ?_)
  refine bnd (a := (xsN p (a.take r) u v (List.replicate m.length 0) r, restN p v (a.take r) r)) ?_ ?_
  · have := whileO_is (fun i => (xsN p (a.take r) u v (List.replicate m.length 0) i, restN p v (a.take r) i, (i : Int))) (t := (xsN p (a.take r) u v (List.replicate m.length 0) r, restN p v (a.take r) r)) r (f := fun (s391 : List Int × List Int × Int) =>
      (some (decide (s391.2.2 < (r : Int)))).bind fun a400 =>
      cond a400
      ((idxO a s391.2.2).bind fun a411 =>
        (F_spec_spLead a411).bind fun y414 =>
        (idxO s391.2.1 y414).bind fun a423 =>
        (idxO a s391.2.2).bind fun a431 =>
        (F_spec_mxLess p s391.2.1 a431 a423).bind fun y434 =>
        (idxO u s391.2.2).bind fun a444 =>
        (F_spec_fdNeg p a423).bind fun y447 =>
        (F_spec_mxLess p s391.1 a444 y447).bind fun y450 =>
        (addO s391.2.2 1).bind fun a453 =>
        some (.inl (y450, y434, a453)))
      (some (.inr (s391.1, s391.2.1)))) (by
      intro i hi
      dsimp only
      have hil : i < a.length := by omega
      have hg : gr (a.take r) i = gr a i := gr_take hi
      have hl1 := f6.lt i (by omega)
      have hro := okM_gr f5 hil
      obtain ⟨h1, h2⟩ := restN_el hp.1 f6 hv i (by omega)
      have h3 := h2 (by omega)
      have hok := restN_ok (b := a.take r) hp.1 hv i
      have hel := hok.2 _ (el_mem (r := restN p v (a.take r) i) (c := leadN (gr (a.take r) i)) (by rw [hok.1]; exact hl1))
      have hxs : okR p m.length (xsN p (a.take r) u v (List.replicate m.length 0) i) := by
        rw [xsN_comb hp.1 f4 (by omega) i (by omega)]
        exact combR_ok hp.1 (fun x hx => f4 x (List.mem_of_mem_take hx))
      have hur := okM_gr f4 (i := i) (by omega)
      rw [hg] at hl1 h3 hel
      refine stp (cTW (dT (by omega)) (bnd (idx_gr hil) (bnd (spLead_ (by omega)) (bnd (idx_el (by rw [hok.1]; exact hl1)) (bnd (idx_gr hil) (bnd (mxLess_ hp hok.2 hro.2 (by rw [hok.1, hro.1]) hel) (bnd (idx_gr (by omega)) (bnd (fdNeg_ hp hel) (bnd (mxLess_ hp hxs.2 hur.2 (by rw [hxs.1, hur.1]) (emod_in hp.1)) (bnd (addO_of (by omega) (by omega)) ?_))))))))))
      refine congrArg some (congrArg Sum.inl (Prod.ext ?_ (Prod.ext ?_ rfl)))
      · show mapR (subG p ((p - el _ _) % p) _) _ = mapR (subG p ((p - el v (leadN (gr (a.take r) i))) % p) (gr u i)) _
        rw [hg, h3]
      · show mapR _ _ = mapR (subG p (el _ (leadN (gr (a.take r) i))) (gr (a.take r) i)) _
        rw [hg]) (by dsimp only; exact stp (cFW (dF (by omega)) rfl))
    exact this
  · have e1 : xsN p (a.take r) u v (List.replicate m.length 0) r = combR p m.length (u.take r) (coordsL (a.take r) v) := by
      have := xsN_comb (v := v) (b := a.take r) hp.1 f4 (by omega) r (by omega)
      rw [this, List.take_of_length_le (l := coordsL (a.take r) v) (by simp [coordsL]; omega)]
    rw [e1]
    refine bnd (l1All _ 0 0) ?_
    refine congrArg some (Prod.ext rfl ?_)
    show List.all _ _ = decide _
    obtain ⟨h1, _⟩ := restN_el hp.1 f6 hv r (by omega)
    have hok := restN_ok (b := a.take r) hp.1 hv r
    have hco := combR_ok (cs := coordsL (a.take r) v) hp.1 f6.ok
    have hcl : (a.take r).length ≤ (coordsL (a.take r) v).length := by simp [coordsL]
    have key : ∀ j, j < n → (el (restN p v (a.take r) r) j = 0 ↔ el (combR p n (a.take r) (coordsL (a.take r) v)) j = el v j) := fun j hj => by
      rw [h1 j hj, el_combR hp.1 f6.ok hcl hj, sub_zero_iff (hv.2 _ (el_mem (by omega))), hbl]
      rw [sg_congr (g := fun i => el (coordsL (a.take r) v) i * el (gr (a.take r) i) j) (fun i hi => by rw [el_coords (by omega)])]
    rw [Bool.eq_iff_iff, List.all_eq_true, decide_eq_true_eq]
    constructor
    · intro h
      refine ext_el (by rw [hco.1, hv.1]) fun j hj => (key j (by rw [hco.1] at hj; exact hj)).1 ?_
      have := rng_true.1 (h _ (el_mem (r := restN p v (a.take r) r) (c := j) (by rw [hok.1]; rw [hco.1] at hj; exact hj)))
      omega
    · intro h x hx
      obtain ⟨j, hj, rfl⟩ := List.mem_iff_getElem.1 hx
      have := (key j (by rw [hok.1] at hj; exact hj)).2 (by rw [h])
      have e : el (restN p v (a.take r) r) j = (restN p v (a.take r) r)[j] := by have := el_get hj; rw [List.getElem?_eq_getElem hj] at this; exact (Option.some.inj this).symm
      rw [← e, this]; rfl
end Go.Proofs.YtocpeclcoikdpaaDoor
namespace Go.Proofs.YtocpeclcoikdpaaDoor
set_option linter.unusedVariables false

/-! ### lists of ports -/
/-- ports of n, strictly increasing -/
structure Ports (l : List Int) (n : Nat) : Prop where
  rng : ∀ k, k < l.length → 0 ≤ el l k ∧ el l k < (n : Int)
  inc : ∀ i j, i < j → j < l.length → el l i < el l j
theorem Ports.inj {l : List Int} {n : Nat} (h : Ports l n) {i j : Nat} (hi : i < l.length) (hj : j < l.length) (he : el l i = el l j) : i = j := by
  rcases Nat.lt_trichotomy i j with h1 | h1 | h1
  · have := h.inc i j h1 hj; omega
  · exact h1
  · have := h.inc j i h1 hi; omega
theorem Ports.len {l : List Int} {n : Nat} (h : Ports l n) : l.length ≤ n := by
  have key : ∀ k, k < l.length → (k : Int) ≤ el l k := fun k hk => by
    induction k with
    | zero => have := h.rng 0 hk; omega
    | succ k ih => have := ih (by omega); have := h.inc k (k + 1) (by omega) hk; omega
  rcases Nat.eq_zero_or_pos l.length with h0 | h0
  · omega
  · have := key (l.length - 1) (by omega)
    have := (h.rng (l.length - 1) (by omega)).2
    omega

/-! ### the other ports -/
def upL (n : Nat) : List Int := (List.range n).map fun q : Nat => (q : Int)
theorem upL_len (n : Nat) : (upL n).length = n := by simp [upL]
theorem upL_el {n q : Nat} (h : q < n) : el (upL n) q = (q : Int) := by
  have h1 := el_get (r := upL n) (c := q) (by rw [upL_len]; exact h)
  unfold upL at h1
  rw [List.getElem?_map, List.getElem?_range h] at h1
  exact (Option.some.inj h1).symm
theorem upTo_ {n : Nat} (hn : n ≤ 1048576) : F_impl_upTo (n : Int) = some (upL n) := by
  have hm : maxN = 1099511627776 := rfl
  refine bnd (zeros_ (by omega)) (bnd (a := upL n) ?_ rfl)
  have := forS_is (n := n) (fun k => part (fun j (_ : Int) => (j : Int)) (List.replicate n (0 : Int)) k) (f := fun (k6 : Nat) (s29 : List Int) =>
      (setO s29 ((k6 : Nat) : Int) ((k6 : Nat) : Int)).bind fun a44 =>
      some a44) (by
    intro k hk
    have hk' : k < (List.replicate n (0 : Int)).length := by simpa using hk
    exact bnd (setO_of _ (by rw [part_len]; exact hk')) (congrArg some (part_set (fun j (_ : Int) => (j : Int)) (List.replicate n 0) hk')))
  rw [part0] at this
  have e := partN (fun j (_ : Int) => (j : Int)) (List.replicate n (0 : Int))
  rw [List.length_replicate] at e
  rw [e] at this
  rw [List.length_replicate]
  refine this.trans (congrArg some ?_)
  refine ext_el (by rw [mapR_len, upL_len]; simp) fun j hj => ?_
  rw [mapR_len, List.length_replicate] at hj
  rw [el_mapR (by simpa using hj), upL_el hj]

/-! ### rows at ports -/
/-- indices below n -/
def below (l : List Int) (n : Nat) : Prop := ∀ k, k < l.length → 0 ≤ el l k ∧ el l k < (n : Int)

/-! ### ports that are always inputs -/
end Go.Proofs.YtocpeclcoikdpaaDoor
namespace Go.Proofs.YtocpeclcoikdpaaDoor
set_option linter.unusedVariables false

/-! ### rows beside rows -/
def catM (m a : Rows) : Rows := List.zipWith (fun x y => x ++ y) m a
theorem catM_len {m a : Rows} (h : a.length = m.length) : (catM m a).length = m.length := by simp [catM, h]
theorem catM_gr : ∀ {m a : Rows} {i : Nat}, a.length = m.length → gr (catM m a) i = gr m i ++ gr a i
  | [], [], i, _ => by simp [catM, gr]
  | [], _ :: _, _, h => by simp at h
  | _ :: _, [], _, h => by simp at h
  | x :: m, y :: a, 0, _ => by rw [gr_zero, gr_zero]; rfl
  | x :: m, y :: a, i + 1, h => by
    rw [gr_succ, gr_succ]
    show gr ((x ++ y) :: catM m a) (i + 1) = _
    rw [gr_succ]
    exact catM_gr (by simpa using h)
theorem el_app {x y : List Int} {j : Nat} : el (x ++ y) j = if j < x.length then el x j else el y (j - x.length) := by
  unfold el
  rw [List.getD_eq_getElem?_getD, List.getD_eq_getElem?_getD, List.getD_eq_getElem?_getD]
  split
  · rename_i h; rw [List.getElem?_append_left h]
  · rename_i h; rw [List.getElem?_append_right (by omega)]
theorem catM_ok {p : Int} {k q : Nat} {m a : Rows} (hl : a.length = m.length) (h : okM p k m) (ha : okM p q a) : okM p (k + q) (catM m a) := by
  intro x hx
  obtain ⟨i, hi, rfl⟩ := List.mem_iff_getElem.1 hx
  rw [catM_len hl] at hi
  have e : gr (catM m a) i = (catM m a)[i]'(by rw [catM_len hl]; exact hi) := by have := gr_get (m := catM m a) (i := i) (by rw [catM_len hl]; exact hi); rw [List.getElem?_eq_getElem] at this; exact (Option.some.inj this).symm
  rw [← e, catM_gr hl]
  exact okR_app (okM_gr h hi) (okM_gr ha (by omega))
theorem catM_el {p : Int} {k : Nat} {m a : Rows} (hl : a.length = m.length) (h : okM p k m) {i c : Nat} (hi : i < m.length) (hc : c < k) : el (gr (catM m a) i) c = el (gr m i) c := by
  rw [catM_gr hl, el_app, if_pos (by rw [(okM_gr h hi).1]; exact hc)]
theorem catM_scan {p : Int} {k : Nat} {m a : Rows} (hl : a.length = m.length) (h : okM p k m) {c : Nat} (hc : c < k) : ∀ (d i : Nat), i + d ≤ m.length → scanN (catM m a) c d i = scanN m c d i
  | 0, _, _ => rfl
  | d + 1, i, hi => by
    unfold scanN
    rw [catM_el hl h (by omega) hc, catM_scan hl h hc d (i + 1) (by omega)]
theorem catM_swap {m a : Rows} {r k i : Nat} (hl : a.length = m.length) (hr : r < m.length) (hk : k < m.length) : gr (swapM (catM m a) r k) i = gr (swapM m r k) i ++ gr (swapM a r k) i := by
  have hcl := catM_len hl
  rw [swapM_gr2 (by rw [hcl]; exact hr) (by rw [hcl]; exact hk), swapM_gr2 hr hk, swapM_gr2 (m := a) (by omega) (by omega)]
  split
  · exact catM_gr hl
  · split <;> exact catM_gr hl
theorem catM_step {p : Int} {c r k w q : Nat} {m a : Rows} (hf : fdB p = true) (h : okM p w m) (ha : okM p q a) (hl : a.length = m.length) (hr : r < m.length) (hk : k < m.length) (hc : c < w) (hne : el (gr m k) c ≠ 0) :
    stepA p c (catM m a) (catM m a) r k = catM (stepA p c m m r k) (stepA p c m a r k) := by
  have hp := fdB_rng hf
  have hcl := catM_len hl
  have hco := catM_ok hl h ha
  have hne2 : el (gr (catM m a) k) c ≠ 0 := by rw [catM_el hl h hk hc]; exact hne
  obtain ⟨f1, f2, f3⟩ := stepA_el hf hco hco rfl (by rw [hcl]; exact hr) (by rw [hcl]; exact hk) (by omega) hne2
  obtain ⟨g1, g2, g3⟩ := stepA_el hf h h rfl hr hk hc hne
  obtain ⟨k1, k2, k3⟩ := stepA_el hf h ha hl hr hk hc hne
  have l1 : (stepA p c (catM m a) (catM m a) r k).length = m.length := by rw [stepA_len, hcl]
  have l2 : (stepA p c m m r k).length = m.length := stepA_len p c m m r k
  have l3 : (stepA p c m a r k).length = m.length := by rw [stepA_len, hl]
  have o1 : okM p (w + q) (stepA p c (catM m a) (catM m a) r k) := stepA_ok hp.1 hco (by rw [hcl]; exact hr) (by rw [hcl]; exact hk)
  have o2 : okM p w (stepA p c m m r k) := stepA_ok hp.1 h hr hk
  have o3 : okM p q (stepA p c m a r k) := stepA_ok hp.1 ha (by omega) (by omega)
  rw [hcl] at f3
  have hrow : ∀ j, j < w + q → el (gr (stepA p c (catM m a) (catM m a) r k) r) j = el (gr (stepA p c m m r k) r ++ gr (stepA p c m a r k) r) j := fun j hj => by
    rw [f2 j hj, catM_el hl h hk hc, catM_gr hl, el_app, el_app, (okM_gr h hk).1, (okM_gr o2 (i := r) (by omega)).1]
    split
    · rw [g2 j (by omega)]
    · rw [k2 _ (by omega)]
  refine ext_gr (by rw [catM_len (by rw [l3, l2]), l1, l2]) fun i hi => ?_
  rw [l1] at hi
  rw [catM_gr (by rw [l3, l2])]
  have wi := (okM_gr o2 (i := i) (by omega)).1
  refine ext_el (by rw [List.length_append, (okM_gr o1 (i := i) (by omega)).1, wi, (okM_gr o3 (i := i) (by omega)).1]) fun j hj => ?_
  rw [(okM_gr o1 (i := i) (by omega)).1] at hj
  by_cases hir : i = r
  · subst hir; exact hrow j hj
  · have hsm : okM p w (swapM m r k) := swapM_ok h hr hk
    have ws := (okM_gr hsm (i := i) (by rw [swapM_len]; exact hi)).1
    have wr := (okM_gr o2 (i := r) (by omega)).1
    rw [f3 i hi hir j hj, hrow j hj, catM_swap hl hr hk, el_app, el_app, el_app, el_app, ws, wr, wi, if_pos hc]
    split
    · rename_i hjw; rw [g3 i hi hir j hjw]
    · rename_i hjw; rw [k3 i hi hir _ (by omega)]
theorem catM_loop {p : Int} {w q : Nat} (hf : fdB p = true) : ∀ (d c : Nat) (m a : Rows) (r : Nat), c + d ≤ w → okM p w m → okM p q a → a.length = m.length → r ≤ m.length →
    redLoop p d c (catM m a) (catM m a) r = (catM (redLoop p d c m a r).1 (redLoop p d c m a r).2.1, catM (redLoop p d c m a r).1 (redLoop p d c m a r).2.1, (redLoop p d c m a r).2.2)
  | 0, _, _, _, _, _, _, _, _, _ => rfl
  | d + 1, c, m, a, r, hd, h, ha, hl, hr => by
    have hcl := catM_len hl
    unfold redLoop
    rw [hcl]
    by_cases hrl : r < m.length
    · rw [if_pos hrl, if_pos hrl, catM_scan hl h (by omega) (m.length - r) r (by omega)]
      obtain ⟨s1, s2, s3⟩ := scanN_spec m c (m.length - r) r (by omega)
      split
      · exact catM_loop hf d (c + 1) m a r (by omega) h ha hl hr
      · rename_i hk
        have hkl : scanN m c (m.length - r) r < m.length := by omega
        rw [catM_step hf h ha hl hrl hkl (by omega) (s3 hkl)]
        have ha2 : okM p q (stepA p c m a r (scanN m c (m.length - r) r)) := stepA_ok (fdB_rng hf).1 ha (by omega) (by omega)
        exact catM_loop hf d (c + 1) (stepA p c m m r (scanN m c (m.length - r) r)) (stepA p c m a r (scanN m c (m.length - r) r)) (r + 1) (by omega) (stepA_ok (fdB_rng hf).1 h hrl hkl) ha2 (by rw [stepA_len, stepA_len]; exact hl) (by rw [stepA_len]; omega)
    · rw [if_neg hrl, if_neg hrl]

/-! ### choices -/
theorem inc_id {g : Nat → Nat} {k : Nat} (h1 : ∀ i, i < k → g i < k) (h2 : ∀ i j, i < j → j < k → g i < g j) : ∀ i, i < k → g i = i := by
  have lo : ∀ i, i < k → i ≤ g i := fun i hi => by
    induction i with
    | zero => exact Nat.zero_le _
    | succ i ih => have := ih (by omega); have := h2 i (i + 1) (by omega) hi; omega
  have hi : ∀ d i, i + d + 1 = k → g i ≤ i := fun d => by
    induction d with
    | zero => intro i hi; have := h1 i (by omega); omega
    | succ d ih => intro i hi; have := ih (i + 1) (by omega); have := h2 i (i + 1) (by omega) (by omega); omega
  intro i hik
  have := lo i hik
  have := hi (k - 1 - i) i (by omega)
  omega
end Go.Proofs.YtocpeclcoikdpaaDoor
