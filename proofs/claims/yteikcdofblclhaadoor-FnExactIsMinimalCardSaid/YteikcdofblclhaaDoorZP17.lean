/-
  Plain laws: sums, combinations of rows by their elements, coordinates in a reduced list. No program in sight. No condition.
-/
import Derived.Test.YteikcdofblclhaaDoorZP16
namespace Go.Proofs.YteikcdofblclhaaDoor

/-! ### sums -/
def sg : Nat → (Nat → Int) → Int
  | 0, _ => 0
  | k + 1, f => sg k f + f k
theorem sg_congr {f g : Nat → Int} : ∀ {k : Nat}, (∀ i, i < k → f i = g i) → sg k f = sg k g
  | 0, _ => rfl
  | k + 1, h => by
    show sg k f + f k = sg k g + g k
    rw [sg_congr (fun i hi => h i (by omega)), h k (by omega)]
theorem sg_zero {f : Nat → Int} {k : Nat} (h : ∀ i, i < k → f i = 0) : sg k f = 0 := by
  induction k with
  | zero => rfl
  | succ k ih =>
    show sg k f + f k = 0
    rw [ih (fun i hi => h i (by omega)), h k (by omega)]; rfl
theorem sg_one {f : Nat → Int} {k i0 : Nat} (h0 : i0 < k) (h : ∀ i, i < k → i ≠ i0 → f i = 0) : sg k f = f i0 := by
  induction k with
  | zero => omega
  | succ k ih =>
    show sg k f + f k = f i0
    by_cases hk : k = i0
    · subst hk
      rw [sg_zero (fun i hi => h i (by omega) (by omega)), Int.zero_add]
    · rw [ih (by omega) (fun i hi hn => h i (by omega) hn), h k (by omega) hk, Int.add_zero]
theorem sg_shift (f : Nat → Int) : ∀ k, sg (k + 1) f = f 0 + sg k (fun i => f (i + 1))
  | 0 => by show 0 + f 0 = f 0 + 0; omega
  | k + 1 => by
    show sg (k + 1) f + f (k + 1) = f 0 + (sg k (fun i => f (i + 1)) + f (k + 1))
    rw [sg_shift f k]; omega
theorem sg_add (f g : Nat → Int) : ∀ k, sg k (fun i => f i + g i) = sg k f + sg k g
  | 0 => rfl
  | k + 1 => by
    show sg k (fun i => f i + g i) + (f k + g k) = (sg k f + f k) + (sg k g + g k)
    rw [sg_add f g k]; omega
theorem sg_mul (c : Int) (f : Nat → Int) : ∀ k, sg k (fun i => c * f i) = c * sg k f
  | 0 => by show (0 : Int) = c * 0; rw [Int.mul_zero]
  | k + 1 => by
    show sg k (fun i => c * f i) + c * f k = c * (sg k f + f k)
    rw [sg_mul c f k, Int.mul_add]
theorem sg_comm (f : Nat → Nat → Int) (n : Nat) : ∀ k, sg k (fun i => sg n (fun j => f i j)) = sg n (fun j => sg k (fun i => f i j))
  | 0 => by
    show (0 : Int) = _
    rw [sg_zero (k := n) (f := fun j => sg 0 fun i => f i j) (fun _ _ => rfl)]
  | k + 1 => by
    show sg k (fun i => sg n (fun j => f i j)) + sg n (fun j => f k j) = sg n (fun j => sg k (fun i => f i j) + f k j)
    rw [sg_comm f n k, sg_add]
theorem sg_mod {p : Int} {f g : Nat → Int} : ∀ {k : Nat}, (∀ i, i < k → f i % p = g i % p) → sg k f % p = sg k g % p
  | 0, _ => rfl
  | k + 1, h => by
    show (sg k f + f k) % p = (sg k g + g k) % p
    rw [Int.add_emod, sg_mod (fun i hi => h i (by omega)), h k (by omega), ← Int.add_emod]
theorem add_mod1 (p a b : Int) : (a % p + b) % p = (a + b) % p := by rw [Int.add_emod, Int.emod_emod_of_dvd _ (Int.dvd_refl p), ← Int.add_emod]
theorem mod_mod (p a : Int) : a % p % p = a % p := Int.emod_emod_of_dvd _ (Int.dvd_refl p)
theorem mul_mod1 (p a b : Int) : (a % p * b) % p = (a * b) % p := by rw [Int.mul_emod, mod_mod, ← Int.mul_emod]
theorem mul_mod2 (p a b : Int) : (a * (b % p)) % p = (a * b) % p := by rw [Int.mul_emod, mod_mod, ← Int.mul_emod]

/-! ### combinations -/
theorem el_zipWith {g : Int → Int → Int} : ∀ {a b : List Int} {j : Nat}, j < a.length → a.length = b.length → el (List.zipWith g a b) j = g (el a j) (el b j)
  | [], _, _, h, _ => by simp at h
  | _ :: _, [], _, _, h => by simp at h
  | x :: a, y :: b, 0, _, _ => by rw [List.zipWith_cons_cons, el_zero, el_zero, el_zero]
  | x :: a, y :: b, j + 1, h, hl => by rw [List.zipWith_cons_cons, el_succ, el_succ, el_succ]; exact el_zipWith (by simpa using h) (by simpa using hl)
theorem el_addR {p c : Int} {acc row : List Int} {j : Nat} (h : j < acc.length) (hl : row.length = acc.length) : el (addR p c acc row) j = (el acc j + c * el row j) % p := by
  unfold addR; exact el_zipWith (by omega) hl
theorem gr_zero (x : List Int) (xs : Rows) : gr (x :: xs) 0 = x := by unfold gr; simp
theorem gr_succ (x : List Int) (xs : Rows) (j : Nat) : gr (x :: xs) (j + 1) = gr xs j := by unfold gr; simp
theorem el_fold2 {p : Int} {n : Nat} (hp : 2 ≤ p) : ∀ (rows : Rows) (cs : List Int) (acc : List Int) (j : Nat), okR p n acc → rowsP p n rows → rows.length ≤ cs.length → j < n →
    el (fold2 (fun acc row c => addR p c acc row) rows cs acc) j = (el acc j + sg rows.length (fun i => el cs i * el (gr rows i) j)) % p
  | [], cs, acc, j, ha, _, _, hj => by
    have : fold2 (fun acc row c => addR p c acc row) [] cs acc = acc := by cases cs <;> rfl
    have hb := ha.2 _ (el_mem (r := acc) (c := j) (by rw [ha.1]; exact hj))
    rw [this]
    show el acc j = (el acc j + 0) % p
    rw [Int.add_zero, emod_sm hb]
  | r :: rows, [], acc, j, _, _, h, _ => by simp at h
  | r :: rows, c :: cs, acc, j, ha, hr, hl, hj => by
    have h1 := hr r (List.mem_cons_self ..)
    have ha2 : okR p n (addR p c acc r) := ⟨by rw [addR_len (by rw [h1.1, ha.1]), ha.1], zip_in hp c r acc⟩
    show el (fold2 _ rows cs (addR p c acc r)) j = _
    rw [el_fold2 hp rows cs _ j ha2 (fun x hx => hr x (List.mem_cons_of_mem _ hx)) (by simpa using hl) hj, el_addR (by rw [ha.1]; exact hj) (by rw [h1.1, ha.1]), add_mod1, List.length_cons, sg_shift, el_zero, gr_zero]
    congr 1
    rw [Int.add_assoc]
    congr 2
theorem el_rep (n j : Nat) : el (List.replicate n 0) j = 0 := by
  unfold el; rw [List.getD_eq_getElem?_getD, List.getElem?_replicate]; split <;> rfl
theorem el_combR {p : Int} {n : Nat} (hp : 2 ≤ p) {rows : Rows} {cs : List Int} {j : Nat} (hr : rowsP p n rows) (hl : rows.length ≤ cs.length) (hj : j < n) :
    el (combR p n rows cs) j = sg rows.length (fun i => el cs i * el (gr rows i) j) % p := by
  unfold combR
  rw [el_fold2 hp rows cs _ j (okR_zero hp n) hr hl hj, el_rep, Int.zero_add]
theorem fold2_ok {p : Int} {n : Nat} (hp : 2 ≤ p) : ∀ (rows : Rows) (cs : List Int) (acc : List Int), okR p n acc → rowsP p n rows → okR p n (fold2 (fun acc row c => addR p c acc row) rows cs acc)
  | [], cs, acc, ha, _ => by cases cs <;> exact ha
  | r :: rows, [], acc, ha, _ => ha
  | r :: rows, c :: cs, acc, ha, hr => by
    have h1 := hr r (List.mem_cons_self ..)
    exact fold2_ok hp rows cs _ ⟨by rw [addR_len (by rw [h1.1, ha.1]), ha.1], zip_in hp c r acc⟩ (fun x hx => hr x (List.mem_cons_of_mem _ hx))
theorem combR_ok {p : Int} {n : Nat} (hp : 2 ≤ p) {rows : Rows} {cs : List Int} (hr : rowsP p n rows) : okR p n (combR p n rows cs) := fold2_ok hp rows cs _ (okR_zero hp n) hr

/-! ### coordinates -/

/-! ### has a vector -/

/-! ### relations -/

/-! ### the first choice -/
end Go.Proofs.YteikcdofblclhaaDoor

