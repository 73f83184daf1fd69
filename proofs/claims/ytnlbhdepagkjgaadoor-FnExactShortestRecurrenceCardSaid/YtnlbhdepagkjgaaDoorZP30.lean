/-
  Plain laws: the shortest recurrence of a sequence. No program in sight. No condition.
-/
import Derived.Test.YtnlbhdepagkjgaaDoorZP28
namespace Go.Proofs.YtnlbhdepagkjgaaDoor
set_option linter.unusedVariables false

theorem el_rmap {n j : Nat} (f : Nat → Int) (h : j < n) : el ((List.range n).map f) j = f j := by
  unfold el; rw [List.getD_eq_getElem?_getD, List.getElem?_map, List.getElem?_range h]; rfl
theorem gr_rmap {n j : Nat} (f : Nat → List Int) (h : j < n) : gr ((List.range n).map f) j = f j := by
  unfold gr; rw [List.getD_eq_getElem?_getD, List.getElem?_map, List.getElem?_range h]; rfl
theorem rmap_len {α : Type} {n : Nat} (f : Nat → α) : ((List.range n).map f).length = n := by simp
theorem rmap_ok {p : Int} {n : Nat} {f : Nat → Int} (h : ∀ j, j < n → 0 ≤ f j ∧ f j < p) : okR p n ((List.range n).map f) := by
  refine ⟨by simp, fun x hx => ?_⟩
  obtain ⟨j, hj, rfl⟩ := List.mem_map.1 hx
  exact h j (List.mem_range.1 hj)
theorem rmapM_ok {p : Int} {n K : Nat} {f : Nat → List Int} (h : ∀ j, j < K → okR p n (f j)) : okM p n ((List.range K).map f) := by
  intro x hx
  obtain ⟨j, hj, rfl⟩ := List.mem_map.1 hx
  exact h j (List.mem_range.1 hj)

/-! ### systems: rows (m of K elements), what is wanted; the equations turned round -/
def rcRow (s : List Int) (m K : Nat) : Rows := (List.range m).map fun i => (List.range K).map fun u => el s (m + u - 1 - i)
def rcWant (p : Int) (s : List Int) (m K : Nat) : List Int := (List.range K).map fun u => (p - el s (m + u)) % p
/-- the equations, from the last coefficient to the first -/
def rcW (p : Int) (s : List Int) (m K : Nat) : Rows := (List.range K).map fun u => ((List.range m).map fun i => el s (u + i)) ++ [(p - el s (m + u)) % p]
section
variable {p : Int} {s : List Int} {m K : Nat}
theorem rcRow_ok (hs : inP p s) (hK : m + K = s.length) : okM p K (rcRow s m K) := rmapM_ok fun i hi => rmap_ok fun u hu => hs _ (el_mem (by omega))
theorem rcWant_ok (hp : 2 ≤ p) : okR p K (rcWant p s m K) := rmap_ok fun u _ => ⟨Int.emod_nonneg _ (by omega), Int.emod_lt_of_pos _ (by omega)⟩
theorem rcW_ok (hp : 2 ≤ p) (hs : inP p s) (hK : m + K = s.length) : okM p (m + 1) (rcW p s m K) := rmapM_ok fun u hu => by
  refine okR_app (l := m) (r := 1) (rmap_ok fun i hi => hs _ (el_mem (by omega))) ⟨rfl, fun x hx => ?_⟩
  rw [List.mem_singleton.1 hx]
  exact ⟨Int.emod_nonneg _ (by omega), Int.emod_lt_of_pos _ (by omega)⟩
theorem rcW_el {u j : Nat} (hu : u < K) (hj : j < m) : el (gr (rcW p s m K) u) j = el s (u + j) := by
  unfold rcW; rw [gr_rmap _ hu, el_app, rmap_len, if_pos hj, el_rmap _ hj]
theorem rcW_last {u : Nat} (hu : u < K) : el (gr (rcW p s m K) u) m = (p - el s (m + u)) % p := by
  unfold rcW; rw [gr_rmap _ hu, el_app, rmap_len, if_neg (by omega), Nat.sub_self]; rfl
theorem rcRow_el {i u : Nat} (hi : i < m) (hu : u < K) : el (gr (rcRow s m K) i) u = el s (m + u - 1 - i) := by
  unfold rcRow; rw [gr_rmap _ hi, el_rmap _ hu]
/-- x solves the equations -/
def solves (p : Int) (s : List Int) (m K : Nat) (x : Nat → Int) : Prop := ∀ u, u < K → sg m (fun i => x i * el s (m + u - 1 - i)) % p = (p - el s (m + u)) % p
theorem sg_rev (f : Nat → Int) : ∀ m, sg m (fun i => f (m - 1 - i)) = sg m f
  | 0 => rfl
  | m + 1 => by
    rw [sg_shift]
    show f (m + 1 - 1 - 0) + _ = sg m f + f m
    rw [sg_congr (g := fun i => f (m - 1 - i)) (fun i hi => by rw [show m + 1 - 1 - (i + 1) = m - 1 - i by omega]), sg_rev f m, show m + 1 - 1 - 0 = m by omega]
    omega
/-- a solution, turned round, with -1 behind it -/
theorem solves_dot {x : Nat → Int} (h : solves p s m K x) {u : Nat} (hu : u < K) : sg (m + 1) (fun j => (if j < m then x (m - 1 - j) else -1) * el (gr (rcW p s m K) u) j) % p = 0 := by
  have e : sg (m + 1) (fun j => (if j < m then x (m - 1 - j) else -1) * el (gr (rcW p s m K) u) j) = sg m (fun i => x i * el s (m + u - 1 - i)) - (p - el s (m + u)) % p := by
    show sg m _ + _ = _
    dsimp only
    rw [if_neg (by omega), rcW_last hu, sg_congr (g := fun j => (fun i => x i * el s (m + u - 1 - i)) (m - 1 - j)) (fun j hj => by
      dsimp only; rw [if_pos hj, rcW_el hu hj, show m + u - 1 - (m - 1 - j) = u + j by omega]), sg_rev (fun i => x i * el s (m + u - 1 - i)) m]
    omega
  rw [e]
  refine sub_of_mod ?_
  rw [h u hu, mod_mod]
end
/-- what the reduced equations say: a row that leads in the last column, or the coefficients -/
def fsX (m : Nat) (R : Rows) : Nat → List Int
  | 0 => List.replicate m 0
  | i + 1 => (fsX m R i).set (m - 1 - leadN (gr R i)) (el (gr R i) m)
def fsB (m : Nat) (R : Rows) : Bool := R.all fun r => !decide (leadN r = m)
section
variable {p : Int} {s : List Int} {m K : Nat}
theorem fsX_ok (hp : 2 ≤ p) {R : Rows} (hR : okM p (m + 1) R) : ∀ i, i ≤ R.length → okR p m (fsX m R i)
  | 0, _ => okR_zero hp m
  | i + 1, hi => by
    have ih := fsX_ok hp hR i (by omega)
    unfold fsX
    refine ⟨by rw [List.length_set]; exact ih.1, fun x hx => ?_⟩
    rcases List.mem_or_eq_of_mem_set hx with h | rfl
    · exact ih.2 x h
    · exact okM_el hR (by omega) (by omega)
theorem fsB_iff {R : Rows} : fsB m R = true ↔ ∀ i, i < R.length → leadN (gr R i) ≠ m := by
  unfold fsB
  rw [List.all_eq_true]
  constructor
  · intro h i hi he
    have := h _ (gr_mem hi)
    rw [he] at this
    simp at this
  · intro h r hr
    obtain ⟨t, ht, rfl⟩ := List.mem_iff_getElem.1 hr
    have e : gr R t = R[t] := by have := gr_get ht; rw [List.getElem?_eq_getElem ht] at this; exact (Option.some.inj this).symm
    have := h t ht
    rw [e] at this
    simp [this]
theorem fsX_el (hp : 2 ≤ p) {R : Rows} (hR : Red p (m + 1) R) (hb : fsB m R = true) : ∀ i, i ≤ R.length → (∀ t, t < i → el (fsX m R i) (m - 1 - leadN (gr R t)) = el (gr R t) m) ∧ ∀ q, q < m → (∀ t, t < i → leadN (gr R t) ≠ m - 1 - q) → el (fsX m R i) q = 0
  | 0, _ => ⟨fun t ht => by omega, fun q hq _ => el_rep m q⟩
  | i + 1, hi => by
    obtain ⟨h1, h2⟩ := fsX_el hp hR hb i (by omega)
    have hl := (fsX_ok hp hR.ok i (by omega)).1
    have hlt := fun t (ht : t < R.length) => hR.lt t ht
    have hne := fsB_iff.1 hb
    have hi1 := hlt i (by omega); have hi2 := hne i (by omega)
    refine ⟨fun t ht => ?_, fun q hq hn => ?_⟩
    · show el ((fsX m R i).set _ _) _ = _
      rw [el_setN (by omega)]
      by_cases hti : t = i
      · subst hti; rw [if_pos rfl]
      · have := hR.inc t i (by omega) (by omega)
        rw [if_neg (by omega)]
        exact h1 t (by omega)
    · show el ((fsX m R i).set _ _) _ = _
      rw [el_setN (by omega), if_neg (fun he => hn i (by omega) (by omega))]
      exact h2 q hq (fun t ht => hn t (by omega))
/-- the coefficients solve the equations -/
theorem fs_solves (hf : fdB p = true) (hs : inP p s) (hK : m + K = s.length) (hb : fsB m (redM p (m + 1) (rcW p s m K)) = true) : solves p s m K (fun i => el (fsX m (redM p (m + 1) (rcW p s m K)) (redM p (m + 1) (rcW p s m K)).length) i) := by
  have hp := fdB_rng hf
  have hW := rcW_ok hp.1 hs hK
  have hR := redM_red hf hW
  have hsp := (redM_span hf hW).2
  generalize redM p (m + 1) (rcW p s m K) = R at hR hsp hb ⊢
  obtain ⟨e1, e2⟩ := fsX_el hp.1 hR hb R.length (Nat.le_refl _)
  have hne := fsB_iff.1 hb
  -- each reduced row is satisfied
  have key : ∀ i, i < R.length → sg (m + 1) (fun j => (if j < m then el (fsX m R R.length) (m - 1 - j) else -1) * el (gr R i) j) % p = 0 := by
    intro i hi
    have hl := hR.lt i hi; have hn := hne i hi
    show (sg m _ + _) % p = 0
    dsimp only
    rw [if_neg (by omega), sg_one (i0 := leadN (gr R i)) (k := m) (by omega) (fun j hj hji => by
      rw [if_pos hj]
      by_cases h1 : ∃ t, t < R.length ∧ leadN (gr R t) = j
      · obtain ⟨t, ht, rfl⟩ := h1
        rw [hR.zero t i ht hi (fun h2 => hji (by rw [h2])), Int.mul_zero]
      · rw [e2 (m - 1 - j) (by omega) (fun t ht he => h1 ⟨t, ht, by omega⟩), Int.zero_mul]), if_pos (by omega), e1 i hi, hR.one i hi, show el (gr R i) m * 1 + -1 * el (gr R i) m = 0 by omega]
    exact Int.zero_emod p
  intro u hu
  have hd := dot_span (m := R) (v := gr (rcW p s m K) u) (n := m + 1) _ key (hsp u (by unfold rcW; rw [rmap_len]; exact hu))
  have e : sg (m + 1) (fun j => (if j < m then el (fsX m R R.length) (m - 1 - j) else -1) * el (gr (rcW p s m K) u) j) = sg m (fun i => el (fsX m R R.length) i * el s (m + u - 1 - i)) - (p - el s (m + u)) % p := by
    show sg m _ + _ = _
    dsimp only
    rw [if_neg (by omega), rcW_last hu, sg_congr (g := fun j => (fun i => el (fsX m R R.length) i * el s (m + u - 1 - i)) (m - 1 - j)) (fun j hj => by
      dsimp only; rw [if_pos hj, rcW_el hu hj, show m + u - 1 - (m - 1 - j) = u + j by omega]), sg_rev (fun i => el (fsX m R R.length) i * el s (m + u - 1 - i)) m]
    omega
  rw [e] at hd
  have := mod_of_sub hd
  rw [mod_mod] at this
  exact this
theorem fs_of (hf : fdB p = true) (hs : inP p s) (hK : m + K = s.length) {x : Nat → Int} (h : solves p s m K x) : fsB m (redM p (m + 1) (rcW p s m K)) = true := by
  have hp := fdB_rng hf
  have hW := rcW_ok hp.1 hs hK
  have hR := redM_red hf hW
  have hsp := (redM_span hf hW).1
  generalize redM p (m + 1) (rcW p s m K) = R at hR hsp ⊢
  rw [fsB_iff]
  intro i hi he
  have hd := dot_span (m := rcW p s m K) (n := m + 1) (v := gr R i) _ (fun u hu => solves_dot h (by unfold rcW at hu; rw [rmap_len] at hu; exact hu)) (hsp i hi)
  have e : sg (m + 1) (fun j => (if j < m then x (m - 1 - j) else -1) * el (gr R i) j) = -1 := by
    show sg m _ + _ = _
    dsimp only
    have h1 := hR.one i hi
    rw [he] at h1
    rw [if_neg (by omega), h1, sg_zero (fun j hj => by rw [leadN_z (gr R i) j (by omega), Int.mul_zero])]
    rfl
  rw [e] at hd
  have h3 : (-1 : Int) % p = (p - 1) % p := mod_of_sub (Int.emod_eq_zero_of_dvd ⟨-1, by omega⟩)
  rw [hd, Int.emod_eq_of_lt (by omega) (by omega)] at h3
  omega
end
end Go.Proofs.YtnlbhdepagkjgaaDoor
