/-
  Plain laws: lists whose product with rows is zero, by the leading indices; the states that are hidden. No program in sight. No condition.
-/
import Derived.Test.YteikcdofblclhaaDoorZP26
namespace Go.Proofs.YteikcdofblclhaaDoor
set_option linter.unusedVariables false

theorem kernel_ {p : Int} {n : Nat} {m : Rows} (hf : fdB p = true) (hn : n ≤ 1048576) (h : okM p n m) (hL : m.length ≤ 1048576) : F_impl_kernel p m (n : Int) = some (kerM p n m) := by
  have hm : maxN = 1099511627776 := rfl
  have hp := fdB_rng hf
  obtain ⟨f1, f2, f3, f4, f5, f6⟩ := redT_facts hf h
  refine bnd (clones_ (by omega) (rowsP_len h (by omega))) (bnd (identityRows_ hL) (bnd (reduction_ hf (Nat.le_refl n) hn h (idN_ok hp.1 m.length) (by omega) (idN_len _)) ?_))
  change (sliceO (redT p n m).2.1 ((redT p n m).2.2 : Int) (((redT p n m).2.1.length : Nat) : Int)).bind _ = _
  have e : sliceO (redT p n m).2.1 ((redT p n m).2.2 : Int) (((redT p n m).2.1.length : Nat) : Int) = some ((redT p n m).2.1.drop (redT p n m).2.2) := by
    unfold sliceO
    rw [if_pos ⟨by omega, by omega, by rw [Int.toNat_natCast]; omega⟩, Int.toNat_natCast, Int.toNat_natCast, List.take_of_length_le (by rw [List.length_drop]; omega)]
  refine bnd e (bnd (reduced_ hf (Nat.le_refl m.length) hL (ker_ok hf h) (by rw [List.length_drop]; omega)) rfl)

/-! ### by the leading indices -/
def isL (b : Rows) (j : Nat) : Bool := b.any fun r => decide (leadN r = j)
theorem isL_iff {b : Rows} {j : Nat} : isL b j = true ↔ ∃ t, t < b.length ∧ leadN (gr b t) = j := by
  unfold isL
  rw [List.any_eq_true]
  constructor
  · rintro ⟨r, hr, h⟩
    obtain ⟨t, ht, rfl⟩ := List.mem_iff_getElem.1 hr
    refine ⟨t, ht, ?_⟩
    have e : gr b t = b[t] := by have := gr_get ht; rw [List.getElem?_eq_getElem ht] at this; exact (Option.some.inj this).symm
    rw [e]; exact of_decide_eq_true h
  · rintro ⟨t, ht, h⟩
    exact ⟨gr b t, gr_mem ht, decide_eq_true h⟩
def ldL (n : Nat) (b : Rows) : Nat → List Int
  | 0 => mapR (fun _ _ => -1) (List.replicate n 0)
  | i + 1 => (ldL n b i).set (leadN (gr b i)) (i : Int)
theorem ldL_len (n : Nat) (b : Rows) : ∀ i, (ldL n b i).length = n
  | 0 => by unfold ldL; rw [mapR_len, List.length_replicate]
  | i + 1 => by unfold ldL; rw [List.length_set]; exact ldL_len n b i
theorem el_setN {z : List Int} {i j : Nat} {v : Int} (h : i < z.length) : el (z.set i v) j = if i = j then v else el z j := by
  unfold el
  rw [List.getD_eq_getElem?_getD, List.getD_eq_getElem?_getD, List.getElem?_set]
  by_cases hij : i = j
  · rw [if_pos hij, if_pos hij, if_pos (by omega)]; rfl
  · rw [if_neg hij, if_neg hij]
theorem ldL_el {n : Nat} {b : Rows} (hlt : ∀ i, i < b.length → leadN (gr b i) < n) {j : Nat} (hj : j < n) : ∀ i, i ≤ b.length → (0 ≤ el (ldL n b i) j ↔ ∃ t, t < i ∧ leadN (gr b t) = j)
  | 0, _ => by
    unfold ldL
    rw [el_mapR (by rw [List.length_replicate]; exact hj)]
    exact ⟨fun h => by omega, fun ⟨t, ht, _⟩ => by omega⟩
  | i + 1, hi => by
    have ih := ldL_el hlt hj i (by omega)
    show 0 ≤ el ((ldL n b i).set (leadN (gr b i)) (i : Int)) j ↔ _
    rw [el_setN (by rw [ldL_len]; exact hlt i (by omega))]
    by_cases h : leadN (gr b i) = j
    · rw [if_pos h]; exact ⟨fun _ => ⟨i, by omega, h⟩, fun _ => by omega⟩
    · rw [if_neg h, ih]
      constructor
      · rintro ⟨t, ht, h2⟩; exact ⟨t, by omega, h2⟩
      · rintro ⟨t, ht, h2⟩
        by_cases hti : t = i
        · rw [hti] at h2; exact absurd h2 h
        · exact ⟨t, by omega, h2⟩
def nvL (p : Int) (n : Nat) (b : Rows) (j : Nat) : Nat → List Int
  | 0 => (List.replicate n 0).set j 1
  | i + 1 => (nvL p n b j i).set (leadN (gr b i)) ((p - el (gr b i) j) % p)
theorem nvL_ok {p : Int} {n : Nat} {b : Rows} {j : Nat} (hp : 2 ≤ p) : ∀ i, okR p n (nvL p n b j i)
  | 0 => unitN_ok hp n j
  | i + 1 => by
    have ih := nvL_ok (n := n) (b := b) (j := j) hp i
    unfold nvL
    refine ⟨by rw [List.length_set]; exact ih.1, fun x hx => ?_⟩
    rcases List.mem_or_eq_of_mem_set hx with h | rfl
    · exact ih.2 x h
    · exact ⟨Int.emod_nonneg _ (by omega), Int.emod_lt_of_pos _ (by omega)⟩
theorem nvL_miss {p : Int} {n : Nat} {b : Rows} {j : Nat} (hp : 2 ≤ p) (hlt : ∀ i, i < b.length → leadN (gr b i) < n) (hj : j < n) {c : Nat} : ∀ i, i ≤ b.length → (∀ t, t < i → leadN (gr b t) ≠ c) → el (nvL p n b j i) c = if j = c then 1 else 0
  | 0, _, _ => unit_elN hj
  | i + 1, hi, h => by
    unfold nvL
    rw [el_setN (by rw [(nvL_ok hp i).1]; exact hlt i (by omega)), if_neg (h i (by omega))]
    exact nvL_miss hp hlt hj i (by omega) (fun t ht => h t (by omega))
theorem nvL_hit {p : Int} {n : Nat} {b : Rows} {j : Nat} (hp : 2 ≤ p) (hb : Red p n b) {t : Nat} (ht : t < b.length) : ∀ i, i ≤ b.length → t < i → el (nvL p n b j i) (leadN (gr b t)) = (p - el (gr b t) j) % p
  | 0, _, h => by omega
  | i + 1, hi, h => by
    unfold nvL
    rw [el_setN (by rw [(nvL_ok hp i).1]; exact hb.lt i (by omega))]
    by_cases hti : t = i
    · subst hti; rw [if_pos rfl]
    · have := hb.inc t i (by omega) (by omega)
      rw [if_neg (by omega)]
      exact nvL_hit hp hb ht i (by omega) (by omega)
def nuP (p : Int) (n : Nat) (b : Rows) : Nat → Rows
  | 0 => []
  | j + 1 => if isL b j then nuP p n b j else nuP p n b j ++ [nvL p n b j b.length]
theorem nuP_ok {p : Int} {n : Nat} {b : Rows} (hp : 2 ≤ p) : ∀ j, okM p n (nuP p n b j) ∧ (nuP p n b j).length ≤ j
  | 0 => ⟨(fun r hr => nomatch hr), Nat.le_refl _⟩
  | j + 1 => by
    obtain ⟨h1, h2⟩ := nuP_ok (n := n) (b := b) hp j
    unfold nuP
    split
    · exact ⟨h1, by omega⟩
    · refine ⟨okM_app h1 (fun r hr => ?_), by rw [List.length_append]; show _ + 1 ≤ _; omega⟩
      rw [List.mem_singleton.1 hr]; exact nvL_ok hp _
theorem nuP_mem {p : Int} {n : Nat} {b : Rows} {v : List Int} : ∀ k, v ∈ nuP p n b k → ∃ j, j < k ∧ isL b j = false ∧ v = nvL p n b j b.length
  | 0, h => nomatch h
  | k + 1, h => by
    unfold nuP at h
    split at h
    · obtain ⟨j, h1, h2⟩ := nuP_mem k h; exact ⟨j, by omega, h2⟩
    · rename_i hn
      rcases List.mem_append.1 h with h | h
      · obtain ⟨j, h1, h2⟩ := nuP_mem k h; exact ⟨j, by omega, h2⟩
      · exact ⟨k, by omega, by cases hk : isL b k with | false => rfl | true => exact absurd hk hn, List.mem_singleton.1 h⟩
theorem nuP_sum {p : Int} {n : Nat} {b : Rows} (x : Nat → Int) : ∀ k, ∃ X : Nat → Int, ∀ c, sg (nuP p n b k).length (fun i => X i * el (gr (nuP p n b k) i) c) = sg k (fun j => if isL b j = true then 0 else x j * el (nvL p n b j b.length) c)
  | 0 => ⟨fun _ => 0, fun c => rfl⟩
  | k + 1 => by
    obtain ⟨X, hX⟩ := nuP_sum (p := p) (n := n) (b := b) x k
    unfold nuP
    split
    · rename_i h
      refine ⟨X, fun c => ?_⟩
      show _ = sg k _ + (if isL b k = true then 0 else _)
      rw [if_pos h, hX c]; omega
    · rename_i h
      refine ⟨fun i => if i < (nuP p n b k).length then X i else x k, fun c => ?_⟩
      rw [List.length_append, show [nvL p n b k b.length].length = 1 from rfl, sg_app]
      show _ = sg k _ + (if isL b k = true then 0 else _)
      rw [if_neg h, ← hX c]
      congr 1
      · exact sg_congr fun i hi => by dsimp only; rw [if_pos hi, gr_app1 hi]
      · show 0 + _ = _
        dsimp only
        rw [if_neg (by omega), gr_app2, Int.zero_add]
        rfl
def nulM (p : Int) (n : Nat) (m : Rows) : Rows := redM p n (nuP p n (redM p n m) n)
theorem nulM_red {p : Int} {n : Nat} {m : Rows} (hf : fdB p = true) : Red p n (nulM p n m) := redM_red hf (nuP_ok (fdB_rng hf).1 n).1
theorem nulM_iff {p : Int} {n : Nat} {m : Rows} (hf : fdB p = true) (h : okM p n m) (x : List Int) : inSpan p n (nulM p n m) x ↔ perp p n m x := by
  have hp := fdB_rng hf
  have hb := redM_red hf h
  have hs := redM_span hf h
  have hn := redM_span hf (nuP_ok (n := n) (b := redM p n m) hp.1 n).1
  unfold nulM
  generalize redM p n m = b at hb hs hn ⊢
  constructor
  · intro hx
    refine perp_sub ?_ hs.2
    intro i hi
    refine dot_span (m := nuP p n b n) (fun c => el (gr b i) c) (fun k hk => ?_) (inSpan_trans hn.1 hx)
    obtain ⟨j, hj, hl, e⟩ := nuP_mem n (gr_mem hk)
    have hnl : ∀ t, t < b.length → leadN (gr b t) ≠ j := fun t ht he => by
      have := isL_iff.2 ⟨t, ht, he⟩
      rw [this] at hl; cases hl
    rw [e, sg_split (hb.lt i hi), sg_one (i0 := j) hj (fun c hc hne => by
      by_cases h1 : c = leadN (gr b i)
      · rw [if_pos h1]
      · rw [if_neg h1]
        by_cases h2 : isL b c = true
        · obtain ⟨t, ht, h3⟩ := isL_iff.1 h2
          rw [← h3, hb.zero t i ht hi (fun h4 => h1 (by rw [← h3, h4])), Int.zero_mul]
        · rw [nvL_miss hp.1 hb.lt hj b.length (Nat.le_refl _) (fun t ht he => h2 (isL_iff.2 ⟨t, ht, he⟩)), if_neg (fun h4 => hne h4.symm), Int.mul_zero])]
    rw [if_neg (fun h1 => hnl i hi h1.symm), nvL_miss hp.1 hb.lt hj b.length (Nat.le_refl _) hnl, if_pos rfl, hb.one i hi, nvL_hit hp.1 hb hi b.length (Nat.le_refl _) hi, Int.mul_one, Int.one_mul, Int.add_emod, mod_mod, ← Int.add_emod, show el (gr b i) j + (p - el (gr b i) j) = p by omega]
    exact Int.emod_self
  · intro hx
    have hx' : perp p n b x := perp_sub hx hs.1
    refine inSpan_trans hn.2 ?_
    obtain ⟨X, hX⟩ := nuP_sum (p := p) (n := n) (b := b) (fun j => el x j) n
    refine ⟨X, fun c hc => ?_⟩
    rw [hX c]
    by_cases h2 : isL b c = true
    · obtain ⟨t, ht, h3⟩ := isL_iff.1 h2
      have h4 := hx' t ht
      rw [sg_split (hb.lt t ht), hb.one t ht, Int.one_mul] at h4
      rw [← h3]
      have e1 : sg n (fun j => if isL b j = true then 0 else el x j * el (nvL p n b j b.length) (leadN (gr b t))) % p = sg n (fun j => - (if j = leadN (gr b t) then 0 else el (gr b t) j * el x j)) % p := by
        refine sg_mod fun j hj => ?_
        by_cases h5 : isL b j = true
        · rw [if_pos h5]
          by_cases h6 : j = leadN (gr b t)
          · rw [if_pos h6]; rfl
          · obtain ⟨t', ht', h7⟩ := isL_iff.1 h5
            rw [if_neg h6, ← h7, hb.zero t' t ht' ht (fun h8 => h6 (by rw [← h7, h8])), Int.zero_mul]; rfl
        · have h6 : j ≠ leadN (gr b t) := fun h7 => h5 (isL_iff.2 ⟨t, ht, h7.symm⟩)
          rw [if_neg h5, if_neg h6, nvL_hit hp.1 hb ht b.length (Nat.le_refl _) ht, mul_mod2]
          refine mod_of_sub ?_
          rw [show el x j * (p - el (gr b t) j) - -(el (gr b t) j * el x j) = el x j * p from by rw [Int.mul_sub, Int.mul_comm (el (gr b t) j)]; omega]
          exact Int.mul_emod_left _ _
      rw [e1, sg_neg]
      refine mod_of_sub ?_
      rw [Int.sub_neg, Int.add_comm]
      exact h4
    · rw [sg_one (i0 := c) hc (fun j hj hne => by
        by_cases h3 : isL b j = true
        · rw [if_pos h3]
        · rw [if_neg h3, nvL_miss hp.1 hb.lt hj b.length (Nat.le_refl _) (fun t ht he => h2 (isL_iff.2 ⟨t, ht, he⟩)), if_neg hne, Int.mul_zero]), if_neg h2, nvL_miss hp.1 hb.lt hc b.length (Nat.le_refl _) (fun t ht he => h2 (isL_iff.2 ⟨t, ht, he⟩)), if_pos rfl, Int.mul_one]
end Go.Proofs.YteikcdofblclhaaDoor
