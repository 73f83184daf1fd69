/-
  Plain laws: ports, choices of inputs and their functions. No program in sight. No condition.
-/
import Derived.Test.YteikcdofblclhaaDoorZP18
import Derived.Test.YteikcdofblclhaaDoorZP19
import Derived.Test.YteikcdofblclhaaDoorZP20
namespace Go.Proofs.YteikcdofblclhaaDoor
set_option linter.unusedVariables false

/-! ### lists of ports -/
/-- ports of n, strictly increasing -/
structure Ports (l : List Int) (n : Nat) : Prop where
  rng : ∀ k, k < l.length → 0 ≤ el l k ∧ el l k < (n : Int)
  inc : ∀ i j, i < j → j < l.length → el l i < el l j
theorem mem_el {l : List Int} {x : Int} : x ∈ l ↔ ∃ k, k < l.length ∧ el l k = x := by
  constructor
  · intro h
    obtain ⟨k, hk, rfl⟩ := List.mem_iff_getElem.1 h
    refine ⟨k, hk, ?_⟩
    have := el_get hk
    rw [List.getElem?_eq_getElem hk] at this; exact (Option.some.inj this).symm
  · rintro ⟨k, hk, rfl⟩; exact el_mem hk
theorem Ports.inj {l : List Int} {n : Nat} (h : Ports l n) {i j : Nat} (hi : i < l.length) (hj : j < l.length) (he : el l i = el l j) : i = j := by
  rcases Nat.lt_trichotomy i j with h1 | h1 | h1
  · have := h.inc i j h1 hj; omega
  · exact h1
  · have := h.inc j i h1 hi; omega
theorem Ports.len {l : List Int} {n : Nat} (h : Ports l n) : l.length ≤ n := by
  have key : ∀ k, k < l.length → (k : Int) ≤ el l k := fun k hk => by
    induction k with
    | zero => have := h.rng 0 hk; omega
    | succ k ih => have := ih (by omega); have := h.inc k (k + 1) (by omega) hk; omega
  rcases Nat.eq_zero_or_pos l.length with h0 | h0
  · omega
  · have := key (l.length - 1) (by omega)
    have := (h.rng (l.length - 1) (by omega)).2
    omega

/-! ### the other ports -/
def upL (n : Nat) : List Int := (List.range n).map fun q : Nat => (q : Int)
def notIn (l : List Int) (q : Nat) : Bool := !decide ((q : Int) ∈ l)
def restL (l : List Int) (n : Nat) : List Int := sieve (notIn l) n
theorem upL_len (n : Nat) : (upL n).length = n := by simp [upL]
theorem upL_el {n q : Nat} (h : q < n) : el (upL n) q = (q : Int) := by
  have h1 := el_get (r := upL n) (c := q) (by rw [upL_len]; exact h)
  unfold upL at h1
  rw [List.getElem?_map, List.getElem?_range h] at h1
  exact (Option.some.inj h1).symm
theorem upTo_ {n : Nat} (hn : n ≤ 1048576) : F_impl_upTo (n : Int) = some (upL n) := by
  have hm : maxN = 1099511627776 := rfl
  refine bnd (zeros_ (by omega)) (bnd (a := upL n) ?_ rfl)
  have := forS_is (n := n) (fun k => part (fun j (_ : Int) => (j : Int)) (List.replicate n (0 : Int)) k) (f := fun (k6 : Nat) (s29 : List Int) =>
      (setO s29 ((k6 : Nat) : Int) ((k6 : Nat) : Int)).bind fun a44 =>
      some a44) (by
    intro k hk
    have hk' : k < (List.replicate n (0 : Int)).length := by simpa using hk
    exact bnd (setO_of _ (by rw [part_len]; exact hk')) (congrArg some (part_set (fun j (_ : Int) => (j : Int)) (List.replicate n 0) hk')))
  rw [part0] at this
  have e := partN (fun j (_ : Int) => (j : Int)) (List.replicate n (0 : Int))
  rw [List.length_replicate] at e
  rw [e] at this
  rw [List.length_replicate]
  refine this.trans (congrArg some ?_)
  refine ext_el (by rw [mapR_len, upL_len]; simp) fun j hj => ?_
  rw [mapR_len, List.length_replicate] at hj
  rw [el_mapR (by simpa using hj), upL_el hj]
theorem index_ {l : List Int} {v : Int} : F_slices_Index_int_int l v = some (match l.findIdx? (fun a => decide (v = a)) with | some k => (k : Int) | none => -1) := by
  have key : ∀ (l : List Int) (k : Nat) {f : Nat → Unit → Option (Unit ⊕ Int)}, (∀ j a, l[j]? = some a → f (k + j) () = some (if v = a then .inr ((k + j : Nat) : Int) else .inl ())) →
      forO f l.length k () = some (match l.findIdx? (fun a => decide (v = a)) with | some q => .inr ((k + q : Nat) : Int) | none => .inl ()) := by
    intro l
    induction l with
    | nil => intro k f _; rfl
    | cons a l ih =>
      intro k f h
      show (f k ()).bind _ = _
      have h0 := h 0 a rfl
      rw [Nat.add_zero] at h0
      rw [h0, List.findIdx?_cons]
      by_cases hv : v = a
      · rw [if_pos hv, dT hv]; rfl
      · rw [if_neg hv, dF hv]
        have := ih (k + 1) (f := f) (fun j b hb => by
          have := h (j + 1) b (by simpa using hb)
          rw [show k + 1 + j = k + (j + 1) by omega]; exact this)
        show forO f l.length (k + 1) () = _
        rw [this]
        cases l.findIdx? (fun a => decide (v = a)) with
        | none => rfl
        | some q => simp only [Bool.false_eq_true, if_false, Option.map_some]; rw [show k + 1 + q = k + (q + 1) by omega]
  refine sqW (key l 0 ?_) ?_
  · intro j a hj
    rw [Nat.zero_add]
    refine bnd (idxO_of hj) (stp ?_)
    by_cases hv : v = a
    · rw [if_pos hv]; exact cTW (dT hv) rfl
    · rw [if_neg hv]; exact cFW (dF hv) rfl
  · cases l.findIdx? (fun a => decide (v = a)) with
    | none => rfl
    | some q => show some (((0 + q : Nat)) : Int) = some (q : Int); rw [Nat.zero_add]
theorem findIdx_mem {l : List Int} {v : Int} : (l.findIdx? (fun a => decide (v = a))).isSome = decide (v ∈ l) := by
  induction l with
  | nil => simp
  | cons a l ih =>
    rw [List.findIdx?_cons]
    by_cases h : v = a
    · simp [h]
    · simp only [dF h, Bool.false_eq_true, if_false, Option.isSome_map, ih]
      rw [decide_eq_decide]; simp [h]
theorem contains_ (l : List Int) (v : Int) : F_slices_Contains_int_int l v = some (decide (v ∈ l)) := by
  refine bnd index_ ?_
  rw [← findIdx_mem]
  cases l.findIdx? (fun a => decide (v = a)) with
  | none => rfl
  | some k =>
    show ((some (decide ((0 : Int) ≤ (k : Int)))).bind fun a5 => some a5) = some true
    rw [dT (by omega)]; rfl
theorem others_ {l : List Int} {n : Nat} (hn : n ≤ 1048576) : F_impl_others (upL n) l = some (restL l n) := by
  have hm : maxN = 1099511627776 := rfl
  refine bnd (a := restL l n) ?_ rfl
  have := forS_is (n := n) (fun k => sieve (notIn l) k) (f := fun (k6 : Nat) (s58 : List Int) =>
      (idxO (upL n) ((k6 : Nat) : Int)).bind fun a74 =>
      (F_slices_Contains_int_int l a74).bind fun y76 =>
      (some (!y76)).bind fun a79 =>
      cond a79
      ((appO s58 [a74]).bind fun a86 =>
        some a86)
      (some s58)) (by
    intro k hk
    have h1 := idx_el (r := upL n) (c := k) (by rw [upL_len]; exact hk)
    rw [upL_el hk] at h1
    refine bnd h1 (bnd (contains_ l (k : Int)) (stp ?_))
    rw [sieve_succ]
    have := sieve_len (notIn l) k
    unfold notIn
    cases decide ((k : Int) ∈ l) with
    | true => rfl
    | false =>
      refine cTW rfl (bnd (appO_of ?_) rfl)
      have := sieve_len (fun q => !decide ((q : Int) ∈ l)) k
      simp; omega)
  rw [upL_len]
  exact this
theorem sieve_mem {P : Nat → Bool} {n : Nat} {x : Int} : x ∈ sieve P n ↔ ∃ q : Nat, x = (q : Int) ∧ q < n ∧ P q = true := by
  unfold sieve
  simp only [List.mem_map, List.mem_filter, List.mem_range]
  constructor
  · rintro ⟨q, ⟨h1, h2⟩, rfl⟩; exact ⟨q, rfl, h1, h2⟩
  · rintro ⟨q, rfl, h1, h2⟩; exact ⟨q, ⟨h1, h2⟩, rfl⟩
theorem sieve_ports (P : Nat → Bool) : ∀ n, Ports (sieve P n) n
  | 0 => ⟨fun k hk => by simp [sieve] at hk, fun i j _ hj => by simp [sieve] at hj⟩
  | n + 1 => by
    have ih := sieve_ports P n
    rw [sieve_succ]
    split
    · have e1 : ∀ k, k < (sieve P n).length → el (sieve P n ++ [(n : Int)]) k = el (sieve P n) k := fun k hk => by
        have := el_get (r := sieve P n ++ [(n : Int)]) (c := k) (by simp; omega)
        rw [List.getElem?_append_left hk, el_get hk] at this
        exact (Option.some.inj this).symm
      have e2 : el (sieve P n ++ [(n : Int)]) (sieve P n).length = (n : Int) := by
        have := el_get (r := sieve P n ++ [(n : Int)]) (c := (sieve P n).length) (by simp)
        rw [List.getElem?_append_right (Nat.le_refl _), Nat.sub_self] at this
        exact (Option.some.inj this).symm
      refine ⟨fun k hk => ?_, fun i j hij hj => ?_⟩
      · rcases Nat.lt_or_ge k (sieve P n).length with h | h
        · rw [e1 k h]; have := ih.rng k h; omega
        · rw [show k = (sieve P n).length by simp at hk; omega, e2]; omega
      · rcases Nat.lt_or_ge j (sieve P n).length with h | h
        · rw [e1 i (by omega), e1 j h]; exact ih.inc i j hij h
        · have hj' : j = (sieve P n).length := by simp at hj; omega
          subst hj'
          rw [e2, e1 i hij]; exact (ih.rng i hij).2
    · exact ⟨fun k hk => by have := ih.rng k hk; omega, ih.inc⟩

/-! ### rows at ports -/
def chosL (l : List Int) (r : List Int) : List Int := l.map fun i => el r i.toNat
def chosM (b : Rows) (l : List Int) : Rows := b.map (chosL l)
theorem chosL_len (l r : List Int) : (chosL l r).length = l.length := by simp [chosL]
theorem chosM_len (b : Rows) (l : List Int) : (chosM b l).length = b.length := by simp [chosM]
theorem chosL_el {l r : List Int} {j : Nat} (h : j < l.length) : el (chosL l r) j = el r (el l j).toNat := by
  have h1 := el_get (r := chosL l r) (c := j) (by rw [chosL_len]; exact h)
  unfold chosL at h1
  rw [List.getElem?_map, el_get h] at h1
  exact (Option.some.inj h1).symm
theorem chosM_gr {b : Rows} {l : List Int} {i : Nat} (h : i < b.length) : gr (chosM b l) i = chosL l (gr b i) := by
  have h1 := gr_get (m := chosM b l) (i := i) (by rw [chosM_len]; exact h)
  unfold chosM at h1
  rw [List.getElem?_map, gr_get h] at h1
  exact (Option.some.inj h1).symm
/-- indices below n -/
def below (l : List Int) (n : Nat) : Prop := ∀ k, k < l.length → 0 ≤ el l k ∧ el l k < (n : Int)
theorem chosM_ok {p : Int} {n : Nat} {b : Rows} {l : List Int} (hp : 2 ≤ p) (h : okM p n b) (hl : below l n) : okM p l.length (chosM b l) := by
  intro x hx
  obtain ⟨r, hr, rfl⟩ := List.mem_map.1 hx
  refine ⟨chosL_len l r, fun y hy => ?_⟩
  obtain ⟨i, hi, rfl⟩ := List.mem_map.1 hy
  obtain ⟨k, hk, rfl⟩ := mem_el.1 hi
  have h1 := hl k hk
  have h2 := h r hr
  exact h2.2 _ (el_mem (by omega))
theorem chosen_ {r l : List Int} {n : Nat} (hr : r.length = n) (hl : below l n) (hn : l.length ≤ 1048576) : F_impl_chosen r l = some (chosL l r) := by
  have hm : maxN = 1099511627776 := rfl
  refine bnd (makeCO_of0 _ (by omega)) (bnd (forS_map (fun i : Int => el r i.toNat) l [] (by simp; omega) ?_) rfl)
  intro j i s hj hs
  have hjl : j < l.length := (List.getElem?_eq_some_iff.1 hj).1
  have e : el l j = i := Option.some.inj ((el_get hjl).symm.trans hj)
  have h1 := hl j hjl
  rw [e] at h1
  obtain ⟨q, rfl⟩ : ∃ q : Nat, i = (q : Int) := ⟨i.toNat, by omega⟩
  rw [Int.toNat_natCast]
  exact bnd (idxO_of hj) (bnd (idx_el (by omega)) (bnd (appO_of (by simp at hs ⊢; omega)) rfl))
theorem chosenAll_ {p : Int} {b : Rows} {l : List Int} {n : Nat} (hb : okM p n b) (hl : below l n) (hn : l.length ≤ 1048576) (hbl : b.length ≤ 1048576) : F_impl_chosenAll b l = some (chosM b l) := by
  have hm : maxN = 1099511627776 := rfl
  refine bnd (forS_map (chosL l) b [] (by simp; omega) ?_) rfl
  intro j r s hj hs
  have hjl : j < b.length := (List.getElem?_eq_some_iff.1 hj).1
  exact bnd (idxO_of hj) (bnd (chosen_ (hb r (mem_of_get hj)).1 hl hn) (bnd (appO_of (by simp at hs ⊢; omega)) rfl))
theorem rest_below (l : List Int) (n : Nat) : below (restL l n) n := (sieve_ports _ n).rng

/-! ### ports that are always inputs -/
theorem ssUnit_ {n q : Nat} (hq : q < n) (hn : n ≤ maxN) : F_spec_ssUnit (n : Int) (q : Int) = some (unitN n q) :=
  bnd (makeO_of _ hn) (bnd (setO_of _ (by simpa using hq)) rfl)
theorem unit_el {n q j : Nat} (hj : j < n) : el (unitN n q) j = if q = j then 1 else 0 := by
  unfold unitN el
  rw [List.getD_eq_getElem?_getD, List.getElem?_set]
  by_cases h : q = j
  · subst h; simp [hj]
  · rw [if_neg h, if_neg h, List.getElem?_replicate, if_pos hj]; rfl
theorem always_iff {p : Int} {n q : Nat} {b : Rows} (hf : fdB p = true) (hb : Red p n b) (hq : q < n) :
    (decide ((redM p (restL [(q : Int)] n).length (chosM b (restL [(q : Int)] n))).length < b.length)) = hasB p n b (unitN n q) := by
  have hp := fdB_rng hf
  have hrb := rest_below [(q : Int)] n
  have hok := chosM_ok (l := restL [(q : Int)] n) hp.1 hb.ok hrb
  have h1 := indep_iff hf hok
  have h2 := (redM_ok (n := (restL [(q : Int)] n).length) hp.1 hok).2.1
  rw [chosM_len] at h1 h2
  have hu := hasB_iff hf hb (unitN_ok hp.1 n q)
  have hmem : ∀ j, j < n → j ≠ q → ∃ t, t < (restL [(q : Int)] n).length ∧ el (restL [(q : Int)] n) t = (j : Int) := fun j hj hne =>
    mem_el.1 (sieve_mem.2 ⟨j, rfl, hj, by unfold notIn; rw [dF (by simp; omega)]; rfl⟩)
  have hnq : ∀ t, t < (restL [(q : Int)] n).length → ∃ j, j < n ∧ j ≠ q ∧ el (restL [(q : Int)] n) t = (j : Int) := fun t ht => by
    obtain ⟨j, e, hj, hP⟩ := sieve_mem.1 (el_mem ht)
    refine ⟨j, hj, ?_, e⟩
    rintro rfl
    unfold notIn at hP
    simp at hP
  have key : inSpan p n b (unitN n q) ↔ ¬ Indep p (restL [(q : Int)] n).length (chosM b (restL [(q : Int)] n)) := by
    constructor
    · rintro ⟨x, hx⟩ hi
      have hz := hi x (fun t ht => by
        obtain ⟨j, hj, hne, e⟩ := hnq t ht
        rw [chosM_len, sg_congr (g := fun i => x i * el (gr b i) j) (fun i hi => by rw [chosM_gr hi, chosL_el ht, e, Int.toNat_natCast])]
        rw [← hx j hj, unit_el hj, if_neg (Ne.symm hne)]; exact Int.zero_emod p)
      rw [chosM_len] at hz
      have h3 := hx q hq
      rw [unit_el hq, if_pos rfl, sg_mod (g := fun _ => 0) (fun i hi => by rw [mul_mod_zero (hz i hi)]; exact (Int.zero_emod p).symm), sg_zero (fun _ _ => rfl), Int.zero_emod, emod_sm (by omega)] at h3
      omega
    · intro hni
      have : ∃ x : Nat → Int, (∀ j, j < n → j ≠ q → sg b.length (fun i => x i * el (gr b i) j) % p = 0) ∧ ∃ i, i < b.length ∧ x i % p ≠ 0 := by
        apply Classical.byContradiction
        intro hno
        refine hni fun x hx i hi => ?_
        rw [chosM_len] at hx hi
        apply Classical.byContradiction
        intro hxi
        refine hno ⟨x, fun j hj hne => ?_, i, hi, hxi⟩
        obtain ⟨t, ht, e⟩ := hmem j hj hne
        have := hx t ht
        rw [sg_congr (g := fun i => x i * el (gr b i) j) (fun i hi => by rw [chosM_gr hi, chosL_el ht, e, Int.toNat_natCast])] at this
        exact this
      obtain ⟨x, hx, i, hi, hxi⟩ := this
      have hs : sg b.length (fun i => x i * el (gr b i) q) % p ≠ 0 := by
        intro h0
        refine hxi (hb.indep x (fun j hj => ?_) i hi)
        by_cases hjq : j = q
        · rw [hjq]; exact h0
        · exact hx j hj hjq
      have hse := emod_in (p := p) (x := sg b.length (fun i => x i * el (gr b i) q)) hp.1
      obtain ⟨_, i1, _⟩ := inverse_ hf (x := sg b.length (fun i => x i * el (gr b i) q) % p) ⟨by omega, hse.2⟩
      refine ⟨fun i => invF p (sg b.length (fun i => x i * el (gr b i) q) % p) * x i, fun j hj => ?_⟩
      rw [sg_congr (g := fun i => invF p (sg b.length (fun i => x i * el (gr b i) q) % p) * (x i * el (gr b i) j)) (fun i _ => Int.mul_assoc _ _ _), sg_mul, unit_el hj]
      by_cases hjq : q = j
      · subst hjq
        rw [if_pos rfl, ← mul_mod2, Int.mul_comm, i1, emod_sm (by omega)]
      · rw [if_neg hjq, mul_mod_zero2 (hx j hj (Ne.symm hjq))]; exact Int.zero_emod p
  rw [Bool.eq_iff_iff, hu, key, decide_eq_true_eq, h1]
  omega
def wAlwaysInputs (p : Int) (R : Rel) : List Int × Bool := if rlB p R then (sieve (fun q => hasB p (R.1 + R.2.1).toNat R.2.2 (unitN (R.1 + R.2.1).toNat q)) (R.1 + R.2.1).toNat, true) else ([], false)
theorem implAlwaysInputs (p : Int) (R : Rel) : F_impl_AlwaysInputs p R = some (wAlwaysInputs p R) := by
  have hm : maxN = 1099511627776 := rfl
  refine bnd (a := wAlwaysInputs p R) (bnd (isRelation_ p R) (stp ?_)) rfl
  unfold wAlwaysInputs
  cases h : rlB p R with
  | false => rfl
  | true =>
    obtain ⟨l, r, h1⟩ := rlB_ok h
    have := h1.n24; have := h1.len
    have e1 := h1.left; have e2 := h1.right
    rw [show (R.1 + R.2.1).toNat = l + r by omega]
    refine cFW rfl (bnd (relSize_ (l := l) (r := r) (R := R) h1) (bnd (cI_of ⟨by omega, by omega⟩) ?_))
    rw [Int.toNat_natCast]
    refine bnd (forS_is (fun j => sieve (fun q => hasB p (l + r) R.2.2 (unitN (l + r) q)) j) ?_) rfl
    intro j hj
    have hrl : (restL [(j : Int)] (l + r)).length ≤ l + r := (sieve_ports _ _).len
    have hrb := rest_below [(j : Int)] (l + r)
    have hok := chosM_ok (l := restL [(j : Int)] (l + r)) (fdB_rng h1.hf).1 h1.red.ok hrb
    refine bnd (a := hasB p (l + r) R.2.2 (unitN (l + r) j)) ?_ ?_
    · refine bnd (relSize_ (l := l) (r := r) (R := R) h1) (bnd (upTo_ (by omega)) (bnd (others_ (by omega)) (bnd (chosenAll_ (b := R.2.2) h1.red.ok hrb (by omega) (by omega)) (bnd (reduced_ h1.hf (Nat.le_refl _) (by omega) hok (by rw [chosM_len]; omega)) ?_))))
      refine stp ?_
      rw [← always_iff h1.hf h1.red hj]
      exact congrArg some (decide_eq_decide.2 (by dsimp only; omega))
    · rw [sieve_succ]
      have := sieve_len (fun q => hasB p (l + r) R.2.2 (unitN (l + r) q)) j
      try dsimp only at this ⊢
      cases hasB p (l + r) R.2.2 (unitN (l + r) j) with
      | false => rfl
      | true => exact cTW rfl (bnd (appO_of (by simp; omega)) rfl)
theorem specAlwaysInputs (p : Int) (R : Rel) : F_spec_AlwaysInputs p R = some (wAlwaysInputs p R) := by
  have hm : maxN = 1099511627776 := rfl
  refine bnd (rlGood_ p R) (stp ?_)
  unfold wAlwaysInputs
  cases h : rlB p R with
  | false => rfl
  | true =>
    obtain ⟨l, r, h1⟩ := rlB_ok h
    have := h1.n24; have := h1.len
    have e1 := h1.left; have e2 := h1.right
    rw [show (R.1 + R.2.1).toNat = l + r by omega]
    refine cFW rfl (bnd (addO_of (by omega) (by omega)) (bnd (whileO_is (fun j => (sieve (fun q => hasB p (l + r) R.2.2 (unitN (l + r) q)) j, (j : Int))) (t := sieve (fun q => hasB p (l + r) R.2.2 (unitN (l + r) q)) (l + r)) (l + r) ?_ ?_) rfl))
    · intro j hj
      dsimp only
      rw [show R.1 + R.2.1 = ((l + r : Nat) : Int) by omega]
      refine stp (cTW (dT (by omega)) (bnd (ssUnit_ hj (by omega)) (bnd (spHas_ h1.hf h1.red (unitN_ok (fdB_rng h1.hf).1 _ _) (by omega) (by omega)) ?_)))
      rw [sieve_succ]
      have := sieve_len (fun q => hasB p (l + r) R.2.2 (unitN (l + r) q)) j
      try dsimp only at this ⊢
      cases hasB p (l + r) R.2.2 (unitN (l + r) j) with
      | false => exact cFW rfl (bnd (addO_of (by omega) (by omega)) rfl)
      | true => exact cTW rfl (bnd (appO_of (by simp; omega)) (bnd (addO_of (by omega) (by omega)) rfl))
    · dsimp only
      rw [show R.1 + R.2.1 = ((l + r : Nat) : Int) by omega]
      exact stp (cFW (dF (by omega)) rfl)
theorem boundAlwaysInputs_0 (p : Int) (R : Rel) : (wAlwaysInputs p R).1.length ≤ 1048576 := by
  unfold wAlwaysInputs
  split
  · rename_i h
    obtain ⟨l, r, h1⟩ := rlB_ok h
    have := h1.n24
    rw [h1.left, h1.right, show ((l : Int) + (r : Int)).toNat = l + r by omega]
    have := sieve_len (fun q => hasB p (l + r) R.2.2 (unitN (l + r) q)) (l + r)
    show (sieve (fun q => hasB p (l + r) R.2.2 (unitN (l + r) q)) (l + r)).length ≤ _
    omega
  · simp
end Go.Proofs.YteikcdofblclhaaDoor
