/-
  Plain laws: ports, choices of inputs and their functions. No program in sight. No condition.
-/
import Derived.Test.YteikcdofblclhaaDoorZP18
import Derived.Test.YteikcdofblclhaaDoorZP19
import Derived.Test.YteikcdofblclhaaDoorZP20
namespace Go.Proofs.YteikcdofblclhaaDoor
set_option linter.unusedVariables false

/-! ### lists of ports -/
def allN (Q : Nat → Bool) : Nat → Nat → Bool
  | _, 0 => true
  | k, n + 1 => Q k && allN Q (k + 1) n
theorem allN_true {Q : Nat → Bool} : ∀ {n k : Nat}, allN Q k n = true ↔ ∀ j, k ≤ j → j < k + n → Q j = true
  | 0, k => ⟨fun _ j h1 h2 => by omega, fun _ => rfl⟩
  | n + 1, k => by
    show (Q k && allN Q (k + 1) n) = true ↔ _
    rw [Bool.and_eq_true, allN_true]
    constructor
    · rintro ⟨h1, h2⟩ j h3 h4
      rcases Nat.lt_or_ge k j with h5 | h5
      · exact h2 j h5 (by omega)
      · rw [show j = k by omega]; exact h1
    · intro h; exact ⟨h k (Nat.le_refl _) (by omega), fun j h1 h2 => h j (by omega) (by omega)⟩
theorem forO_allN {τ : Type} {f : Nat → Unit → Option (Unit ⊕ τ)} {t : τ} (Q : Nat → Bool) : ∀ (n k : Nat), (∀ j, k ≤ j → j < k + n → f j () = some (if Q j then .inl () else .inr t)) → forO f n k () = some (if allN Q k n then .inl () else .inr t)
  | 0, k, _ => rfl
  | n + 1, k, h => by
    show (f k ()).bind _ = _
    rw [h k (Nat.le_refl _) (by omega)]
    show _ = some (if (Q k && allN Q (k + 1) n) = true then _ else _)
    cases hQ : Q k with
    | false => rfl
    | true =>
      rw [Bool.true_and]
      exact forO_allN Q n (k + 1) (fun j h1 h2 => h j (by omega) (by omega))
def portQ (l : List Int) (n : Int) (k : Nat) : Bool := rng (el l k) 0 (n - 1) && !(decide (0 < k) && decide (el l k ≤ el l (k - 1)))
def portB (l : List Int) (n : Int) : Bool := allN (portQ l n) 0 l.length
theorem portBody {l : List Int} {n : Int} {k : Nat} (hn : -1000 ≤ n ∧ n ≤ 1000) (hk : k < l.length) (hl : l.length ≤ 1099511627776) {m : Int → Option Bool} (hm : ∀ a, m a = some (rng a 0 (n - 1))) : ((m (el l k)).bind fun y123 =>
        (some (!y123)).bind fun a126 =>
        cond a126
        (some true)
        ((some (decide ((0 : Int) < ((k : Nat) : Int)))).bind fun a129 =>
          cond a129
          ((subO ((k : Nat) : Int) 1).bind fun a133 =>
            (idxO l a133).bind fun a141 =>
            (some (decide (el l k ≤ a141))).bind fun a143 =>
            some a143)
          (some false))) = some (!portQ l n k) := by
  unfold portQ
  refine bndN (hm _) (fun _ => rfl) (fun _ => stp (cFW rfl (stp ?_)))
  by_cases h0 : 0 < k
  · rw [Bool.not_not, dT h0, Bool.true_and]
    refine cTW (dT (by omega)) (bnd (subO_of (by omega) (by omega)) ?_)
    rw [show (k : Int) - 1 = ((k - 1 : Nat) : Int) by omega]
    exact bnd (idx_el (by omega)) rfl
  · rw [Bool.not_not, dF h0]
    exact cFW (dF (by omega)) rfl
theorem isPortList_ {l : List Int} {n : Int} (hn : -1000 ≤ n ∧ n ≤ 1000) (hl : l.length ≤ 1099511627776) : F_impl_isPortList l n = some (portB l n) := by
  refine sqW (forO_allN (portQ l n) l.length 0 ?_ (t := false)) ?_
  · intro k _ hk
    refine bnd (idx_el (by omega)) (bnd (a := !portQ l n k) (bnd (subO_of (by omega) (by omega)) (portBody hn (by omega) hl (fun a => within_ a 0 (n - 1)))) ?_)
    cases portQ l n k <;> rfl
  · unfold portB; cases allN (portQ l n) 0 l.length <;> rfl
theorem riPorts_ {l : List Int} {n : Int} (hn : -1000 ≤ n ∧ n ≤ 1000) (hl : l.length ≤ 1099511627776) : F_spec_riPorts l n = some (portB l n) := by
  refine bnd (subO_of (by omega) (by omega)) (bnd (a := portB l n) ?_ rfl)
  refine sqW (forO_allN (portQ l n) l.length 0 ?_ (t := false)) ?_
  · intro k _ hk
    refine bnd (idx_el (by omega)) (bnd (a := !portQ l n k) (portBody hn (by omega) hl (fun a => l1In a 0 (n - 1))) ?_)
    cases portQ l n k <;> rfl
  · unfold portB; cases allN (portQ l n) 0 l.length <;> rfl
/-- ports of n, strictly increasing -/
structure Ports (l : List Int) (n : Nat) : Prop where
  rng : ∀ k, k < l.length → 0 ≤ el l k ∧ el l k < (n : Int)
  inc : ∀ i j, i < j → j < l.length → el l i < el l j
theorem portB_ok {l : List Int} {n : Nat} (h : portB l (n : Int) = true) : Ports l n := by
  unfold portB at h
  rw [allN_true] at h
  have h1 : ∀ k, k < l.length → 0 ≤ el l k ∧ el l k < (n : Int) := fun k hk => by
    have := h k (Nat.zero_le _) (by omega)
    unfold portQ at this
    rw [Bool.and_eq_true] at this
    have := rng_true.1 this.1
    omega
  have h2 : ∀ k, 0 < k → k < l.length → el l (k - 1) < el l k := fun k h0 hk => by
    have := h k (Nat.zero_le _) (by omega)
    unfold portQ at this
    rw [Bool.and_eq_true, dT h0, Bool.true_and] at this
    have := this.2
    simp at this; omega
  refine ⟨h1, fun i j hij hj => ?_⟩
  induction j with
  | zero => omega
  | succ j ih =>
    have h3 := h2 (j + 1) (by omega) hj
    rw [Nat.add_sub_cancel] at h3
    rcases Nat.lt_or_ge i j with h4 | h4
    · have := ih h4 (by omega); omega
    · rw [show i = j by omega]; exact h3
theorem mem_el {l : List Int} {x : Int} : x ∈ l ↔ ∃ k, k < l.length ∧ el l k = x := by
  constructor
  · intro h
    obtain ⟨k, hk, rfl⟩ := List.mem_iff_getElem.1 h
    refine ⟨k, hk, ?_⟩
    have := el_get hk
    rw [List.getElem?_eq_getElem hk] at this; exact (Option.some.inj this).symm
  · rintro ⟨k, hk, rfl⟩; exact el_mem hk
theorem Ports.inj {l : List Int} {n : Nat} (h : Ports l n) {i j : Nat} (hi : i < l.length) (hj : j < l.length) (he : el l i = el l j) : i = j := by
  rcases Nat.lt_trichotomy i j with h1 | h1 | h1
  · have := h.inc i j h1 hj; omega
  · exact h1
  · have := h.inc j i h1 hi; omega
theorem Ports.len {l : List Int} {n : Nat} (h : Ports l n) : l.length ≤ n := by
  have key : ∀ k, k < l.length → (k : Int) ≤ el l k := fun k hk => by
    induction k with
    | zero => have := h.rng 0 hk; omega
    | succ k ih => have := ih (by omega); have := h.inc k (k + 1) (by omega) hk; omega
  rcases Nat.eq_zero_or_pos l.length with h0 | h0
  · omega
  · have := key (l.length - 1) (by omega)
    have := (h.rng (l.length - 1) (by omega)).2
    omega

/-! ### the other ports -/
def upL (n : Nat) : List Int := (List.range n).map fun q : Nat => (q : Int)
def notIn (l : List Int) (q : Nat) : Bool := !decide ((q : Int) ∈ l)
def restL (l : List Int) (n : Nat) : List Int := sieve (notIn l) n
theorem upL_len (n : Nat) : (upL n).length = n := by simp [upL]
theorem upL_el {n q : Nat} (h : q < n) : el (upL n) q = (q : Int) := by
  have h1 := el_get (r := upL n) (c := q) (by rw [upL_len]; exact h)
  unfold upL at h1
  rw [List.getElem?_map, List.getElem?_range h] at h1
  exact (Option.some.inj h1).symm
theorem upTo_ {n : Nat} (hn : n ≤ 1048576) : F_impl_upTo (n : Int) = some (upL n) := by
  have hm : maxN = 1099511627776 := rfl
  refine bnd (zeros_ (by omega)) (bnd (a := upL n) ?_ rfl)
  have := forS_is (n := n) (fun k => part (fun j (_ : Int) => (j : Int)) (List.replicate n (0 : Int)) k) (f := fun (k6 : Nat) (s29 : List Int) =>
      (setO s29 ((k6 : Nat) : Int) ((k6 : Nat) : Int)).bind fun a44 =>
      some a44) (by
    intro k hk
    have hk' : k < (List.replicate n (0 : Int)).length := by simpa using hk
    exact bnd (setO_of _ (by rw [part_len]; exact hk')) (congrArg some (part_set (fun j (_ : Int) => (j : Int)) (List.replicate n 0) hk')))
  rw [part0] at this
  have e := partN (fun j (_ : Int) => (j : Int)) (List.replicate n (0 : Int))
  rw [List.length_replicate] at e
  rw [e] at this
  rw [List.length_replicate]
  refine this.trans (congrArg some ?_)
  refine ext_el (by rw [mapR_len, upL_len]; simp) fun j hj => ?_
  rw [mapR_len, List.length_replicate] at hj
  rw [el_mapR (by simpa using hj), upL_el hj]
theorem index_ {l : List Int} {v : Int} : F_slices_Index_int_int l v = some (match l.findIdx? (fun a => decide (v = a)) with | some k => (k : Int) | none => -1) := by
  have key : ∀ (l : List Int) (k : Nat) {f : Nat → Unit → Option (Unit ⊕ Int)}, (∀ j a, l[j]? = some a → f (k + j) () = some (if v = a then .inr ((k + j : Nat) : Int) else .inl ())) →
      forO f l.length k () = some (match l.findIdx? (fun a => decide (v = a)) with | some q => .inr ((k + q : Nat) : Int) | none => .inl ()) := by
    intro l
    induction l with
    | nil => intro k f _; rfl
    | cons a l ih =>
      intro k f h
      show (f k ()).bind _ = _
      have h0 := h 0 a rfl
      rw [Nat.add_zero] at h0
      rw [h0, List.findIdx?_cons]
      by_cases hv : v = a
      · rw [if_pos hv, dT hv]; rfl
      · rw [if_neg hv, dF hv]
        have := ih (k + 1) (f := f) (fun j b hb => by
          have := h (j + 1) b (by simpa using hb)
          rw [show k + 1 + j = k + (j + 1) by omega]; exact this)
        show forO f l.length (k + 1) () = _
        rw [this]
        cases l.findIdx? (fun a => decide (v = a)) with
        | none => rfl
        | some q => simp only [Bool.false_eq_true, if_false, Option.map_some]; rw [show k + 1 + q = k + (q + 1) by omega]
  refine sqW (key l 0 ?_) ?_
  · intro j a hj
    rw [Nat.zero_add]
    refine bnd (idxO_of hj) (stp ?_)
    by_cases hv : v = a
    · rw [if_pos hv]; exact cTW (dT hv) rfl
    · rw [if_neg hv]; exact cFW (dF hv) rfl
  · cases l.findIdx? (fun a => decide (v = a)) with
    | none => rfl
    | some q => show some (((0 + q : Nat)) : Int) = some (q : Int); rw [Nat.zero_add]
theorem findIdx_mem {l : List Int} {v : Int} : (l.findIdx? (fun a => decide (v = a))).isSome = decide (v ∈ l) := by
  induction l with
  | nil => simp
  | cons a l ih =>
    rw [List.findIdx?_cons]
    by_cases h : v = a
    · simp [h]
    · simp only [dF h, Bool.false_eq_true, if_false, Option.isSome_map, ih]
      rw [decide_eq_decide]; simp [h]
theorem contains_ (l : List Int) (v : Int) : F_slices_Contains_int_int l v = some (decide (v ∈ l)) := by
  refine bnd index_ ?_
  rw [← findIdx_mem]
  cases l.findIdx? (fun a => decide (v = a)) with
  | none => rfl
  | some k =>
    show ((some (decide ((0 : Int) ≤ (k : Int)))).bind fun a5 => some a5) = some true
    rw [dT (by omega)]; rfl
theorem l1Has_ (l : List Int) (v : Int) : F_spec_l1Has l v = some (decide (v ∈ l)) := by
  refine sqW (forO_all (fun a => !decide (a = v)) l 0 ?_ (t := true)) ?_
  · intro j a hj
    rw [Nat.zero_add]
    refine bnd (idxO_of hj) (stp ?_)
    by_cases h : a = v
    · rw [dT h]; rfl
    · rw [dF h]; rfl
  · have : (l.all fun a => !decide (a = v)) = !decide (v ∈ l) := by
      rw [Bool.eq_iff_iff, List.all_eq_true]
      constructor
      · intro h
        simp only [Bool.not_eq_true', decide_eq_false_iff_not]
        intro hv
        have := h v hv
        simp at this
      · intro h a ha
        simp only [Bool.not_eq_true', decide_eq_false_iff_not] at h ⊢
        rintro rfl; exact h ha
    rw [this]
    cases decide (v ∈ l) <;> rfl
theorem others_ {l : List Int} {n : Nat} (hn : n ≤ 1048576) : F_impl_others (upL n) l = some (restL l n) := by
  have hm : maxN = 1099511627776 := rfl
  refine bnd (a := restL l n) ?_ rfl
  have := forS_is (n := n) (fun k => sieve (notIn l) k) (f := fun (k6 : Nat) (s58 : List Int) =>
      (idxO (upL n) ((k6 : Nat) : Int)).bind fun a74 =>
      (F_slices_Contains_int_int l a74).bind fun y76 =>
      (some (!y76)).bind fun a79 =>
      cond a79
      ((appO s58 [a74]).bind fun a86 =>
        some a86)
      (some s58)) (by
    intro k hk
    have h1 := idx_el (r := upL n) (c := k) (by rw [upL_len]; exact hk)
    rw [upL_el hk] at h1
    refine bnd h1 (bnd (contains_ l (k : Int)) (stp ?_))
    rw [sieve_succ]
    have := sieve_len (notIn l) k
    unfold notIn
    cases decide ((k : Int) ∈ l) with
    | true => rfl
    | false =>
      refine cTW rfl (bnd (appO_of ?_) rfl)
      have := sieve_len (fun q => !decide ((q : Int) ∈ l)) k
      simp; omega)
  rw [upL_len]
  exact this
theorem riRest_ {l : List Int} {n : Nat} (hn : n ≤ 1048576) : F_spec_riRest l (n : Int) = some (restL l n) := by
  have hm : maxN = 1099511627776 := rfl
  refine bnd (whileO_is (fun k => (sieve (notIn l) k, (k : Int))) (t := restL l n) n ?_ ?_) rfl
  · intro k hk
    dsimp only
    refine stp (cTW (dT (by omega)) (bnd (l1Has_ l (k : Int)) (stp ?_)))
    rw [sieve_succ]
    have := sieve_len (notIn l) k
    unfold notIn at this ⊢
    cases decide ((k : Int) ∈ l) with
    | true => exact cFW rfl (bnd (addO_of (by omega) (by omega)) rfl)
    | false => exact cTW rfl (bnd (appO_of (by simp; omega)) (bnd (addO_of (by omega) (by omega)) rfl))
  · dsimp only; exact stp (cFW (dF (by omega)) rfl)
theorem sieve_mem {P : Nat → Bool} {n : Nat} {x : Int} : x ∈ sieve P n ↔ ∃ q : Nat, x = (q : Int) ∧ q < n ∧ P q = true := by
  unfold sieve
  simp only [List.mem_map, List.mem_filter, List.mem_range]
  constructor
  · rintro ⟨q, ⟨h1, h2⟩, rfl⟩; exact ⟨q, rfl, h1, h2⟩
  · rintro ⟨q, rfl, h1, h2⟩; exact ⟨q, ⟨h1, h2⟩, rfl⟩
theorem sieve_ports (P : Nat → Bool) : ∀ n, Ports (sieve P n) n
  | 0 => ⟨fun k hk => by simp [sieve] at hk, fun i j _ hj => by simp [sieve] at hj⟩
  | n + 1 => by
    have ih := sieve_ports P n
    rw [sieve_succ]
    split
    · have e1 : ∀ k, k < (sieve P n).length → el (sieve P n ++ [(n : Int)]) k = el (sieve P n) k := fun k hk => by
        have := el_get (r := sieve P n ++ [(n : Int)]) (c := k) (by simp; omega)
        rw [List.getElem?_append_left hk, el_get hk] at this
        exact (Option.some.inj this).symm
      have e2 : el (sieve P n ++ [(n : Int)]) (sieve P n).length = (n : Int) := by
        have := el_get (r := sieve P n ++ [(n : Int)]) (c := (sieve P n).length) (by simp)
        rw [List.getElem?_append_right (Nat.le_refl _), Nat.sub_self] at this
        exact (Option.some.inj this).symm
      refine ⟨fun k hk => ?_, fun i j hij hj => ?_⟩
      · rcases Nat.lt_or_ge k (sieve P n).length with h | h
        · rw [e1 k h]; have := ih.rng k h; omega
        · rw [show k = (sieve P n).length by simp at hk; omega, e2]; omega
      · rcases Nat.lt_or_ge j (sieve P n).length with h | h
        · rw [e1 i (by omega), e1 j h]; exact ih.inc i j hij h
        · have hj' : j = (sieve P n).length := by simp at hj; omega
          subst hj'
          rw [e2, e1 i hij]; exact (ih.rng i hij).2
    · exact ⟨fun k hk => by have := ih.rng k hk; omega, ih.inc⟩

/-! ### rows at ports -/
/-- indices below n -/
def below (l : List Int) (n : Nat) : Prop := ∀ k, k < l.length → 0 ≤ el l k ∧ el l k < (n : Int)
theorem below_app {a b : List Int} {n : Nat} (ha : below a n) (hb : below b n) : below (a ++ b) n := by
  intro k hk
  have hm : el (a ++ b) k ∈ a ++ b := el_mem hk
  rcases List.mem_append.1 hm with h | h
  · obtain ⟨j, hj, e⟩ := mem_el.1 h
    rw [← e]; exact ha j hj
  · obtain ⟨j, hj, e⟩ := mem_el.1 h
    rw [← e]; exact hb j hj
theorem rest_below (l : List Int) (n : Nat) : below (restL l n) n := (sieve_ports _ n).rng

/-! ### ports that are always inputs -/
theorem unit_el {n q j : Nat} (hj : j < n) : el (unitN n q) j = if q = j then 1 else 0 := by
  unfold unitN el
  rw [List.getD_eq_getElem?_getD, List.getElem?_set]
  by_cases h : q = j
  · subst h; simp [hj]
  · rw [if_neg h, if_neg h, List.getElem?_replicate, if_pos hj]; rfl
end Go.Proofs.YteikcdofblclhaaDoor
