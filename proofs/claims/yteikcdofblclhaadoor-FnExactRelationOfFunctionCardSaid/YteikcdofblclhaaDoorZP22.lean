/-
  Plain laws: rows beside rows in a reduction; choices of inputs and their functions. No program in sight. No condition.
-/
import Derived.Test.YteikcdofblclhaaDoorZP21
namespace Go.Proofs.YteikcdofblclhaaDoor
set_option linter.unusedVariables false

/-! ### rows beside rows -/

/-! ### choices -/
theorem rest_len {l : List Int} {n : Nat} (hl : Ports l n) : l.length + (restL l n).length = n := by
  have key : ∀ k, k ≤ n → ((List.range k).filter fun q : Nat => decide ((q : Int) ∈ l)).length + (sieve (notIn l) k).length = k := by
    intro k
    induction k with
    | zero => intro _; rfl
    | succ k ih =>
      intro hk
      have := ih (by omega)
      rw [List.range_succ, List.filter_append, List.length_append, sieve_succ]
      unfold notIn at this ⊢
      by_cases h : (k : Int) ∈ l
      · simp [h] at this ⊢; omega
      · simp [h] at this ⊢; omega
  have e : ((List.range n).filter fun q : Nat => decide ((q : Int) ∈ l)).length = l.length := by
    have h1 : ((List.range n).filter fun q : Nat => decide ((q : Int) ∈ l)).map (fun q : Nat => (q : Int)) = l := by
      have hs : Ports (sieve (fun q => decide ((q : Int) ∈ l)) n) n := sieve_ports _ n
      change sieve (fun q => decide ((q : Int) ∈ l)) n = l
      -- two increasing lists with the same members
      have hmem : ∀ x, x ∈ sieve (fun q => decide ((q : Int) ∈ l)) n ↔ x ∈ l := fun x => by
        rw [sieve_mem]
        constructor
        · rintro ⟨q, rfl, h1, h2⟩; exact of_decide_eq_true h2
        · intro h
          obtain ⟨k, hk, rfl⟩ := mem_el.1 h
          have := hl.rng k hk
          exact ⟨(el l k).toNat, by omega, by omega, dT (by rw [show (((el l k).toNat : Nat) : Int) = el l k by omega]; exact h)⟩
      exact inc_ext hs.inc hl.inc hmem
    have := congrArg List.length h1
    rw [List.length_map] at this; exact this
  have := key n (Nat.le_refl _)
  unfold restL
  omega
where
  inc_ext {a b : List Int} (ha : ∀ i j, i < j → j < a.length → el a i < el a j) (hb : ∀ i j, i < j → j < b.length → el b i < el b j) (hm : ∀ x, x ∈ a ↔ x ∈ b) : a = b := by
    have key : ∀ k, (∀ i, i < k → i < a.length → i < b.length ∧ el a i = el b i) ∧ (∀ i, i < k → i < b.length → i < a.length ∧ el a i = el b i) := by
      have one : ∀ (a b : List Int), (∀ i j, i < j → j < a.length → el a i < el a j) → (∀ i j, i < j → j < b.length → el b i < el b j) → (∀ x, x ∈ a ↔ x ∈ b) → ∀ k, (∀ i, i < k → i < a.length → i < b.length ∧ el a i = el b i) → (∀ i, i < k → i < b.length → i < a.length ∧ el a i = el b i) → k < a.length → k < b.length ∧ el b k ≤ el a k := by
        intro a b ha hb hm k h1 h2 hk
        obtain ⟨t, ht, e⟩ := mem_el.1 ((hm _).1 (el_mem hk))
        have hkt : k ≤ t := by
          apply Classical.byContradiction
          intro hlt
          have := (h2 t (by omega) ht)
          have := ha t k (by omega) hk
          omega
        refine ⟨by omega, ?_⟩
        rcases Nat.lt_or_ge k t with h | h
        · have := hb k t h ht; omega
        · have hkt2 : t = k := by omega
          subst hkt2; omega
      intro k
      induction k with
      | zero => exact ⟨fun i hi => by omega, fun i hi => by omega⟩
      | succ k ih =>
        obtain ⟨h1, h2⟩ := ih
        constructor
        · intro i hi hia
          rcases Nat.lt_or_ge i k with h | h
          · exact h1 i h hia
          · have hik : i = k := by omega
            subst hik
            obtain ⟨q1, q2⟩ := one a b ha hb hm i h1 h2 hia
            obtain ⟨q3, q4⟩ := one b a hb ha (fun x => (hm x).symm) i (fun t ht hb' => by obtain ⟨z1, z2⟩ := h2 t ht hb'; exact ⟨z1, z2.symm⟩) (fun t ht ha' => by obtain ⟨z1, z2⟩ := h1 t ht ha'; exact ⟨z1, z2.symm⟩) q1
            exact ⟨q1, by omega⟩
        · intro i hi hib
          rcases Nat.lt_or_ge i k with h | h
          · exact h2 i h hib
          · have hik : i = k := by omega
            subst hik
            obtain ⟨q1, q2⟩ := one b a hb ha (fun x => (hm x).symm) i (fun t ht hb' => by obtain ⟨z1, z2⟩ := h2 t ht hb'; exact ⟨z1, z2.symm⟩) (fun t ht ha' => by obtain ⟨z1, z2⟩ := h1 t ht ha'; exact ⟨z1, z2.symm⟩) hib
            obtain ⟨q3, q4⟩ := one a b ha hb hm i h1 h2 q1
            exact ⟨q1, by omega⟩
    have hl : a.length = b.length := by
      rcases Nat.lt_trichotomy a.length b.length with h | h | h
      · have := ((key (a.length + 1)).2 a.length (by omega) h).1; omega
      · exact h
      · have := ((key (b.length + 1)).1 b.length (by omega) h).1; omega
    exact ext_el hl fun j hj => ((key (j + 1)).1 j (by omega) hj).2
end Go.Proofs.YteikcdofblclhaaDoor
