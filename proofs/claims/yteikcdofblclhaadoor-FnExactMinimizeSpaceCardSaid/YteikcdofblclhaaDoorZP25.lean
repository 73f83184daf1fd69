/-
  Plain laws: the states that are reached; realizations of a response. No program in sight. No condition.
-/
import Derived.Test.YteikcdofblclhaaDoorZP20
import Derived.Test.YteikcdofblclhaaDoorZP14
import Derived.Test.YteikcdofblclhaaDoorZP9
import Derived.Test.YteikcdofblclhaaDoorZLem1
namespace Go.Proofs.YteikcdofblclhaaDoor
set_option linter.unusedVariables false

/-! ### rows after rows -/
theorem gr_app1 {a b : Rows} {i : Nat} (h : i < a.length) : gr (a ++ b) i = gr a i := by
  unfold gr; rw [List.getD_eq_getElem?_getD, List.getD_eq_getElem?_getD, List.getElem?_append_left h]
theorem gr_app2 {a b : Rows} (i : Nat) : gr (a ++ b) (a.length + i) = gr b i := by
  unfold gr; rw [List.getD_eq_getElem?_getD, List.getD_eq_getElem?_getD, List.getElem?_append_right (by omega), Nat.add_sub_cancel_left]
theorem span_app1 {p : Int} {n : Nat} {a b : Rows} : subSpan p n a (a ++ b) := fun i hi => by
  rw [← gr_app1 (b := b) hi]; exact inSpan_row (by rw [List.length_append]; omega)
theorem span_app2 {p : Int} {n : Nat} {a b : Rows} : subSpan p n b (a ++ b) := fun i hi => by
  rw [← gr_app2 (a := a) i]; exact inSpan_row (by rw [List.length_append]; omega)
theorem okM_app {p : Int} {n : Nat} {a b : Rows} (h1 : okM p n a) (h2 : okM p n b) : okM p n (a ++ b) :=
  fun r hr => (List.mem_append.1 hr).elim (h1 r) (h2 r)

/-! ### the states that are reached -/
def rc (p : Int) (n : Nat) (A B : Rows) : Nat → Rows
  | 0 => redM p n B
  | k + 1 => redM p n (rc p n A B k ++ mulM p n (rc p n A B k) A)
section
variable {p : Int} {n : Nat} {A B : Rows}
theorem rc_red (hf : fdB p = true) (hn : n ≤ 200) (hA : okM p n A) (hAl : A.length = n) (hB : okM p n B) : ∀ k, Red p n (rc p n A B k)
  | 0 => redM_red hf hB
  | k + 1 => by
    have hm : maxN = 1099511627776 := rfl
    exact redM_red hf (okM_app (rc_red hf hn hA hAl hB k).ok (mulM_ok (fdB_rng hf) (by omega) hA (rc_red hf hn hA hAl hB k).ok (by omega)))
theorem rc_app (hf : fdB p = true) (hn : n ≤ 200) (hA : okM p n A) (hAl : A.length = n) (hB : okM p n B) (k : Nat) : okM p n (rc p n A B k ++ mulM p n (rc p n A B k) A) := by
  have hm : maxN = 1099511627776 := rfl
  exact okM_app (rc_red hf hn hA hAl hB k).ok (mulM_ok (fdB_rng hf) (by omega) hA (rc_red hf hn hA hAl hB k).ok (by omega))
theorem rc_len (hf : fdB p = true) (hn : n ≤ 200) (hA : okM p n A) (hAl : A.length = n) (hB : okM p n B) : ∀ k, (rc p n A B k).length ≤ n
  | 0 => (redM_ok (n := n) (fdB_rng hf).1 hB).2.2
  | k + 1 => (redM_ok (n := n) (fdB_rng hf).1 (rc_app hf hn hA hAl hB k)).2.2
theorem rc_step (hf : fdB p = true) (hn : n ≤ 200) (hA : okM p n A) (hAl : A.length = n) (hB : okM p n B) (k : Nat) : subSpan p n (rc p n A B k) (rc p n A B (k + 1)) :=
  subSpan_trans span_app1 (redM_span hf (rc_app hf hn hA hAl hB k)).2
theorem rc_stable (hf : fdB p = true) (hn : n ≤ 200) (hA : okM p n A) (hAl : A.length = n) (hB : okM p n B) {k : Nat} (h : (rc p n A B (k + 1)).length = (rc p n A B k).length) : ∀ d, rc p n A B (k + d) = rc p n A B k
  | 0 => rfl
  | d + 1 => by
    have h1 := red_eq (fdB_rng hf).1 (rc_red hf hn hA hAl hB k) (rc_red hf hn hA hAl hB (k + 1)) (rc_step hf hn hA hAl hB k) h.symm
    show redM p n (rc p n A B (k + d) ++ mulM p n (rc p n A B (k + d)) A) = _
    rw [rc_stable hf hn hA hAl hB h d]
    exact h1.symm
theorem rc_grow (hf : fdB p = true) (hn : n ≤ 200) (hA : okM p n A) (hAl : A.length = n) (hB : okM p n B) : ∀ d, (∀ j, j < d → (rc p n A B (j + 1)).length ≠ (rc p n A B j).length) → d ≤ (rc p n A B d).length
  | 0, _ => Nat.zero_le _
  | d + 1, h => by
    have h1 := rc_grow hf hn hA hAl hB d (fun j hj => h j (by omega))
    have h2 := red_len_le (fdB_rng hf).1 (rc_red hf hn hA hAl hB d) (rc_red hf hn hA hAl hB (d + 1)) (rc_step hf hn hA hAl hB d)
    have h3 := h d (by omega)
    omega
theorem first_of {P : Nat → Prop} [DecidablePred P] : ∀ d, (∀ j, j < d → ¬ P j) ∨ ∃ k, k < d ∧ (∀ j, j < k → ¬ P j) ∧ P k
  | 0 => .inl (fun j hj => by omega)
  | d + 1 => by
    rcases first_of (P := P) d with h | ⟨k, h1, h2, h3⟩
    · by_cases hd : P d
      · exact .inr ⟨d, by omega, h, hd⟩
      · exact .inl (fun j hj => by
          by_cases hjd : j = d
          · rw [hjd]; exact hd
          · exact h j (by omega))
    · exact .inr ⟨k, by omega, h2, h3⟩
theorem rc_stop (hf : fdB p = true) (hn : n ≤ 200) (hA : okM p n A) (hAl : A.length = n) (hB : okM p n B) : ∃ k, k ≤ n ∧ (∀ j, j < k → (rc p n A B (j + 1)).length ≠ (rc p n A B j).length) ∧ (rc p n A B (k + 1)).length = (rc p n A B k).length := by
  rcases first_of (P := fun j => (rc p n A B (j + 1)).length = (rc p n A B j).length) (n + 1) with h | ⟨k, h1, h2, h3⟩
  · have h1 := rc_grow hf hn hA hAl hB (n + 1) h
    have h2 := rc_len hf hn hA hAl hB (n + 1)
    omega
  · exact ⟨k, by omega, h2, h3⟩
/-- what the loops compute -/
def rcN (p : Int) (n : Nat) (A B : Rows) : Rows := rc p n A B n
theorem rcN_red (hf : fdB p = true) (hn : n ≤ 200) (hA : okM p n A) (hAl : A.length = n) (hB : okM p n B) : Red p n (rcN p n A B) := rc_red hf hn hA hAl hB n
theorem rcN_len (hf : fdB p = true) (hn : n ≤ 200) (hA : okM p n A) (hAl : A.length = n) (hB : okM p n B) : (rcN p n A B).length ≤ n := rc_len hf hn hA hAl hB n
end
theorem spJoin_ {a b : Rows} (h : a.length + b.length ≤ maxN) : F_spec_spJoin a b = some (a ++ b) :=
  bnd (appO_of (by simp; omega)) (bnd (appO_of (by simp; omega)) rfl)
theorem ssReach_ {p : Int} {n : Nat} {s : SSt} (hf : fdB p = true) (h1 : s.1 = (n : Int)) (hn : n ≤ 200) (hA : okM p n s.2.2.2.1) (hAl : s.2.2.2.1.length = n) (hB : okM p n s.2.2.2.2.1) (hBl : s.2.2.2.2.1.length ≤ 1048576) :
    F_spec_ssReach p s = some (rcN p n s.2.2.2.1 s.2.2.2.2.1) := by
  have hm : maxN = 1099511627776 := rfl
  obtain ⟨s1, ki, ko, A, B, C, D⟩ := s
  dsimp only at h1 hA hAl hB hBl ⊢
  subst h1
  obtain ⟨k, hk, hne, heq⟩ := rc_stop hf hn hA hAl hB
  have hst := rc_stable hf hn hA hAl hB heq (n - k)
  rw [show k + (n - k) = n by omega] at hst
  unfold rcN
  rw [hst]
  have one : ∀ j, F_spec_ssTimes p (n : Int) (rc p n A B j) A = some (mulM p n (rc p n A B j) A) := fun j =>
    ssTimes_ (fdB_rng hf) (by omega) hA (rc_red hf hn hA hAl hB j).ok (by omega) (by have := rc_len hf hn hA hAl hB j; omega)
  have two : ∀ j, F_spec_spJoin (rc p n A B j) (mulM p n (rc p n A B j) A) = some (rc p n A B j ++ mulM p n (rc p n A B j) A) := fun j =>
    spJoin_ (by rw [mulM_len]; have := rc_len hf hn hA hAl hB j; omega)
  have three : ∀ j, F_spec_spReduce p (n : Int) (rc p n A B j ++ mulM p n (rc p n A B j) A) = some (rc p n A B (j + 1)) := fun j =>
    spReduce_ hf (Nat.le_refl n) (by omega) (rc_app hf hn hA hAl hB j) (by rw [List.length_append, mulM_len]; have := rc_len hf hn hA hAl hB j; omega)
  refine bnd (spReduce_ hf (Nat.le_refl n) (by omega) hB hBl) (whileO_is (fun j => rc p n A B j) k ?_ ?_)
  · intro j hj
    exact bnd (one j) (bnd (two j) (bnd (three j) (stp (cFW (dF (by have := hne j hj; omega)) rfl))))
  · exact bnd (one k) (bnd (two k) (bnd (three k) (stp (cTW (dT (by rw [heq])) rfl))))
theorem reachable_ {p : Int} {n : Nat} {s : SSt} (hf : fdB p = true) (h1 : s.1 = (n : Int)) (hn : n ≤ 200) (hA : okM p n s.2.2.2.1) (hAl : s.2.2.2.1.length = n) (hB : okM p n s.2.2.2.2.1) (hBl : s.2.2.2.2.1.length ≤ 1048576) :
    F_impl_StateSpace_reachable s p = some (rcN p n s.2.2.2.1 s.2.2.2.2.1) := by
  have hm : maxN = 1099511627776 := rfl
  obtain ⟨s1, ki, ko, A, B, C, D⟩ := s
  dsimp only at h1 hA hAl hB hBl ⊢
  subst h1
  refine bnd (reduced_ hf (Nat.le_refl n) (by omega) hB hBl) (bnd (cI_of ⟨by omega, by omega⟩) (bnd (forS_is (fun j => rc p n A B j) ?_) rfl))
  intro j hj
  have hl := rc_len hf hn hA hAl hB j
  have hok := (rc_red hf hn hA hAl hB j).ok
  refine bnd (clones_ (by omega) (rowsP_len hok (by omega))) (bnd (product_ (fdB_rng hf) (by omega) hA hok (Nat.le_of_eq hAl) (by omega)) (bnd (appO_of (by rw [mulM_len]; omega)) ?_))
  exact bnd (reduced_ hf (Nat.le_refl n) (by omega) (rc_app hf hn hA hAl hB j) (by rw [List.length_append, mulM_len]; omega)) rfl
theorem ssB_f {p : Int} {s : SSt} (h : ssB p s = true) : fdB p = true := by
  unfold ssB at h
  simp only [Bool.and_eq_true] at h
  exact h.1.1.1.1.1.1.1
theorem SSok.reachS {p : Int} {n k o : Nat} {s : SSt} (h : SSok p n k o s) (hf : fdB p = true) : F_spec_ssReach p s = some (rcN p n s.2.2.2.1 s.2.2.2.2.1) := by
  have := h.hn; have := h.hk; have := h.b.1
  exact ssReach_ hf h.h1 (by omega) h.a.2 h.a.1 h.b.2 (by omega)
theorem SSok.reachI {p : Int} {n k o : Nat} {s : SSt} (h : SSok p n k o s) (hf : fdB p = true) : F_impl_StateSpace_reachable s p = some (rcN p n s.2.2.2.1 s.2.2.2.2.1) := by
  have := h.hn; have := h.hk; have := h.b.1
  exact reachable_ hf h.h1 (by omega) h.a.2 h.a.1 h.b.2 (by omega)

/-! ### realizations -/
end Go.Proofs.YteikcdofblclhaaDoor
