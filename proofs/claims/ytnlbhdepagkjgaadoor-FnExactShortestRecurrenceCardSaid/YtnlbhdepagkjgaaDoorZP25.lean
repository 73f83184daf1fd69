/-
  Plain laws: the states that are reached; realizations of a response. No program in sight. No condition.
-/
import Derived.Test.YtnlbhdepagkjgaaDoorZP20
import Derived.Test.YtnlbhdepagkjgaaDoorZP14
import Derived.Test.YtnlbhdepagkjgaaDoorZP9
import Derived.Test.YtnlbhdepagkjgaaDoorZLem1
namespace Go.Proofs.YtnlbhdepagkjgaaDoor
set_option linter.unusedVariables false

/-! ### rows after rows -/
theorem gr_app1 {a b : Rows} {i : Nat} (h : i < a.length) : gr (a ++ b) i = gr a i := by
  unfold gr; rw [List.getD_eq_getElem?_getD, List.getD_eq_getElem?_getD, List.getElem?_append_left h]
theorem gr_app2 {a b : Rows} (i : Nat) : gr (a ++ b) (a.length + i) = gr b i := by
  unfold gr; rw [List.getD_eq_getElem?_getD, List.getD_eq_getElem?_getD, List.getElem?_append_right (by omega), Nat.add_sub_cancel_left]
theorem okM_app {p : Int} {n : Nat} {a b : Rows} (h1 : okM p n a) (h2 : okM p n b) : okM p n (a ++ b) :=
  fun r hr => (List.mem_append.1 hr).elim (h1 r) (h2 r)

/-! ### the states that are reached -/
section
variable {p : Int} {n : Nat} {A B : Rows}
theorem first_of {P : Nat → Prop} [DecidablePred P] : ∀ d, (∀ j, j < d → ¬ P j) ∨ ∃ k, k < d ∧ (∀ j, j < k → ¬ P j) ∧ P k
  | 0 => .inl (fun j hj => by omega)
  | d + 1 => by
    rcases first_of (P := P) d with h | ⟨k, h1, h2, h3⟩
    · by_cases hd : P d
      · exact .inr ⟨d, by omega, h, hd⟩
      · exact .inl (fun j hj => by
          by_cases hjd : j = d
          · rw [hjd]; exact hd
          · exact h j (by omega))
    · exact .inr ⟨k, by omega, h2, h3⟩
end

/-! ### realizations -/
end Go.Proofs.YtnlbhdepagkjgaaDoor
