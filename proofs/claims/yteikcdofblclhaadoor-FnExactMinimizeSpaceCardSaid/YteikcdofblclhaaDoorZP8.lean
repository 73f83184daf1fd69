/-
  Plain law of MarkovParameters: the law's partial function yields true. No program in sight. No condition.
-/
import Derived.Test.YteikcdofblclhaaDoorZP7
namespace Go.Proofs.YteikcdofblclhaaDoor

theorem tot_le {α : Type} {n : α → Nat} {c : Nat} {l : List α} (h : ∀ a ∈ l, n a ≤ c) : tot n l ≤ l.length * c := by
  induction l with
  | nil => simp [tot]
  | cons a l ih =>
    rw [tot_cons, List.length_cons, Nat.succ_mul]
    have := ih (fun x hx => h x (List.mem_cons_of_mem _ hx))
    have := h a (List.mem_cons_self ..)
    omega

end Go.Proofs.YteikcdofblclhaaDoor
