/-
  Plain functions on numbers and lists: elements of a field, sequences continued by a recurrence. No condition; no program in sight.
-/
namespace Go.Proofs.YtgnlfjlenjfffaaDoor

def goodP (p : Int) : Bool := [2, 3, 5, 7, 11, 13, 17, 19, 23, 29, 31, 37, 41, 43, 47, 53, 59, 61, 67, 71, 73, 79, 83, 89, 97].contains p
theorem goodP_bd {p : Int} (h : goodP p = true) : 2 ≤ p ∧ p ≤ 97 := by
  have : ∀ x ∈ ([2, 3, 5, 7, 11, 13, 17, 19, 23, 29, 31, 37, 41, 43, 47, 53, 59, 61, 67, 71, 73, 79, 83, 89, 97] : List Int), 2 ≤ x ∧ x ≤ 97 := by decide
  exact this p (by simpa [goodP] using h)
def elI (p a : Int) : Bool := decide (0 ≤ a) && decide (a < p)
def allEl (p : Int) (l : List Int) : Bool := l.all (elI p)
theorem elI_iff {p a : Int} : elI p a = true ↔ 0 ≤ a ∧ a < p := by simp [elI]
theorem allEl_get {p : Int} {l : List Int} (h : allEl p l = true) {i : Nat} (hi : i < l.length) : 0 ≤ l[i] ∧ l[i] < p := by
  have := List.all_eq_true.1 h l[i] (List.getElem_mem _)
  exact elI_iff.1 this
theorem tmod_bd (a p : Int) (hp : 0 < p) : -p < a.tmod p ∧ a.tmod p < p := by
  refine ⟨?_, Int.tmod_lt_of_pos _ hp⟩
  have := Int.tmod_lt_of_pos (-a) hp
  rw [Int.neg_tmod] at this; omega
theorem tmod_emod {a p : Int} (ha : 0 ≤ a) : a.tmod p = a % p := Int.tmod_eq_emod_of_nonneg ha
/-- the least k with k*k > p was reached without a divisor, or a divisor was met -/
theorem goodP_div : ∀ p : Fin 98, ∀ k : Fin 11, 2 ≤ k.val → k.val * k.val ≤ p.val → p.val % k.val = 0 → goodP p.val = false := by decide
theorem goodP_none : ∀ p : Fin 98, ∀ k : Fin 11, 2 ≤ p.val → p.val < k.val * k.val → (∀ j : Fin 11, 2 ≤ j.val → j.val < k.val → p.val % j.val ≠ 0) → goodP p.val = true := by decide
theorem goodP_small : ∀ p : Fin 98, 2 ≤ p.val → goodP p.val = [2, 3, 5, 7].all fun q => !(decide (p.val % q = 0) && !decide (p.val = q)) := by decide
theorem goodP_out {p : Int} (h : ¬ (2 ≤ p ∧ p ≤ 97)) : goodP p = false := by
  rw [Bool.eq_false_iff]; exact fun h' => h (goodP_bd h')
end Go.Proofs.YtgnlfjlenjfffaaDoor
