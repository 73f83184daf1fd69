/-
  Plain laws of the loops that a law's helpers use: sizes, copies, comparisons, marks. No program in sight. No condition.
-/
import Derived.Test.YtciiinolpaohpaaDoorZP1
namespace Go.Proofs.YtciiinolpaohpaaDoor

def tot {α : Type} (n : α → Nat) (l : List α) : Nat := (l.map n).sum
theorem tot_nil {α : Type} (n : α → Nat) : tot n [] = 0 := rfl
theorem tot_cons {α : Type} (n : α → Nat) (a : α) (l : List α) : tot n (a :: l) = n a + tot n l := by simp [tot]
theorem get_app {α : Type} (pre rest : List α) (a : α) : (pre ++ a :: rest)[pre.length]? = some a := by simp
theorem set_app {α : Type} (pre rest : List α) (a b : α) : (pre ++ a :: rest).set pre.length b = pre ++ b :: rest := by simp
theorem app1 {α : Type} (pre rest : List α) (a : α) : pre ++ a :: rest = (pre ++ [a]) ++ rest := by simp
theorem len1 {α : Type} (pre : List α) (a : α) : (((pre ++ [a]).length : Nat) : Int) = (pre.length : Int) + 1 := by simp

def bigN : Int := 4611686018427387904

theorem sz_loop {α : Type} (n : α → Nat) {f : Int × Int → Option ((Int × Int) ⊕ (Int ⊕ Int))} (L : List α) (B : Int)
    (hf : ∀ (j : Nat) (a : α) (s : Int), L[j]? = some a → j < L.length → 0 ≤ s → s ≤ B → f (s, (j : Int)) = some (if (n a : Int) ≤ s then .inl (s - n a, (j : Int) + 1) else .inr (.inr (-1))))
    (he : ∀ s : Int, f (s, (L.length : Int)) = some (.inr (.inl s))) : ∀ (rest pre : List α) (s : Int), L = pre ++ rest → 0 ≤ s → s ≤ B → whileO f (s, (pre.length : Int)) = some (if (tot n rest : Int) ≤ s then .inl (s - tot n rest) else .inr (-1))
  | [], pre, s, hL, h0, _ => by
    have := he s
    rw [hL, List.append_nil] at this
    rw [whileO_end this, tot_nil, if_pos (by omega)]; simp
  | a :: rest, pre, s, hL, h0, hB => by
    have h1 := hf pre.length a s (by rw [hL]; exact get_app _ _ _) (by rw [hL]; simp) h0 hB
    by_cases h : (n a : Int) ≤ s
    · rw [if_pos h] at h1
      have ih := sz_loop n L B hf he rest (pre ++ [a]) (s - n a) (by rw [hL, app1]) (by omega) (by omega)
      rw [len1] at ih
      rw [whileO_step h1, ih, tot_cons]
      by_cases h2 : (tot n rest : Int) ≤ s - n a
      · rw [if_pos h2, if_pos (by omega)]; congr 2; omega
      · rw [if_neg h2, if_neg (by omega)]
    · rw [if_neg h] at h1
      rw [whileO_end h1, tot_cons, if_neg (by omega)]

theorem to_loop {α : Type} (z : α) {f : List α × Int → Option ((List α × Int) ⊕ List α)} (L : List α)
    (hf : ∀ (j : Nat) (a : α) (s : List α), L[j]? = some a → j < L.length → s.length = L.length → f (s, (j : Int)) = some (.inl (s.set j a, (j : Int) + 1)))
    (he : ∀ s : List α, s.length = L.length → f (s, (L.length : Int)) = some (.inr s)) : ∀ (rest pre : List α), L = pre ++ rest → whileO f (pre ++ List.replicate rest.length z, (pre.length : Int)) = some L
  | [], pre, hL => by
    rw [List.append_nil] at hL
    have := he pre (by rw [hL])
    rw [hL] at this
    have h2 : pre ++ List.replicate ([] : List α).length z = pre := by simp
    rw [h2, hL, whileO_end this]
  | a :: rest, pre, hL => by
    have h1 := hf pre.length a (pre ++ z :: List.replicate rest.length z) (by rw [hL]; exact get_app _ _ _) (by rw [hL]; simp) (by rw [hL]; simp)
    have ih := to_loop z L hf he rest (pre ++ [a]) (by rw [hL, app1])
    rw [set_app, app1 pre _ a, ← len1 pre a] at h1
    rw [List.length_cons, List.replicate_succ]
    rw [whileO_step h1, ih]

end Go.Proofs.YtciiinolpaohpaaDoor
