/-
  Plain laws of the loops that a law's helpers use: sizes, copies, comparisons, marks. No program in sight. No condition.
-/
import Derived.Test.YtgfnophfoccamaaZP1
namespace Go.Proofs.Ytgfnophfoccamaa

def tot {α : Type} (n : α → Nat) (l : List α) : Nat := (l.map n).sum
theorem tot_nil {α : Type} (n : α → Nat) : tot n [] = 0 := rfl
theorem tot_cons {α : Type} (n : α → Nat) (a : α) (l : List α) : tot n (a :: l) = n a + tot n l := by simp [tot]
theorem get_app {α : Type} (pre rest : List α) (a : α) : (pre ++ a :: rest)[pre.length]? = some a := by simp
theorem set_app {α : Type} (pre rest : List α) (a b : α) : (pre ++ a :: rest).set pre.length b = pre ++ b :: rest := by simp
theorem app1 {α : Type} (pre rest : List α) (a : α) : pre ++ a :: rest = (pre ++ [a]) ++ rest := by simp
theorem len1 {α : Type} (pre : List α) (a : α) : (((pre ++ [a]).length : Nat) : Int) = (pre.length : Int) + 1 := by simp

def bigN : Int := 4611686018427387904

theorem sz_loop {α : Type} (n : α → Nat) {f : Int × Int → Option ((Int × Int) ⊕ (Int ⊕ Int))} (L : List α) (B : Int)
    (hf : ∀ (j : Nat) (a : α) (s : Int), L[j]? = some a → j < L.length → 0 ≤ s → s ≤ B → f (s, (j : Int)) = some (if (n a : Int) ≤ s then .inl (s - n a, (j : Int) + 1) else .inr (.inr (-1))))
    (he : ∀ s : Int, f (s, (L.length : Int)) = some (.inr (.inl s))) : ∀ (rest pre : List α) (s : Int), L = pre ++ rest → 0 ≤ s → s ≤ B → whileO f (s, (pre.length : Int)) = some (if (tot n rest : Int) ≤ s then .inl (s - tot n rest) else .inr (-1))
  | [], pre, s, hL, h0, _ => by
    have := he s
    rw [hL, List.append_nil] at this
    rw [whileO_end this, tot_nil, if_pos (by omega)]; simp
  | a :: rest, pre, s, hL, h0, hB => by
    have h1 := hf pre.length a s (by rw [hL]; exact get_app _ _ _) (by rw [hL]; simp) h0 hB
    by_cases h : (n a : Int) ≤ s
    · rw [if_pos h] at h1
      have ih := sz_loop n L B hf he rest (pre ++ [a]) (s - n a) (by rw [hL, app1]) (by omega) (by omega)
      rw [len1] at ih
      rw [whileO_step h1, ih, tot_cons]
      by_cases h2 : (tot n rest : Int) ≤ s - n a
      · rw [if_pos h2, if_pos (by omega)]; congr 2; omega
      · rw [if_neg h2, if_neg (by omega)]
    · rw [if_neg h] at h1
      rw [whileO_end h1, tot_cons, if_neg (by omega)]

theorem to_loop {α : Type} (z : α) {f : List α × Int → Option ((List α × Int) ⊕ List α)} (L : List α)
    (hf : ∀ (j : Nat) (a : α) (s : List α), L[j]? = some a → j < L.length → s.length = L.length → f (s, (j : Int)) = some (.inl (s.set j a, (j : Int) + 1)))
    (he : ∀ s : List α, s.length = L.length → f (s, (L.length : Int)) = some (.inr s)) : ∀ (rest pre : List α), L = pre ++ rest → whileO f (pre ++ List.replicate rest.length z, (pre.length : Int)) = some L
  | [], pre, hL => by
    rw [List.append_nil] at hL
    have := he pre (by rw [hL])
    rw [hL] at this
    have h2 : pre ++ List.replicate ([] : List α).length z = pre := by simp
    rw [h2, hL, whileO_end this]
  | a :: rest, pre, hL => by
    have h1 := hf pre.length a (pre ++ z :: List.replicate rest.length z) (by rw [hL]; exact get_app _ _ _) (by rw [hL]; simp) (by rw [hL]; simp)
    have ih := to_loop z L hf he rest (pre ++ [a]) (by rw [hL, app1])
    rw [set_app, app1 pre _ a, ← len1 pre a] at h1
    rw [List.length_cons, List.replicate_succ]
    rw [whileO_step h1, ih]

theorem eq_loop {α : Type} [DecidableEq α] {f : Int → Option (Int ⊕ (Unit ⊕ Bool))} (L M : List α)
    (hf : ∀ (j : Nat) (a b : α), L[j]? = some a → M[j]? = some b → j < L.length → f (j : Int) = some (if a = b then .inl ((j : Int) + 1) else .inr (.inr false)))
    (he : f (L.length : Int) = some (.inr (.inl ()))) : ∀ (rest rest' pre pre' : List α), L = pre ++ rest → M = pre' ++ rest' → pre.length = pre'.length → rest.length = rest'.length → whileO f (pre.length : Int) = some (if rest = rest' then .inl () else .inr false)
  | [], [], pre, pre', hL, _, _, _ => by
    rw [hL, List.append_nil] at he
    rw [whileO_end he]; rfl
  | [], _ :: _, _, _, _, _, _, h => by simp at h
  | _ :: _, [], _, _, _, _, _, h => by simp at h
  | a :: rest, b :: rest', pre, pre', hL, hM, hp, hr => by
    have h1 := hf pre.length a b (by rw [hL]; exact get_app _ _ _) (by rw [hM, hp]; exact get_app _ _ _) (by rw [hL]; simp)
    by_cases h : a = b
    · rw [if_pos h] at h1
      have ih := eq_loop L M hf he rest rest' (pre ++ [a]) (pre' ++ [b]) (by rw [hL, app1]) (by rw [hM, app1]) (by simp [hp]) (by simpa using hr)
      rw [len1] at ih
      rw [whileO_step h1, ih]
      by_cases h2 : rest = rest'
      · rw [if_pos h2, if_pos (by rw [h, h2])]
      · rw [if_neg h2, if_neg (by intro h3; exact h2 (List.cons.inj h3).2)]
    · rw [if_neg h] at h1
      rw [whileO_end h1, if_neg (by intro h3; exact h (List.cons.inj h3).1)]

def mkL {α : Type} (mk : α → Int → α × Int) : List α → Int → List α × Int
  | [], k => ([], k)
  | a :: l, k => ((mk a k).1 :: (mkL mk l (mk a k).2).1, (mkL mk l (mk a k).2).2)
theorem mkL_len {α : Type} (mk : α → Int → α × Int) : ∀ (l : List α) (k : Int), (mkL mk l k).1.length = l.length
  | [], _ => rfl
  | a :: l, k => by show (mkL mk l _).1.length + 1 = l.length + 1; rw [mkL_len mk l]
theorem mkL_snd {α : Type} (mk : α → Int → α × Int) (n : α → Nat) (hmk : ∀ a k, (mk a k).2 = k + n a) : ∀ (l : List α) (k : Int), (mkL mk l k).2 = k + tot n l
  | [], k => by simp [mkL, tot]
  | a :: l, k => by
    show (mkL mk l (mk a k).2).2 = _
    rw [mkL_snd mk n hmk l, hmk, tot_cons]; omega

theorem mark_loop {α : Type} (Pr : α → Prop) (mk : α → Int → α × Int) (n : α → Nat) (hmk : ∀ a k, (mk a k).2 = k + n a) {f : List α × Int × Int → Option ((List α × Int × Int) ⊕ (List α × Int))} (N : Nat) (B : Int)
    (hf : ∀ (j : Nat) (a : α) (s : List α) (q : Int), s[j]? = some a → Pr a → s.length = N → j < N → 0 ≤ q → q + n a ≤ B → f (s, q, (j : Int)) = some (.inl (s.set j (mk a q).1, (mk a q).2, (j : Int) + 1)))
    (he : ∀ (s : List α) (q : Int), s.length = N → f (s, q, (N : Int)) = some (.inr (s, q))) : ∀ (rest pre : List α) (q : Int), pre.length + rest.length = N → (∀ a ∈ rest, Pr a) → 0 ≤ q → q + tot n rest ≤ B → whileO f (pre ++ rest, q, (pre.length : Int)) = some (pre ++ (mkL mk rest q).1, (mkL mk rest q).2)
  | [], pre, q, hN, _, _, _ => by
    have h1 : pre.length = N := by simpa using hN
    have := he pre q h1
    rw [← h1] at this
    rw [List.append_nil, whileO_end this]; simp [mkL]
  | a :: rest, pre, q, hN, hP, h0, hB => by
    rw [tot_cons] at hB
    have h1 := hf pre.length a (pre ++ a :: rest) q (get_app _ _ _) (hP a (List.mem_cons_self ..)) (by simpa using hN) (by simp at hN; omega) h0 (by omega)
    have ih := mark_loop Pr mk n hmk N B hf he rest (pre ++ [(mk a q).1]) (mk a q).2 (by simp at hN ⊢; omega) (fun b hb => hP b (List.mem_cons_of_mem _ hb)) (by rw [hmk]; omega) (by rw [hmk]; omega)
    rw [set_app, app1 pre rest (mk a q).1, ← len1 pre (mk a q).1] at h1
    rw [whileO_step h1, ih]
    simp [mkL]

theorem held_loop {α : Type} (Pr : α → Prop) (mk : α → Int → α × Int) (n : α → Nat) (hmk : ∀ a k, (mk a k).2 = k + n a) {f : Int × Int → Option ((Int × Int) ⊕ (Int ⊕ Int))} (L : List α) (B : Int)
    (hf : ∀ (j : Nat) (a : α) (q : Int), L[j]? = some (mk a q).1 → Pr a → j < L.length → 0 ≤ q → q + n a ≤ B → f (q, (j : Int)) = some (.inl (q + n a, (j : Int) + 1)))
    (he : ∀ q : Int, f (q, (L.length : Int)) = some (.inr (.inl q))) : ∀ (rest pre : List α) (q : Int), L = pre ++ (mkL mk rest q).1 → (∀ a ∈ rest, Pr a) → 0 ≤ q → q + tot n rest ≤ B → whileO f (q, (pre.length : Int)) = some (.inl (q + tot n rest))
  | [], pre, q, hL, _, _, _ => by
    have := he q
    rw [hL] at this
    have h2 : pre ++ (mkL mk [] q).1 = pre := by simp [mkL]
    rw [h2] at this
    rw [whileO_end this, tot_nil]; simp
  | a :: rest, pre, q, hL, hP, h0, hB => by
    rw [tot_cons] at hB
    have hL' : L = pre ++ (mk a q).1 :: (mkL mk rest (q + n a)).1 := by rw [hL]; show _ = _; rw [← hmk]; rfl
    have h1 := hf pre.length a q (by rw [hL']; exact get_app _ _ _) (hP a (List.mem_cons_self ..)) (by rw [hL']; simp) h0 (by omega)
    have ih := held_loop Pr mk n hmk L B hf he rest (pre ++ [(mk a q).1]) (q + n a) (by rw [hL', app1]) (fun b hb => hP b (List.mem_cons_of_mem _ hb)) (by omega) (by omega)
    rw [len1] at ih
    rw [whileO_step h1, ih, tot_cons]; congr 2; omega
end Go.Proofs.Ytgfnophfoccamaa
