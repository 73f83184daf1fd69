/-
  Plain laws of the partial functions: loops whose states are known, lists read and written. No program in sight. No condition.
-/
import Derived.Test.YtbofgnbanmbopaaGreatDoorZF
import Derived.Test.YtbofgnbanmbopaaGreatDoorZFn
namespace Go.Proofs.YtbofgnbanmbopaaGreatDoor

/-- numbers of Go, lists of lengths of Go -/
class Nice (α : Type) where
  ok : α → Prop
instance : Nice Int := ⟨inI⟩
instance : Nice Bool := ⟨fun _ => True⟩
instance {α : Type} [Nice α] : Nice (List α) := ⟨fun l => (l.length : Int) ≤ 9223372036854775807 ∧ ∀ x ∈ l, Nice.ok x⟩
instance {α β : Type} [Nice α] [Nice β] : Nice (α × β) := ⟨fun x => Nice.ok x.1 ∧ Nice.ok x.2⟩
/-- steps of a partial function -/
theorem stp {α β : Type} {a : α} {k : α → Option β} {y : Option β} (h : k a = y) : (some a).bind k = y := h
theorem bnd {α β : Type} {m : Option α} {a : α} {k : α → Option β} {y : Option β} (h : m = some a) (h2 : k a = y) : m.bind k = y := by rw [h]; exact h2
theorem sqW {σ τ : Type} {m r : Option (σ ⊕ τ)} {k : σ → Option τ} {y : Option τ} (h : m = r) (h2 : seqO r k = y) : seqO m k = y := by rw [h]; exact h2
theorem bndW {α β : Type} {m r : Option α} {k : α → Option β} {y : Option β} (h : m = r) (h2 : r.bind k = y) : m.bind k = y := by rw [h]; exact h2
theorem cTW {α : Type} {c : Bool} {a b y : α} (h : c = true) (h2 : a = y) : cond c a b = y := by rw [h]; exact h2
theorem cFW {α : Type} {c : Bool} {a b y : α} (h : c = false) (h2 : b = y) : cond c a b = y := by rw [h]; exact h2
theorem dT {P : Prop} [Decidable P] (h : P) : decide P = true := decide_eq_true h
theorem dF {P : Prop} [Decidable P] (h : ¬ P) : decide P = false := decide_eq_false h
theorem nT {b : Bool} (h : b = true) : (!b) = false := by rw [h]; rfl
theorem nF {b : Bool} (h : b = false) : (!b) = true := by rw [h]; rfl
theorem bndB {m : Option Bool} {b c : Bool} {k : Bool → Option Bool} (h : m = some b) (h0 : b = false → k false = some false) (h1 : b = true → k true = some c) : m.bind k = some (b && c) := by
  rw [h]
  cases b with
  | false => exact h0 rfl
  | true => exact h1 rfl
theorem bndN {m : Option Bool} {b c : Bool} {k : Bool → Option Bool} (h : m = some b) (h0 : b = false → k false = some true) (h1 : b = true → k true = some (!c)) : m.bind k = some (!(b && c)) := by
  rw [h]
  cases b with
  | false => exact h0 rfl
  | true => exact h1 rfl
theorem cI_of {x : Int} (h : inI x) : cI x = some x := if_pos h
theorem addO_of {a b : Int} (h1 : -9223372036854775808 ≤ a + b) (h2 : a + b ≤ 9223372036854775807) : addO a b = some (a + b) := cI_of ⟨h1, h2⟩
theorem subO_of {a b : Int} (h1 : -9223372036854775808 ≤ a - b) (h2 : a - b ≤ 9223372036854775807) : subO a b = some (a - b) := cI_of ⟨h1, h2⟩
theorem remO_of {a b : Int} (h : b ≠ 0) : remO a b = some (a.tmod b) := if_neg h
theorem idxO_nat {α : Type} (xs : List α) (k : Nat) : idxO xs (k : Int) = xs[k]? := by
  unfold idxO; rw [if_pos (by omega)]; rfl
theorem idxO_of {α : Type} {xs : List α} {k : Nat} {a : α} (h : xs[k]? = some a) : idxO xs (k : Int) = some a := by rw [idxO_nat, h]
theorem setO_of {α : Type} {xs : List α} {k : Nat} (a : α) (h : k < xs.length) : setO xs (k : Int) a = some (xs.set k a) := by
  unfold setO; rw [if_pos (by omega)]; rfl
theorem appO_of {α : Type} {xs ys : List α} (h : xs.length + ys.length ≤ maxN) : appO xs ys = some (xs ++ ys) := if_pos h
theorem makeO_of {α : Type} {n : Nat} (z : α) (h : n ≤ maxN) : makeO (n : Int) z = some (List.replicate n z) := by
  unfold makeO; rw [if_pos (by omega)]; rfl
theorem makeCO_of0 {α : Type} {n : Nat} (z : α) (h : n ≤ maxN) : makeCO 0 (n : Int) z = some [] := by
  unfold makeCO; rw [if_pos (by omega)]; rfl

theorem forS_at {σ : Type} {f : Nat → σ → Option σ} (v : Nat → σ) : ∀ (n k : Nat), (∀ j, k ≤ j → j < k + n → f j (v j) = some (v (j + 1))) → forS f n k (v k) = some (v (k + n))
  | 0, k, _ => rfl
  | n + 1, k, h => by
    show (f k (v k)).bind _ = _
    rw [h k (Nat.le_refl _) (by omega)]
    show forS f n (k + 1) (v (k + 1)) = _
    rw [forS_at v n (k + 1) (fun j h1 h2 => h j (by omega) (by omega))]
    rw [show k + 1 + n = k + (n + 1) by omega]
/-- a loop whose states are known -/
theorem forS_is {σ : Type} {f : Nat → σ → Option σ} {n : Nat} (v : Nat → σ) (h : ∀ j, j < n → f j (v j) = some (v (j + 1))) : forS f n 0 (v 0) = some (v n) := by
  have := forS_at v n 0 (fun j _ h2 => h j (by omega))
  simpa using this
/-- a loop that tests all of a list -/
theorem forO_all {α τ : Type} {f : Nat → Unit → Option (Unit ⊕ τ)} {t : τ} (P : α → Bool) : ∀ (l : List α) (k : Nat), (∀ j a, l[j]? = some a → f (k + j) () = some (if P a then .inl () else .inr t)) → forO f l.length k () = some (if l.all P then .inl () else .inr t)
  | [], k, _ => rfl
  | a :: l, k, h => by
    show (f k ()).bind _ = _
    have h0 : f k () = _ := h 0 a rfl
    rw [h0]
    cases hP : P a with
    | false => simp [hP]
    | true =>
      have := forO_all P l (k + 1) (fun j b hb => by
        have := h (j + 1) b (by simpa using hb)
        rw [show k + 1 + j = k + (j + 1) by omega]; exact this)
      simp only [hP, List.all_cons, Bool.true_and, if_true]
      exact this
theorem whileO_at {σ τ : Type} {f : σ → Option (σ ⊕ τ)} (v : Nat → σ) {t : τ} : ∀ (n k : Nat), (∀ j, k ≤ j → j < k + n → f (v j) = some (.inl (v (j + 1)))) → f (v (k + n)) = some (.inr t) → whileO f (v k) = some t
  | 0, k, _, he => whileO_end he
  | n + 1, k, h, he => by
    rw [whileO_step (h k (Nat.le_refl _) (by omega))]
    refine whileO_at v n (k + 1) (fun j h1 h2 => h j (by omega) (by omega)) ?_
    rw [show k + 1 + n = k + (n + 1) by omega]; exact he
theorem whileO_is {σ τ : Type} {f : σ → Option (σ ⊕ τ)} (v : Nat → σ) {t : τ} (n : Nat) (h : ∀ j, j < n → f (v j) = some (.inl (v (j + 1)))) (he : f (v n) = some (.inr t)) : whileO f (v 0) = some t :=
  whileO_at v n 0 (fun j _ h2 => h j (by omega)) (by simpa using he)

/-- the map of a list: the loop that appends what it makes of each element -/
theorem forS_map {α β : Type} {f : Nat → List β → Option (List β)} (g : α → β) (l : List α) (s : List β) (hb : s.length + l.length ≤ maxN) (h : ∀ j a s', l[j]? = some a → s'.length = s.length + j → f j s' = some (s' ++ [g a])) : forS f l.length 0 s = some (s ++ l.map g) := by
  have := forS_is (f := f) (n := l.length) (fun j => s ++ (l.take j).map g) (fun j hj => by
    rw [h j l[j] _ (List.getElem?_eq_getElem hj) (by simp; omega)]
    simp only [List.append_assoc]
    rw [List.take_add_one, List.getElem?_eq_getElem hj]
    simp only [List.map_append, Option.toList_some, List.map_cons, List.map_nil])
  simpa using this
end Go.Proofs.YtbofgnbanmbopaaGreatDoor
namespace Go.Proofs.YtbofgnbanmbopaaGreatDoor

def tot {α : Type} (n : α → Nat) (l : List α) : Nat := (l.map n).sum
theorem tot_nil {α : Type} (n : α → Nat) : tot n [] = 0 := rfl
theorem tot_cons {α : Type} (n : α → Nat) (a : α) (l : List α) : tot n (a :: l) = n a + tot n l := by simp [tot]
theorem get_app {α : Type} (pre rest : List α) (a : α) : (pre ++ a :: rest)[pre.length]? = some a := by simp
theorem set_app {α : Type} (pre rest : List α) (a b : α) : (pre ++ a :: rest).set pre.length b = pre ++ b :: rest := by simp
theorem app1 {α : Type} (pre rest : List α) (a : α) : pre ++ a :: rest = (pre ++ [a]) ++ rest := by simp
theorem len1 {α : Type} (pre : List α) (a : α) : (((pre ++ [a]).length : Nat) : Int) = (pre.length : Int) + 1 := by simp

def bigN : Int := 4611686018427387904

theorem sz_loop {α : Type} (n : α → Nat) {f : Int × Int → Option ((Int × Int) ⊕ (Int ⊕ Int))} (L : List α) (B : Int)
    (hf : ∀ (j : Nat) (a : α) (s : Int), L[j]? = some a → j < L.length → 0 ≤ s → s ≤ B → f (s, (j : Int)) = some (if (n a : Int) ≤ s then .inl (s - n a, (j : Int) + 1) else .inr (.inr (-1))))
    (he : ∀ s : Int, f (s, (L.length : Int)) = some (.inr (.inl s))) : ∀ (rest pre : List α) (s : Int), L = pre ++ rest → 0 ≤ s → s ≤ B → whileO f (s, (pre.length : Int)) = some (if (tot n rest : Int) ≤ s then .inl (s - tot n rest) else .inr (-1))
  | [], pre, s, hL, h0, _ => by
    have := he s
    rw [hL, List.append_nil] at this
    rw [whileO_end this, tot_nil, if_pos (by omega)]; simp
  | a :: rest, pre, s, hL, h0, hB => by
    have h1 := hf pre.length a s (by rw [hL]; exact get_app _ _ _) (by rw [hL]; simp) h0 hB
    by_cases h : (n a : Int) ≤ s
    · rw [if_pos h] at h1
      have ih := sz_loop n L B hf he rest (pre ++ [a]) (s - n a) (by rw [hL, app1]) (by omega) (by omega)
      rw [len1] at ih
      rw [whileO_step h1, ih, tot_cons]
      by_cases h2 : (tot n rest : Int) ≤ s - n a
      · rw [if_pos h2, if_pos (by omega)]; congr 2; omega
      · rw [if_neg h2, if_neg (by omega)]
    · rw [if_neg h] at h1
      rw [whileO_end h1, tot_cons, if_neg (by omega)]

theorem to_loop {α : Type} (z : α) {f : List α × Int → Option ((List α × Int) ⊕ List α)} (L : List α)
    (hf : ∀ (j : Nat) (a : α) (s : List α), L[j]? = some a → j < L.length → s.length = L.length → f (s, (j : Int)) = some (.inl (s.set j a, (j : Int) + 1)))
    (he : ∀ s : List α, s.length = L.length → f (s, (L.length : Int)) = some (.inr s)) : ∀ (rest pre : List α), L = pre ++ rest → whileO f (pre ++ List.replicate rest.length z, (pre.length : Int)) = some L
  | [], pre, hL => by
    rw [List.append_nil] at hL
    have := he pre (by rw [hL])
    rw [hL] at this
    have h2 : pre ++ List.replicate ([] : List α).length z = pre := by simp
    rw [h2, hL, whileO_end this]
  | a :: rest, pre, hL => by
    have h1 := hf pre.length a (pre ++ z :: List.replicate rest.length z) (by rw [hL]; exact get_app _ _ _) (by rw [hL]; simp) (by rw [hL]; simp)
    have ih := to_loop z L hf he rest (pre ++ [a]) (by rw [hL, app1])
    rw [set_app, app1 pre _ a, ← len1 pre a] at h1
    rw [List.length_cons, List.replicate_succ]
    rw [whileO_step h1, ih]

theorem eq_loop {α : Type} [DecidableEq α] {f : Int → Option (Int ⊕ (Unit ⊕ Bool))} (L M : List α)
    (hf : ∀ (j : Nat) (a b : α), L[j]? = some a → M[j]? = some b → j < L.length → f (j : Int) = some (if a = b then .inl ((j : Int) + 1) else .inr (.inr false)))
    (he : f (L.length : Int) = some (.inr (.inl ()))) : ∀ (rest rest' pre pre' : List α), L = pre ++ rest → M = pre' ++ rest' → pre.length = pre'.length → rest.length = rest'.length → whileO f (pre.length : Int) = some (if rest = rest' then .inl () else .inr false)
  | [], [], pre, pre', hL, _, _, _ => by
    rw [hL, List.append_nil] at he
    rw [whileO_end he]; rfl
  | [], _ :: _, _, _, _, _, _, h => by simp at h
  | _ :: _, [], _, _, _, _, _, h => by simp at h
  | a :: rest, b :: rest', pre, pre', hL, hM, hp, hr => by
    have h1 := hf pre.length a b (by rw [hL]; exact get_app _ _ _) (by rw [hM, hp]; exact get_app _ _ _) (by rw [hL]; simp)
    by_cases h : a = b
    · rw [if_pos h] at h1
      have ih := eq_loop L M hf he rest rest' (pre ++ [a]) (pre' ++ [b]) (by rw [hL, app1]) (by rw [hM, app1]) (by simp [hp]) (by simpa using hr)
      rw [len1] at ih
      rw [whileO_step h1, ih]
      by_cases h2 : rest = rest'
      · rw [if_pos h2, if_pos (by rw [h, h2])]
      · rw [if_neg h2, if_neg (by intro h3; exact h2 (List.cons.inj h3).2)]
    · rw [if_neg h] at h1
      rw [whileO_end h1, if_neg (by intro h3; exact h (List.cons.inj h3).1)]

def mkL {α : Type} (mk : α → Int → α × Int) : List α → Int → List α × Int
  | [], k => ([], k)
  | a :: l, k => ((mk a k).1 :: (mkL mk l (mk a k).2).1, (mkL mk l (mk a k).2).2)
theorem mkL_len {α : Type} (mk : α → Int → α × Int) : ∀ (l : List α) (k : Int), (mkL mk l k).1.length = l.length
  | [], _ => rfl
  | a :: l, k => by show (mkL mk l _).1.length + 1 = l.length + 1; rw [mkL_len mk l]
theorem mkL_snd {α : Type} (mk : α → Int → α × Int) (n : α → Nat) (hmk : ∀ a k, (mk a k).2 = k + n a) : ∀ (l : List α) (k : Int), (mkL mk l k).2 = k + tot n l
  | [], k => by simp [mkL, tot]
  | a :: l, k => by
    show (mkL mk l (mk a k).2).2 = _
    rw [mkL_snd mk n hmk l, hmk, tot_cons]; omega

theorem mark_loop {α : Type} (Pr : α → Prop) (mk : α → Int → α × Int) (n : α → Nat) (hmk : ∀ a k, (mk a k).2 = k + n a) {f : List α × Int × Int → Option ((List α × Int × Int) ⊕ (List α × Int))} (N : Nat) (B : Int)
    (hf : ∀ (j : Nat) (a : α) (s : List α) (q : Int), s[j]? = some a → Pr a → s.length = N → j < N → 0 ≤ q → q + n a ≤ B → f (s, q, (j : Int)) = some (.inl (s.set j (mk a q).1, (mk a q).2, (j : Int) + 1)))
    (he : ∀ (s : List α) (q : Int), s.length = N → f (s, q, (N : Int)) = some (.inr (s, q))) : ∀ (rest pre : List α) (q : Int), pre.length + rest.length = N → (∀ a ∈ rest, Pr a) → 0 ≤ q → q + tot n rest ≤ B → whileO f (pre ++ rest, q, (pre.length : Int)) = some (pre ++ (mkL mk rest q).1, (mkL mk rest q).2)
  | [], pre, q, hN, _, _, _ => by
    have h1 : pre.length = N := by simpa using hN
    have := he pre q h1
    rw [← h1] at this
    rw [List.append_nil, whileO_end this]; simp [mkL]
  | a :: rest, pre, q, hN, hP, h0, hB => by
    rw [tot_cons] at hB
    have h1 := hf pre.length a (pre ++ a :: rest) q (get_app _ _ _) (hP a (List.mem_cons_self ..)) (by simpa using hN) (by simp at hN; omega) h0 (by omega)
    have ih := mark_loop Pr mk n hmk N B hf he rest (pre ++ [(mk a q).1]) (mk a q).2 (by simp at hN ⊢; omega) (fun b hb => hP b (List.mem_cons_of_mem _ hb)) (by rw [hmk]; omega) (by rw [hmk]; omega)
    rw [set_app, app1 pre rest (mk a q).1, ← len1 pre (mk a q).1] at h1
    rw [whileO_step h1, ih]
    simp [mkL]

theorem held_loop {α : Type} (Pr : α → Prop) (mk : α → Int → α × Int) (n : α → Nat) (hmk : ∀ a k, (mk a k).2 = k + n a) {f : Int × Int → Option ((Int × Int) ⊕ (Int ⊕ Int))} (L : List α) (B : Int)
    (hf : ∀ (j : Nat) (a : α) (q : Int), L[j]? = some (mk a q).1 → Pr a → j < L.length → 0 ≤ q → q + n a ≤ B → f (q, (j : Int)) = some (.inl (q + n a, (j : Int) + 1)))
    (he : ∀ q : Int, f (q, (L.length : Int)) = some (.inr (.inl q))) : ∀ (rest pre : List α) (q : Int), L = pre ++ (mkL mk rest q).1 → (∀ a ∈ rest, Pr a) → 0 ≤ q → q + tot n rest ≤ B → whileO f (q, (pre.length : Int)) = some (.inl (q + tot n rest))
  | [], pre, q, hL, _, _, _ => by
    have := he q
    rw [hL] at this
    have h2 : pre ++ (mkL mk [] q).1 = pre := by simp [mkL]
    rw [h2] at this
    rw [whileO_end this, tot_nil]; simp
  | a :: rest, pre, q, hL, hP, h0, hB => by
    rw [tot_cons] at hB
    have hL' : L = pre ++ (mk a q).1 :: (mkL mk rest (q + n a)).1 := by rw [hL]; show _ = _; rw [← hmk]; rfl
    have h1 := hf pre.length a q (by rw [hL']; exact get_app _ _ _) (hP a (List.mem_cons_self ..)) (by rw [hL']; simp) h0 (by omega)
    have ih := held_loop Pr mk n hmk L B hf he rest (pre ++ [(mk a q).1]) (q + n a) (by rw [hL', app1]) (fun b hb => hP b (List.mem_cons_of_mem _ hb)) (by omega) (by omega)
    rw [len1] at ih
    rw [whileO_step h1, ih, tot_cons]; congr 2; omega
end Go.Proofs.YtbofgnbanmbopaaGreatDoor
namespace Go.Proofs.YtbofgnbanmbopaaGreatDoor

def one {α : Type} (_ : α) : Nat := 1
theorem tot_one {α : Type} (l : List α) : tot one l = l.length := by
  induction l with
  | nil => rfl
  | cons a l ih => rw [tot_cons, ih, List.length_cons]; show 1 + _ = _; omega
theorem tot_mem {α : Type} {n : α → Nat} {l : List α} {a : α} (h : a ∈ l) : n a ≤ tot n l := by
  induction l with
  | nil => cases h
  | cons b l ih =>
    rw [tot_cons]
    cases h with
    | head => omega
    | tail _ h => have := ih h; omega
theorem mem_of_get {α : Type} {l : List α} {j : Nat} {a : α} (h : l[j]? = some a) : a ∈ l := List.mem_of_getElem? h

/-- the length of a list is a number of Go -/
def lenOk {α : Type} (l : List α) : Prop := (l.length : Int) ≤ 9223372036854775807

theorem szIntS (a : List Int) (left : Int) (h0 : 0 ≤ left) (h1 : left ≤ bigN) (hl : lenOk a) : F_laws_szIntS a left = some (if (a.length : Int) ≤ left then left - a.length else -1) := by
  unfold lenOk at hl; unfold bigN at h1
  refine bnd (subO_of (by omega) (by omega)) (stp ?_)
  by_cases h : (a.length : Int) ≤ left
  · rw [if_pos h]; exact cFW (dF (by omega)) rfl
  · rw [if_neg h]; exact cTW (dT (by omega)) rfl
def rowN (r : List Int) : Nat := r.length
def rowsN (m : List (List Int)) : Nat := m.length + tot rowN m
def lensOk (m : List (List Int)) : Prop := lenOk m ∧ ∀ r ∈ m, lenOk r
theorem niceLens {m : List (List Int)} (h : Nice.ok m) : lensOk m := ⟨h.1, fun r hr => (h.2 r hr).1⟩
theorem szIntSS (a : List (List Int)) (left : Int) (h0 : 0 ≤ left) (h1 : left ≤ bigN) (hl : lensOk a) : F_laws_szIntSS a left = some (if (rowsN a : Int) ≤ left then left - rowsN a else -1) := by
  have hl1 := hl.1; unfold lenOk at hl1; unfold bigN at h1
  unfold rowsN
  refine bnd (subO_of (by omega) (by omega)) (stp ?_)
  by_cases h : (a.length : Int) ≤ left
  · refine cFW (dF (by omega)) (sqW (sz_loop rowN a (left - a.length) ?_ ?_ a [] _ rfl ?_ (Int.le_refl _)) ?_)
    · intro j r s hj hjl hs hsB
      dsimp only
      refine stp (cTW (dT (by omega)) (bnd (idxO_of hj) (bnd (szIntS r s hs (by unfold bigN; omega) (hl.2 r (mem_of_get hj))) (stp ?_))))
      unfold rowN
      by_cases h2 : (r.length : Int) ≤ s
      · rw [if_pos h2, if_pos h2]; exact cFW (dF (by omega)) (bnd (addO_of (by omega) (by omega)) rfl)
      · rw [if_neg h2, if_neg h2]; exact cTW (dT (by omega)) rfl
    · intro s; dsimp only; exact stp (cFW (dF (by omega)) rfl)
    · omega
    · by_cases h2 : (tot rowN a : Int) ≤ left - a.length
      · rw [if_pos h2, if_pos (by omega), seqO_l]; congr 1; omega
      · rw [if_neg h2, if_neg (by omega), seqO_r]
  · rw [if_neg (by omega)]; exact cTW (dT (by omega)) rfl
theorem toIntS (a : List Int) (hl : a.length ≤ maxN) : F_laws_toIntS a = some a := by
  have hm : maxN = 1099511627776 := rfl
  refine bnd (makeO_of _ hl) (bnd (to_loop (0 : Int) a ?_ ?_ a [] rfl) rfl)
  · intro j x s hj hjl hs
    dsimp only
    exact stp (cTW (dT (by omega)) (bnd (idxO_of hj) (bnd (setO_of _ (by omega)) (bnd (addO_of (by omega) (by omega)) rfl))))
  · intro s hs; dsimp only; exact stp (cFW (dF (by omega)) rfl)
theorem toIntSS (a : List (List Int)) (hl : a.length ≤ maxN) (hr : ∀ r ∈ a, r.length ≤ maxN) : F_laws_toIntSS a = some a := by
  have hm : maxN = 1099511627776 := rfl
  refine bnd (makeO_of _ hl) (bnd (to_loop ([] : List Int) a ?_ ?_ a [] rfl) rfl)
  · intro j x s hj hjl hs
    dsimp only
    exact stp (cTW (dT (by omega)) (bnd (idxO_of hj) (bnd (toIntS x (hr x (mem_of_get hj))) (bnd (setO_of _ (by omega)) (bnd (addO_of (by omega) (by omega)) rfl)))))
  · intro s hs; dsimp only; exact stp (cFW (dF (by omega)) rfl)
theorem eqIntS (a b : List Int) (hl : lenOk a) : F_laws_eqIntS a b = some (decide (a = b)) := by
  unfold lenOk at hl
  refine stp ?_
  by_cases h : a.length = b.length
  · refine cFW (nT (dT (by omega))) (sqW (eq_loop a b ?_ ?_ a b [] [] rfl rfl rfl h) ?_)
    · intro j x y hx hy hj
      refine stp (cTW (dT (by omega)) (bnd (idxO_of hx) (bnd (idxO_of hy) (stp ?_))))
      by_cases h2 : x = y
      · rw [if_pos h2]; exact cFW (nT (dT h2)) (bnd (addO_of (by omega) (by omega)) rfl)
      · rw [if_neg h2]; exact cTW (nF (dF h2)) rfl
    · exact stp (cFW (dF (by omega)) rfl)
    · by_cases h2 : a = b
      · rw [if_pos h2, show decide (a = b) = true from dT h2]; rfl
      · rw [if_neg h2, show decide (a = b) = false from dF h2]; rfl
  · rw [show decide (a = b) = false from dF (fun h2 => h (by rw [h2]))]; exact cTW (nF (dF (by omega))) rfl
theorem eqIntSS (a b : List (List Int)) (hl : lensOk a) : F_laws_eqIntSS a b = some (decide (a = b)) := by
  have hl1 := hl.1; unfold lenOk at hl1
  refine stp ?_
  by_cases h : a.length = b.length
  · refine cFW (nT (dT (by omega))) (sqW (eq_loop a b ?_ ?_ a b [] [] rfl rfl rfl h) ?_)
    · intro j x y hx hy hj
      refine stp (cTW (dT (by omega)) (bnd (idxO_of hx) (bnd (idxO_of hy) (bnd (eqIntS x y (hl.2 x (mem_of_get hx))) (stp ?_)))))
      by_cases h2 : x = y
      · rw [if_pos h2]; exact cFW (nT (dT h2)) (bnd (addO_of (by omega) (by omega)) rfl)
      · rw [if_neg h2]; exact cTW (nF (dF h2)) rfl
    · exact stp (cFW (dF (by omega)) rfl)
    · by_cases h2 : a = b
      · rw [if_pos h2, show decide (a = b) = true from dT h2]; rfl
      · rw [if_neg h2, show decide (a = b) = false from dF h2]; rfl
  · rw [show decide (a = b) = false from dF (fun h2 => h (by rw [h2]))]; exact cTW (nF (dF (by omega))) rfl
def mkI (_ : Int) (k : Int) : Int × Int := (k, k + 1)
def mkS : List Int → Int → List Int × Int := mkL mkI
def mkSS : List (List Int) → Int → List (List Int) × Int := mkL mkS
theorem mkI_snd (a k : Int) : (mkI a k).2 = k + one a := rfl
theorem mkS_snd (a : List Int) (k : Int) : (mkS a k).2 = k + rowN a := by
  rw [show (mkS a k).2 = k + tot one a from mkL_snd mkI one mkI_snd a k, tot_one]; rfl
theorem mkSS_snd (a : List (List Int)) (k : Int) : (mkSS a k).2 = k + tot rowN a := mkL_snd mkS rowN mkS_snd a k
theorem mkS_len (a : List Int) (k : Int) : (mkS a k).1.length = a.length := mkL_len mkI a k
theorem markIntS (a : List Int) (k : Int) (h0 : 0 ≤ k) (hb : k + rowN a ≤ bigN) : F_laws_markIntS a k = some (mkS a k) := by
  unfold rowN at hb; unfold bigN at hb
  refine bnd (mark_loop (fun _ => True) mkI one mkI_snd a.length 4611686018427387904 ?_ ?_ a [] k (by simp) (fun _ _ => trivial) h0 (by rw [tot_one]; omega)) rfl
  · intro j x s q hj _ hs hjl hq hB
    dsimp only
    have h1 : (one x : Int) = 1 := rfl
    exact stp (cTW (dT (by omega)) (bnd (setO_of _ (by omega)) (bnd (addO_of (by omega) (by omega)) (bnd (addO_of (by omega) (by omega)) rfl))))
  · intro s q hs; dsimp only; exact stp (cFW (dF (by omega)) rfl)
theorem markIntSS (a : List (List Int)) (k : Int) (h0 : 0 ≤ k) (ha : (a.length : Int) ≤ bigN) (hb : k + tot rowN a ≤ bigN) : F_laws_markIntSS a k = some (mkSS a k) := by
  unfold bigN at hb ha
  refine bnd (mark_loop (fun _ => True) mkS rowN mkS_snd a.length 4611686018427387904 ?_ ?_ a [] k (by simp) (fun _ _ => trivial) h0 (by omega)) rfl
  · intro j x s q hj _ hs hjl hq hB
    dsimp only
    exact stp (cTW (dT (by omega)) (bnd (idxO_of hj) (bnd (markIntS x q hq hB) (bnd (setO_of _ (by omega)) (bnd (addO_of (by omega) (by omega)) rfl)))))
  · intro s q hs; dsimp only; exact stp (cFW (dF (by omega)) rfl)
theorem heldIntS (a : List Int) (k : Int) (h0 : 0 ≤ k) (hb : k + rowN a ≤ bigN) : F_laws_heldIntS (mkS a k).1 k = some (k + rowN a) := by
  unfold rowN at hb ⊢; unfold bigN at hb
  refine sqW (held_loop (fun _ => True) mkI one mkI_snd (mkS a k).1 4611686018427387904 ?_ ?_ a [] k rfl (fun _ _ => trivial) h0 (by rw [tot_one]; omega)) ?_
  · intro j x q hj _ hjl hq hB
    dsimp only
    have h1 : (one x : Int) = 1 := rfl
    rw [mkS_len] at hjl
    have h2 := mkS_len a k
    exact stp (cTW (dT (by omega)) (bnd (idxO_of hj) (stp (cFW (nT (dT rfl)) (bnd (addO_of (by omega) (by omega)) (bnd (addO_of (by omega) (by omega)) rfl))))))
  · intro q; dsimp only; exact stp (cFW (dF (by omega)) rfl)
  · rw [tot_one]; rfl
end Go.Proofs.YtbofgnbanmbopaaGreatDoor
namespace Go.Proofs.YtbofgnbanmbopaaGreatDoor

abbrev Mat := Int × List (List Int)
theorem rowsN_len (m : List (List Int)) (r : List Int) (h : r ∈ m) : r.length ≤ rowsN m := by
  have := tot_mem (n := rowN) h; unfold rowsN; unfold rowN at this ⊢; omega
theorem rowsN_len0 (m : List (List Int)) : m.length ≤ rowsN m := by unfold rowsN; omega
theorem lensOk_of {m : List (List Int)} (h : rowsN m ≤ 1048576) : lensOk m := by
  refine ⟨?_, fun r hr => ?_⟩
  · have := rowsN_len0 m; unfold lenOk; omega
  · have := rowsN_len m r hr; unfold lenOk; omega
theorem toIntSS_of (m : List (List Int)) (h : rowsN m ≤ 1048576) : F_laws_toIntSS m = some m := by
  have hm : maxN = 1099511627776 := rfl
  exact toIntSS m (by have := rowsN_len0 m; omega) (fun r hr => by have := rowsN_len m r hr; omega)
theorem eqIntSS_same (m : List (List Int)) (h : lensOk m) : F_laws_eqIntSS m m = some true := by rw [eqIntSS m m h, show decide (m = m) = true from dT rfl]
end Go.Proofs.YtbofgnbanmbopaaGreatDoor
namespace Go.Proofs.YtbofgnbanmbopaaGreatDoor

def rng (n lo hi : Int) : Bool := decide (lo ≤ n) && decide (n ≤ hi)
theorem rng_true {n lo hi : Int} : rng n lo hi = true ↔ lo ≤ n ∧ n ≤ hi := by unfold rng; simp
theorem l1In (n lo hi : Int) : F_spec_l1In n lo hi = some (rng n lo hi) := by
  unfold F_spec_l1In rng
  by_cases h : lo ≤ n
  · rw [dT h]; rfl
  · rw [dF h]; rfl
theorem within_ (n lo hi : Int) : F_impl_within n lo hi = some (rng n lo hi) := by
  unfold F_impl_within rng
  by_cases h : lo ≤ n
  · rw [dT h]; rfl
  · rw [dF h]; rfl

def fdB (p : Int) : Bool := rng p 2 97 && [2, 3, 5, 7].all fun q => !(decide (p % q = 0) && !decide (p = q))
def fdBody (p : Int) (s : Int) : Option (Int ⊕ (Unit ⊕ Bool)) :=
  (mulO s s).bind fun a111 =>
        (some (decide (a111 ≤ p))).bind fun a113 =>
        cond a113
        ((remO p s).bind fun a118 =>
          (some (decide (a118 = 0))).bind fun a120 =>
          cond a120
          (some (.inr (.inr false)))
          ((addO s 1).bind fun a123 =>
            some (.inl a123)))
        (some (.inr (.inl ())))
def fdCheck (p : Nat) : Bool := decide (seqO (iterO (fdBody p) 10 2) (fun (_ : Unit) => some true) = some (fdB p)) || decide (p < 2)
theorem fd_all : ((List.range 98).all fdCheck) = true := by decide +kernel
theorem fdGood (p : Int) : F_spec_fdGood p = some (fdB p) := by
  unfold F_spec_fdGood
  refine bnd (l1In p 2 97) (stp ?_)
  cases h : rng p 2 97 with
  | false => refine cTW rfl ?_; unfold fdB; rw [h]; rfl
  | true =>
    refine cFW rfl ?_
    have hr := rng_true.1 h
    obtain ⟨k, rfl⟩ : ∃ k : Nat, p = (k : Int) := ⟨p.toNat, by omega⟩
    have hk := List.all_eq_true.1 fd_all k (List.mem_range.2 (by omega))
    unfold fdCheck at hk
    have h2 : decide (k < 2) = false := dF (by omega)
    rw [h2, Bool.or_false] at hk
    have hk := of_decide_eq_true hk
    rw [← hk]
    cases hi : iterO (fdBody k) 10 2 with
    | none => rw [hi] at hk; cases hk
    | some t => exact sqW (whileO_iff.2 ⟨10, hi⟩) rfl
theorem isField_ (p : Int) : F_impl_isField p = some (fdB p) := by
  unfold F_impl_isField fdB
  cases h : rng p 2 97 with
  | false =>
    refine bnd (a := true) (stp ?_) (cTW rfl rfl)
    by_cases h1 : p < 2
    · exact cTW (dT h1) rfl
    · refine cFW (dF h1) (stp ?_)
      rw [dT]
      apply Classical.byContradiction
      intro h3
      have : rng p 2 97 = true := rng_true.2 ⟨by omega, by omega⟩
      rw [h] at this; cases this
  | true =>
    have hr := rng_true.1 h
    refine bnd (a := false) (stp (cFW (dF (by omega)) (stp (by rw [dF (by omega)])))) (cFW rfl (bnd (cI_of (by decide)) ?_))
    refine sqW (forO_all (fun q : Int => !(decide (p % q = 0) && !decide (p = q))) [2, 3, 5, 7] 0 ?_ (t := false)) ?_
    · intro j q hj
      have hq : q ∈ [(2 : Int), 3, 5, 7] := mem_of_get hj
      have hq1 : q ≠ 0 ∧ 0 < q := by simp at hq; omega
      rw [Nat.zero_add]
      refine bnd (idxO_of hj) ?_
      refine bnd (a := decide (p % q = 0) && !decide (p = q)) ?_ ?_
      · refine bnd (remO_of hq1.1) (stp ?_)
        rw [Int.tmod_eq_emod_of_nonneg (by omega)]
        by_cases h1 : p % q = 0
        · rw [dT h1]; rfl
        · rw [dF h1]; rfl
      · cases (decide (p % q = 0) && !decide (p = q)) <;> rfl
    · cases ([2, 3, 5, 7].all fun q : Int => !(decide (p % q = 0) && !decide (p = q))) <;> rfl
theorem fdB_rng {p : Int} (h : fdB p = true) : 2 ≤ p ∧ p ≤ 97 := by
  unfold fdB at h
  exact rng_true.1 (by revert h; cases rng p 2 97 <;> simp)

/-- numbers of a field -/
def inP (p : Int) (l : List Int) : Prop := ∀ x ∈ l, 0 ≤ x ∧ x < p
def inB (p : Int) (l : List Int) : Bool := l.all fun x => rng x 0 (p - 1)
theorem inB_true {p : Int} {l : List Int} : inB p l = true ↔ inP p l := by
  unfold inB inP
  rw [List.all_eq_true]
  constructor
  · intro h x hx; have := rng_true.1 (h x hx); omega
  · intro h x hx; have := h x hx; exact rng_true.2 (by omega)
theorem l1All (l : List Int) (lo hi : Int) : F_spec_l1All l lo hi = some (l.all fun x => rng x lo hi) := by
  refine sqW (forO_all (fun x => rng x lo hi) l 0 ?_ (t := false)) ?_
  · intro j x hj
    rw [Nat.zero_add]
    refine bnd (idxO_of hj) (bnd (l1In x lo hi) (stp ?_))
    cases rng x lo hi <;> rfl
  · cases (l.all fun x => rng x lo hi) <;> rfl
theorem fdIn {p : Int} (hp : 2 ≤ p ∧ p ≤ 97) (l : List Int) : F_spec_fdIn p l = some (inB p l) :=
  bnd (subO_of (by omega) (by omega)) (bnd (l1All l 0 (p - 1)) rfl)
def rowsB (p n : Int) (m : List (List Int)) : Bool := m.all fun r => decide ((r.length : Int) = n) && inB p r
def rowsP (p : Int) (n : Nat) (m : List (List Int)) : Prop := ∀ r ∈ m, r.length = n ∧ inP p r
theorem rowsB_true {p : Int} {n : Nat} {m : List (List Int)} : rowsB p n m = true ↔ rowsP p n m := by
  unfold rowsB rowsP
  rw [List.all_eq_true]
  constructor
  · intro h r hr
    have := h r hr
    rw [Bool.and_eq_true] at this
    exact ⟨by have := of_decide_eq_true this.1; omega, inB_true.1 this.2⟩
  · intro h r hr
    have := h r hr
    rw [Bool.and_eq_true]
    exact ⟨dT (by omega), inB_true.2 this.2⟩
theorem isElement_ (p a : Int) : F_impl_isElement p a = some (rng a 0 (p - 1)) := by
  unfold F_impl_isElement rng
  by_cases h : 0 ≤ a
  · rw [dT h]; show some (decide (a < p)) = some (true && decide (a ≤ p - 1))
    rw [Bool.true_and, decide_eq_decide.2]; omega
  · rw [dF h]; rfl
theorem isVector_ (p n : Int) (v : List Int) : F_impl_isVector p v n = some (decide ((v.length : Int) = n) && inB p v) := by
  refine stp ?_
  cases decide ((v.length : Int) = n) with
  | false => rfl
  | true =>
    refine cFW rfl (sqW (forO_all (fun x => rng x 0 (p - 1)) v 0 ?_ (t := false)) ?_)
    · intro j x hj
      rw [Nat.zero_add]
      refine bnd (idxO_of hj) (bnd (isElement_ p x) (stp ?_))
      cases rng x 0 (p - 1) <;> rfl
    · show _ = some (true && v.all _)
      cases (v.all fun x => rng x 0 (p - 1)) <;> rfl
theorem areVectors_ (p n : Int) (m : List (List Int)) : F_impl_areVectors p m n = some (rowsB p n m) := by
  refine sqW (forO_all (fun r : List Int => decide ((r.length : Int) = n) && inB p r) m 0 ?_ (t := false)) ?_
  · intro j r hj
    rw [Nat.zero_add]
    refine bnd (idxO_of hj) (bnd (isVector_ p n r) (stp ?_))
    cases (decide ((r.length : Int) = n) && inB p r) <;> rfl
  · show _ = some (m.all _)
    cases (m.all fun r => decide ((r.length : Int) = n) && inB p r) <;> rfl
end Go.Proofs.YtbofgnbanmbopaaGreatDoor
namespace Go.Proofs.YtbofgnbanmbopaaGreatDoor

theorem zeros_ {n : Nat} (h : n ≤ maxN) : F_impl_zeros (n : Int) = some (List.replicate n 0) := bnd (makeO_of _ h) rfl

end Go.Proofs.YtbofgnbanmbopaaGreatDoor
namespace Go.Proofs.YtbofgnbanmbopaaGreatDoor
end Go.Proofs.YtbofgnbanmbopaaGreatDoor
namespace Go.Proofs.YtbofgnbanmbopaaGreatDoor

abbrev Edg := Int × Int × List Int × List Int
abbrev Gra := Int × List Edg × List Int × List Int

/-! ### tables -/
def tabl {α : Type} (n : Nat) (f : Nat → α) : List α := (List.range n).map f
theorem tabl_len {α : Type} (n : Nat) (f : Nat → α) : (tabl n f).length = n := by simp [tabl]
theorem tabl_get {α : Type} {n k : Nat} (f : Nat → α) (h : k < n) : (tabl n f)[k]? = some (f k) := by
  unfold tabl; rw [List.getElem?_map, List.getElem?_range h]; rfl
theorem tabl_idx {α : Type} {n k : Nat} (f : Nat → α) (h : k < n) : idxO (tabl n f) (k : Int) = some (f k) := idxO_of (tabl_get f h)
theorem tabl_ext {α : Type} {n : Nat} {f g : Nat → α} (h : ∀ k, k < n → f k = g k) : tabl n f = tabl n g := by
  unfold tabl; exact List.map_congr_left fun k hk => h k (List.mem_range.1 hk)
theorem tabl_set {α : Type} {n m : Nat} (f : Nat → α) (v : α) : (tabl n f).set m v = tabl n (fun k => if k = m then v else f k) := by
  apply List.ext_getElem?
  intro j
  rw [List.getElem?_set]
  by_cases hj : j < n
  · rw [tabl_get _ hj, tabl_get _ hj]
    by_cases hm : m = j
    · rw [if_pos hm, if_pos hm.symm, if_pos (by rw [tabl_len]; omega)]
    · rw [if_neg hm, if_neg (fun h => hm h.symm)]
  · rw [List.getElem?_eq_none (by rw [tabl_len]; omega), List.getElem?_eq_none (by rw [tabl_len]; omega)]
    split <;> simp [tabl_len] <;> omega
theorem tabl_setO {α : Type} {n m : Nat} (f : Nat → α) (v : α) (h : m < n) : setO (tabl n f) (m : Int) v = some (tabl n (fun k => if k = m then v else f k)) := by
  rw [setO_of _ (by rw [tabl_len]; exact h), tabl_set]
theorem tabl_rep {α : Type} (n : Nat) (z : α) : List.replicate n z = tabl n (fun _ => z) := by
  apply List.ext_getElem?
  intro j
  by_cases hj : j < n
  · rw [tabl_get _ hj, List.getElem?_replicate, if_pos hj]
  · rw [List.getElem?_replicate, if_neg hj, List.getElem?_eq_none (by rw [tabl_len]; omega)]
theorem tabl_make {α : Type} {n : Nat} (z : α) (h : n ≤ maxN) : makeO (n : Int) z = some (tabl n fun _ => z) := by rw [makeO_of z h, tabl_rep]

/-! ### edges -/
def genB (k v : Int) : Bool := rng k 3 14 && (if k = 7 ∨ k = 13 then rng v 0 96 else decide (v = 0))
def kd (k : Int) : Int × Int := if k = 2 then (2, 2) else if k = 3 ∨ k = 11 then (1, 2) else if k = 4 ∨ k = 12 then (1, 0) else if k = 5 ∨ k = 9 then (2, 1) else if k = 6 ∨ k = 10 then (0, 1) else (1, 1)
def arB (e : Edg) : Bool := genB e.1 e.2.1 && (decide ((e.2.2.1.length : Int) = (kd e.1).1) && decide ((e.2.2.2.length : Int) = (kd e.1).2))
def wOk (n : Int) (l : List Int) : Bool := l.all fun x => rng x 0 (n - 1)

theorem tmKind_ (k : Int) : F_spec_tmKind k = some (kd k) := by
  unfold F_spec_tmKind kd
  by_cases h2 : k = 2
  · simp [h2]
  by_cases h3 : k = 3 ∨ k = 11
  · rcases h3 with h3 | h3 <;> simp [h3]
  by_cases h4 : k = 4 ∨ k = 12
  · rcases h4 with h3 | h3 <;> simp [h3]
  by_cases h5 : k = 5 ∨ k = 9
  · rcases h5 with h3 | h3 <;> simp [h3]
  by_cases h6 : k = 6 ∨ k = 10
  · rcases h6 with h3 | h3 <;> simp [h3]
  rw [if_neg h2, if_neg h3, if_neg h4, if_neg h5, if_neg h6]
  simp only [not_or] at *
  simp [*]
theorem tmLeaf_gen {k v : Int} (hk : rng k 3 14 = true) : F_spec_tmLeaf (k, v, .empty) = some (genB k v) := by
  have hr := rng_true.1 hk
  unfold F_spec_tmLeaf genB
  have h1 : rng k 1 14 = true := rng_true.2 (by omega)
  by_cases h7 : k = 7
  · subst h7; simp [l1In, h1, hk]
  by_cases h13 : k = 13
  · subst h13; simp [l1In, h1, hk]
  have h0 : ¬ k = 1 := by omega
  simp [l1In, h1, hk, h7, h13, h0]
theorem hgEdge_ (e : Edg) {n : Int} (h0 : 0 ≤ n) (h1 : n ≤ 100) : F_spec_hgEdge e n = some (arB e && (wOk n e.2.2.1 && wOk n e.2.2.2)) := by
  obtain ⟨k, v, a, b⟩ := e
  unfold F_spec_hgEdge arB
  have hs : subO n 1 = some (n - 1) := subO_of (by omega) (by omega)
  cases hk : rng k 3 14 with
  | false =>
    have : genB k v = false := by unfold genB; rw [hk]; rfl
    simp [l1In, hk, this]
  | true =>
    cases hg : genB k v with
    | false => simp [l1In, hk, tmLeaf_gen hk, hg]
    | true =>
      by_cases ha : (a.length : Int) = (kd k).1
      · by_cases hb : (b.length : Int) = (kd k).2
        · cases hw : wOk n a with
          | false => unfold wOk at hw; simp [l1In, hk, tmLeaf_gen hk, hg, tmKind_, ha, hb, hs, l1All, hw]
          | true => unfold wOk at hw; simp [l1In, hk, tmLeaf_gen hk, hg, tmKind_, ha, hb, hs, l1All, hw, wOk]
        · simp [l1In, hk, tmLeaf_gen hk, hg, tmKind_, ha, hb]
      · simp [l1In, hk, tmLeaf_gen hk, hg, tmKind_, ha]
theorem isGeneratorValue_ {k v : Int} (hk : rng k 3 14 = true) : F_impl_isGeneratorValue k v = some (genB k v) := by
  unfold F_impl_isGeneratorValue F_impl_hasValue genB
  by_cases h7 : k = 7
  · subst h7; simp [within_, hk]
  by_cases h13 : k = 13
  · subst h13; simp [within_, hk]
  simp [hk, h7, h13]
theorem generatorWires_ {k : Int} (hk : rng k 3 14 = true) : F_impl_generatorWires k = some (kd k) := by
  have hr := rng_true.1 hk
  have : k = 3 ∨ k = 4 ∨ k = 5 ∨ k = 6 ∨ k = 7 ∨ k = 8 ∨ k = 9 ∨ k = 10 ∨ k = 11 ∨ k = 12 ∨ k = 13 ∨ k = 14 := by omega
  rcases this with rfl | rfl | rfl | rfl | rfl | rfl | rfl | rfl | rfl | rfl | rfl | rfl <;> rfl
theorem isEdge_ (e : Edg) : F_impl_Edge_isEdge e = some (arB e) := by
  obtain ⟨k, v, a, b⟩ := e
  unfold F_impl_Edge_isEdge arB F_impl_isGenerator
  cases hk : rng k 3 14 with
  | false =>
    have : genB k v = false := by unfold genB; rw [hk]; rfl
    simp [within_, hk, this]
  | true =>
    cases hg : genB k v with
    | false => simp [within_, hk, isGeneratorValue_ hk, hg]
    | true =>
      simp only [within_, hk, isGeneratorValue_ hk, hg, generatorWires_ hk, Option.bind_some, Bool.not_true, cond_false, Bool.true_and]
      congr 1
      rw [← Bool.decide_and]
      refine decide_eq_decide.2 ?_
      simp only [List.cons.injEq, and_true]
      exact ⟨fun ⟨x, y⟩ => ⟨x.symm, y.symm⟩, fun ⟨x, y⟩ => ⟨x.symm, y.symm⟩⟩

/-! ### how often a wire occurs -/
def edI (e : Edg) : List Int := e.2.2.1
def edO (e : Edg) : List Int := e.2.2.2
/-- the wires of a list counted -/
theorem cnt_loop {n : Nat} (l : List Int) (f : Nat → Int) (hl : ∀ x ∈ l, 0 ≤ x ∧ x < (n : Int)) (B : Int) (hf : ∀ k, k < n → 0 ≤ f k ∧ f k + l.length ≤ B) (hB : B ≤ 4611686018427387904) {g : Nat → List Int → Option (List Int)}
    (hg : ∀ k s, g k s = ((idxO l (k : Int)).bind fun a => (idxO s a).bind fun b => (addO b 1).bind fun c => (setO s a c).bind fun t => some t)) :
    forS g l.length 0 (tabl n f) = some (tabl n fun k => f k + (l.count (k : Int) : Nat)) := by
  have := forS_is (f := g) (n := l.length) (fun j => tabl n fun k => f k + ((l.take j).count (k : Int) : Nat)) (fun j hj => by
    rw [hg]
    have hm := hl l[j] (List.getElem_mem hj)
    obtain ⟨m, hme⟩ : ∃ m : Nat, l[j] = (m : Int) := ⟨l[j].toNat, by omega⟩
    have hmn : m < n := by omega
    refine bnd (idxO_of (List.getElem?_eq_getElem hj)) ?_
    rw [hme]
    have hb := hf m hmn
    have hc : ((l.take j).count (m : Int)) ≤ j := Nat.le_trans List.count_le_length (by simp; omega)
    refine bnd (tabl_idx _ hmn) (bnd (addO_of (by omega) (by omega)) (bnd (tabl_setO _ _ hmn) (congrArg some (tabl_ext fun k hk => ?_))))
    rw [List.take_add_one, List.getElem?_eq_getElem hj, List.count_append, hme]
    by_cases h : k = m
    · subst h; simp; omega
    · rw [if_neg h]
      have : ¬ (m : Int) = (k : Int) := by omega
      simp [this])
  have e0 : (fun k => f k + (((l.take 0).count ((k : Nat) : Int) : Nat) : Int)) = f := by funext k; simp
  rw [List.take_length] at this
  rw [← this]
  congr 2
  exact e0.symm
def cntE (E : List Edg) (s : Edg → List Int) (k : Nat) : Nat := ((E.map s).flatten).count (k : Int)
def totE (E : List Edg) (s : Edg → List Int) : Nat := ((E.map s).flatten).length
theorem inW_rng {n : Nat} {l : List Int} (h : wOk n l = true) : ∀ x ∈ l, 0 ≤ x ∧ x < (n : Int) := by
  intro x hx
  have := rng_true.1 (List.all_eq_true.1 h x hx)
  omega
/-- the wires of a graph, in the order of its lists -/
def allW (g : Gra) : List Int := g.2.2.1 ++ g.2.2.2 ++ (g.2.1.map fun e => edI e ++ edO e).flatten
def edW (n : Int) (e : Edg) : Bool := arB e && (wOk n (edI e) && wOk n (edO e))
def gOk (g : Gra) : Bool := rng g.1 0 100 && (decide (g.2.1.length ≤ 60) && (decide (g.2.2.1.length ≤ 12) && (decide (g.2.2.2.length ≤ 12) && (wOk g.1 g.2.2.1 && (wOk g.1 g.2.2.2 && (g.2.1.all (edW g.1) && (List.range g.1.toNat).all fun k : Nat => decide ((k : Int) ∈ allW g)))))))
theorem kd_le (k : Int) : 0 ≤ (kd k).1 ∧ (kd k).1 ≤ 2 ∧ 0 ≤ (kd k).2 ∧ (kd k).2 ≤ 2 := by
  unfold kd
  split <;> first | (refine ⟨?_, ?_, ?_, ?_⟩ <;> decide) | skip
  split <;> first | (refine ⟨?_, ?_, ?_, ?_⟩ <;> decide) | skip
  split <;> first | (refine ⟨?_, ?_, ?_, ?_⟩ <;> decide) | skip
  split <;> first | (refine ⟨?_, ?_, ?_, ?_⟩ <;> decide) | skip
  split <;> (refine ⟨?_, ?_, ?_, ?_⟩ <;> decide)
theorem arB_len {e : Edg} (h : arB e = true) : (edI e).length ≤ 2 ∧ (edO e).length ≤ 2 := by
  unfold arB at h
  simp only [Bool.and_eq_true, decide_eq_true_eq] at h
  have := kd_le e.1
  unfold edI edO
  omega
/-- the counts of a graph whose wires are in range -/
theorem hgCounts_ {n : Nat} {E : List Edg} {I O : List Int} (hn : n ≤ 1048576) (hI : ∀ x ∈ I, 0 ≤ x ∧ x < (n : Int)) (hO : ∀ x ∈ O, 0 ≤ x ∧ x < (n : Int)) (hE : ∀ e ∈ E, (∀ x ∈ edI e, 0 ≤ x ∧ x < (n : Int)) ∧ (∀ x ∈ edO e, 0 ≤ x ∧ x < (n : Int)))
    (hB : I.length + O.length + totE E edI + totE E edO ≤ 1099511627776) :
    F_spec_hgCounts ((n : Int), E, I, O) = some (tabl n (fun k => ((I.count (k : Int) + cntE E edO k : Nat) : Int)), tabl n (fun k => ((O.count (k : Int) + cntE E edI k : Nat) : Int))) := by
  have hm : maxN = 1099511627776 := rfl
  refine bnd (tabl_make _ (by omega)) (bnd (tabl_make _ (by omega)) ?_)
  have hc : ∀ (l : List Int) (k : Nat), l.count (k : Int) ≤ l.length := fun l k => List.count_le_length
  refine bnd (cnt_loop I (fun _ => 0) hI 1099511627776 (fun k _ => by omega) (by omega) (fun _ _ => rfl)) ?_
  refine bnd (cnt_loop O (fun _ => 0) hO 1099511627776 (fun k _ => by omega) (by omega) (fun _ _ => rfl)) ?_
  have key := forS_is (n := E.length) (fun j => (tabl n (fun k => ((I.count (k : Int) + cntE (E.take j) edO k : Nat) : Int)), tabl n (fun k => ((O.count (k : Int) + cntE (E.take j) edI k : Nat) : Int)))) (f := fun (k215 : Nat) (s652 : List Int × List Int) =>
      (idxO E ((k215 : Nat) : Int)).bind fun a667 =>
      (forS (fun (k679 : Nat) (s738 : List Int) =>
          (idxO a667.2.2.2 ((k679 : Nat) : Int)).bind fun a753 =>
          (idxO s738 a753).bind fun a761 =>
          (addO a761 1).bind fun a763 =>
          (setO s738 a753 a763).bind fun a771 =>
          some a771) a667.2.2.2.length 0 s652.1).bind fun (s776 : List Int) =>
      (forS (fun (k778 : Nat) (s837 : List Int) =>
          (idxO a667.2.2.1 ((k778 : Nat) : Int)).bind fun a852 =>
          (idxO s837 a852).bind fun a860 =>
          (addO a860 1).bind fun a862 =>
          (setO s837 a852 a862).bind fun a870 =>
          some a870) a667.2.2.1.length 0 s652.2).bind fun (s875 : List Int) =>
      some (s776, s875)) (fun j hj => by
    have he := hE _ (List.getElem_mem hj)
    have hsum : ∀ s : Edg → List Int, totE (E.take (j + 1)) s = totE (E.take j) s + (s E[j]).length := fun s => by
      unfold totE; rw [List.take_add_one, List.getElem?_eq_getElem hj, List.map_append, List.flatten_append, List.length_append]; simp only [Option.toList_some, List.map_cons, List.map_nil, List.flatten_cons, List.flatten_nil, List.append_nil]
    have hle : ∀ s : Edg → List Int, totE (E.take (j + 1)) s ≤ totE E s := fun s => by
      unfold totE
      have : E = E.take (j + 1) ++ E.drop (j + 1) := (List.take_append_drop _ _).symm
      conv => rhs; rw [this]
      rw [List.map_append, List.flatten_append, List.length_append]; omega
    have hct : ∀ (s : Edg → List Int) (k : Nat), cntE (E.take j) s k ≤ totE (E.take j) s := fun s k => List.count_le_length
    have hcs : ∀ (s : Edg → List Int) (k : Nat), cntE (E.take (j + 1)) s k = cntE (E.take j) s k + (s E[j]).count (k : Int) := fun s k => by
      unfold cntE; rw [List.take_add_one, List.getElem?_eq_getElem hj, List.map_append, List.flatten_append, List.count_append]; simp only [Option.toList_some, List.map_cons, List.map_nil, List.flatten_cons, List.flatten_nil, List.append_nil]
    have h1 := hsum edI; have h2 := hsum edO; have h3 := hle edI; have h4 := hle edO
    refine bnd (idxO_of (List.getElem?_eq_getElem hj)) ?_
    refine bnd (cnt_loop (edO E[j]) _ he.2 1099511627776 (fun k _ => by have := hct edO k; have := hc I k; omega) (by omega) (fun _ _ => rfl)) ?_
    refine bnd (cnt_loop (edI E[j]) _ he.1 1099511627776 (fun k _ => by have := hct edI k; have := hc O k; omega) (by omega) (fun _ _ => rfl)) ?_
    refine congrArg some (Prod.ext (tabl_ext fun k hk => ?_) (tabl_ext fun k hk => ?_))
    · rw [hcs]; push_cast; omega
    · rw [hcs]; push_cast; omega)
  have e1 : ∀ (l : List Int) (s : Edg → List Int), tabl n (fun k => (0 : Int) + (l.count (k : Int) : Nat)) = tabl n (fun k => ((l.count (k : Int) + cntE (E.take 0) s k : Nat) : Int)) := fun l s => tabl_ext fun k hk => by
    unfold cntE; simp
  rw [e1 I edO, e1 O edI]
  refine bnd key ?_
  rw [List.take_length]

/-! ### valid graphs -/
theorem all_app (n : Int) (a b : List Int) : wOk n (a ++ b) = (wOk n a && wOk n b) := by unfold wOk; rw [List.all_append]
theorem edW_arB {n : Int} {E : List Edg} (h : E.all (edW n) = true) : E.all arB = true := by
  rw [List.all_eq_true] at h ⊢
  intro e he
  have := h e he
  unfold edW at this
  simp only [Bool.and_eq_true] at this
  exact this.1
theorem totE_le {E : List Edg} (h : E.all arB = true) : totE E edI ≤ 2 * E.length ∧ totE E edO ≤ 2 * E.length := by
  induction E with
  | nil => exact ⟨Nat.le_refl _, Nat.le_refl _⟩
  | cons e E ih =>
    simp only [List.all_cons, Bool.and_eq_true] at h
    have h1 := arB_len h.1
    have h2 := ih h.2
    unfold totE at h2 ⊢
    simp only [List.map_cons, List.flatten_cons, List.length_append, List.length_cons]
    omega
theorem mem_cnt {E : List Edg} {s : Edg → List Int} {k : Nat} : cntE E s k = 0 ↔ ¬ ∃ e ∈ E, (k : Int) ∈ s e := by
  unfold cntE
  rw [List.count_eq_zero, List.mem_flatten]
  constructor
  · rintro h ⟨e, he, hk⟩; exact h ⟨s e, List.mem_map.2 ⟨e, he, rfl⟩, hk⟩
  · rintro h ⟨l, hl, hk⟩
    obtain ⟨e, he, rfl⟩ := List.mem_map.1 hl
    exact h ⟨e, he, hk⟩
theorem mem_allW {g : Gra} {k : Int} : k ∈ allW g ↔ k ∈ g.2.2.1 ∨ k ∈ g.2.2.2 ∨ ∃ e ∈ g.2.1, k ∈ edI e ∨ k ∈ edO e := by
  unfold allW
  rw [List.mem_append, List.mem_append, List.mem_flatten]
  constructor
  · rintro ((h | h) | ⟨l, hl, h⟩)
    · exact .inl h
    · exact .inr (.inl h)
    · obtain ⟨e, he, rfl⟩ := List.mem_map.1 hl
      exact .inr (.inr ⟨e, he, List.mem_append.1 h⟩)
  · rintro (h | h | ⟨e, he, h⟩)
    · exact .inl (.inl h)
    · exact .inl (.inr h)
    · exact .inr ⟨_, List.mem_map.2 ⟨e, he, rfl⟩, List.mem_append.2 h⟩
theorem edW_rng {n : Nat} {E : List Edg} (h : E.all (edW n) = true) : ∀ e ∈ E, (∀ x ∈ edI e, 0 ≤ x ∧ x < (n : Int)) ∧ (∀ x ∈ edO e, 0 ≤ x ∧ x < (n : Int)) := by
  intro e he
  have := List.all_eq_true.1 h e he
  unfold edW at this
  simp only [Bool.and_eq_true] at this
  exact ⟨inW_rng this.2.1, inW_rng this.2.2⟩
theorem hgValid_ (g : Gra) : F_spec_hgValid g = some (gOk g) := by
  obtain ⟨n, E, I, O⟩ := g
  unfold F_spec_hgValid gOk
  cases hr : rng n 0 100 with
  | false => simp [l1In, hr]
  | true =>
    have hn := rng_true.1 hr
    have hs : subO n 1 = some (n - 1) := subO_of (by omega) (by omega)
    by_cases hE : E.length ≤ 60
    case neg =>
      have : (60 : Int) < (E.length : Int) := by omega
      simp [l1In, hr, hE, this]
    have hE' : ¬ (60 : Int) < (E.length : Int) := by omega
    by_cases hI : I.length ≤ 12
    case neg =>
      have : (12 : Int) < (I.length : Int) := by omega
      simp [l1In, hr, hE, hE', hI, this]
    have hI' : ¬ (12 : Int) < (I.length : Int) := by omega
    by_cases hO : O.length ≤ 12
    case neg =>
      have : (12 : Int) < (O.length : Int) := by omega
      simp [l1In, hr, hE, hE', hI, hI', hO, this]
    have hO' : ¬ (12 : Int) < (O.length : Int) := by omega
    cases hwI : wOk n I with
    | false => unfold wOk at hwI; simp [l1In, hr, hE, hE', hI, hI', hO, hO', hs, l1All, hwI]
    | true =>
    cases hwO : wOk n O with
    | false => unfold wOk at hwI hwO; simp [l1In, hr, hE, hE', hI, hI', hO, hO', hs, l1All, hwO]
    | true =>
    have hl1 : F_spec_l1All I 0 (n - 1) = some true := by rw [l1All]; exact congrArg some hwI
    have hl2 : F_spec_l1All O 0 (n - 1) = some true := by rw [l1All]; exact congrArg some hwO
    simp only [l1In, hr, dF hE', dF hI', dF hO', dT hE, dT hI, dT hO, hs, hl1, hl2, Option.bind_some, Bool.not_true, cond_false, Bool.true_and]
    refine sqW (forO_all (edW n) E 0 ?_ (t := false)) ?_
    · intro j e hj
      rw [Nat.zero_add]
      refine bnd (idxO_of hj) (bnd (hgEdge_ e hn.1 hn.2) (stp ?_))
      have : (arB e && (wOk n e.2.2.1 && wOk n e.2.2.2)) = edW n e := rfl
      rw [this]
      cases edW n e <;> rfl
    · cases hall : E.all (edW n) with
      | false => rfl
      | true =>
        rw [if_pos rfl, seqO_l]
        obtain ⟨m, rfl⟩ : ∃ m : Nat, n = (m : Int) := ⟨n.toNat, by omega⟩
        have h2 := totE_le (edW_arB hall)
        refine bnd (hgCounts_ (by omega) (inW_rng hwI) (inW_rng hwO) (edW_rng hall) (by omega)) ?_
        dsimp only
        have hlen : ∀ f : Nat → Int, (tabl m f).length = (List.range m).length := fun f => by rw [tabl_len, List.length_range]
        rw [hlen]
        refine sqW (forO_all (fun k : Nat => decide ((k : Int) ∈ allW ((m : Int), E, I, O))) (List.range m) 0 ?_ (t := false)) ?_
        · intro j k hj
          obtain ⟨hjm, hje⟩ := List.getElem?_eq_some_iff.1 hj
          rw [List.getElem_range] at hje
          subst hje
          rw [List.length_range] at hjm
          rw [Nat.zero_add]
          have c1 : I.count (j : Int) ≤ I.length := List.count_le_length
          have c2 : O.count (j : Int) ≤ O.length := List.count_le_length
          have c3 : cntE E edI j ≤ totE E edI := List.count_le_length
          have c4 : cntE E edO j ≤ totE E edO := List.count_le_length
          refine bnd (tabl_idx _ hjm) (bnd (tabl_idx _ hjm) (bnd (addO_of (by omega) (by omega)) (stp ?_)))
          have hiff : (j : Int) ∈ allW ((m : Int), E, I, O) ↔ ¬ (((I.count (j : Int) + cntE E edO j : Nat) : Int) + ((O.count (j : Int) + cntE E edI j : Nat) : Int) = 0) := by
            rw [mem_allW]
            dsimp only
            have z1 : I.count (j : Int) = 0 ↔ ¬ (j : Int) ∈ I := List.count_eq_zero
            have z2 : O.count (j : Int) = 0 ↔ ¬ (j : Int) ∈ O := List.count_eq_zero
            have z3 := mem_cnt (E := E) (s := edI) (k := j)
            have z4 := mem_cnt (E := E) (s := edO) (k := j)
            constructor
            · intro h h0
              have y1 := z1.1 (by omega); have y2 := z2.1 (by omega); have y3 := z3.1 (by omega); have y4 := z4.1 (by omega)
              rcases h with h | h | ⟨e, he, h | h⟩
              · exact y1 h
              · exact y2 h
              · exact y3 ⟨e, he, h⟩
              · exact y4 ⟨e, he, h⟩
            · intro h
              refine Decidable.byContradiction fun hc => h ?_
              simp only [not_or] at hc
              have y1 := z1.2 hc.1; have y2 := z2.2 hc.2.1
              have y3 := z3.2 (fun ⟨e, he, hk⟩ => hc.2.2 ⟨e, he, .inl hk⟩)
              have y4 := z4.2 (fun ⟨e, he, hk⟩ => hc.2.2 ⟨e, he, .inr hk⟩)
              omega
          by_cases hk : (j : Int) ∈ allW ((m : Int), E, I, O)
          · rw [dT hk, dF (hiff.1 hk)]; rfl
          · rw [dF hk, dT (Decidable.byContradiction fun hc => hk (hiff.2 hc))]; rfl
        · rw [Int.toNat_natCast]
          cases (List.range m).all fun k : Nat => decide ((k : Int) ∈ allW ((m : Int), E, I, O)) <;> rfl

/-! ### the program's test -/
def seenT (n : Nat) (d : List Int) : List Bool := tabl n fun k => decide ((k : Int) ∈ d)
def seenN (n : Nat) (d : List Int) : Nat := (List.range n).countP fun k : Nat => decide ((k : Int) ∈ d)
theorem seenN_le (n : Nat) (d : List Int) : seenN n d ≤ n := by
  have := List.countP_le_length (p := fun k : Nat => decide ((k : Int) ∈ d)) (l := List.range n)
  rwa [List.length_range] at this
theorem countP_add {n m : Nat} (h : m < n) (P : Nat → Bool) (hP : P m = false) : (List.range n).countP (fun k => decide (k = m) || P k) = (List.range n).countP P + 1 := by
  induction n with
  | zero => omega
  | succ n ih =>
    rw [List.range_succ, List.countP_append, List.countP_append]
    by_cases hm : m = n
    · subst hm
      have : (List.range m).countP (fun k => decide (k = m) || P k) = (List.range m).countP P := by
        refine List.countP_congr fun k hk => ?_
        have : ¬ k = m := by have := List.mem_range.1 hk; omega
        simp [this]
      rw [this]
      simp [hP]
    · rw [ih (by omega)]
      have : ¬ n = m := by omega
      simp [this]; omega
theorem seen_step (n : Nat) (d : List Int) (m : Nat) (hm : m < n) (h : ¬ (m : Int) ∈ d) : seenN n (d ++ [(m : Int)]) = seenN n d + 1 ∧ (tabl n fun k => if k = m then true else decide ((k : Int) ∈ d)) = seenT n (d ++ [(m : Int)]) := by
  constructor
  · unfold seenN
    rw [← countP_add hm (fun k : Nat => decide ((k : Int) ∈ d)) (dF h)]
    refine List.countP_congr fun k _ => ?_
    simp only [List.mem_append, List.mem_singleton, decide_eq_true_eq, Bool.or_eq_true]
    constructor
    · rintro (h | h)
      · exact .inr h
      · exact .inl (by omega)
    · rintro (h | h)
      · exact .inr (by omega)
      · exact .inl h
  · refine tabl_ext fun k _ => ?_
    by_cases hk : k = m
    · rw [if_pos hk, dT]; simp [hk]
    · rw [if_neg hk, decide_eq_decide]
      have : ¬ (k : Int) = (m : Int) := by omega
      simp [this]
theorem seen_same (n : Nat) (d : List Int) (x : Int) (h : x ∈ d ∨ rng x 0 ((n : Int) - 1) = false) : seenN n (d ++ [x]) = seenN n d ∧ seenT n (d ++ [x]) = seenT n d := by
  have : ∀ k, k < n → decide ((k : Int) ∈ d ++ [x]) = decide ((k : Int) ∈ d) := fun k hk => by
    rw [decide_eq_decide, List.mem_append, List.mem_singleton]
    constructor
    · rintro (h1 | h1)
      · exact h1
      · rcases h with h | h
        · rw [h1]; exact h
        · have : rng x 0 ((n : Int) - 1) = true := rng_true.2 (by omega)
          rw [this] at h; cases h
    · exact .inl
  exact ⟨List.countP_congr fun k hk => by rw [this k (List.mem_range.1 hk)], tabl_ext this⟩
/-- one list of a graph -/
theorem isGraph1_ {n : Nat} (hn : n ≤ 100) (E : List Edg) (I O l d : List Int) : F_impl_Graph_isGraph_1 l ((n : Int), E, I, O) (wOk n d) (seenT n d) ((seenN n d : Nat) : Int) = some (wOk n (d ++ l), seenT n (d ++ l), ((seenN n (d ++ l) : Nat) : Int)) := by
  unfold F_impl_Graph_isGraph_1
  have := forS_is (n := l.length) (fun j => (wOk n (d ++ l.take j), ((seenN n (d ++ l.take j) : Nat) : Int), seenT n (d ++ l.take j))) (f := fun (k10 : Nat) (s199 : Bool × Int × List Bool) =>
      ((idxO l ((k10 : Nat) : Int)).bind fun a262 =>
        (subO (n : Int) 1).bind fun a264 =>
        (F_impl_within a262 0 a264).bind fun y266 =>
        (some (!y266)).bind fun a269 =>
        cond a269
        (some (false, s199.2.1, s199.2.2))
        ((idxO s199.2.2 a262).bind fun a278 =>
          (some (!a278)).bind fun a280 =>
          cond a280
          ((setO s199.2.2 a262 true).bind fun a290 =>
            (addO s199.2.1 1).bind fun a293 =>
            some (s199.1, a293, a290))
          (some (s199.1, s199.2.1, s199.2.2)))).bind fun (s250 : Bool × Int × List Bool) =>
      some (s250.1, s250.2.1, s250.2.2)) (fun j hj => by
    have hlen := seenN_le n (d ++ l.take j)
    have e1 : d ++ l.take (j + 1) = (d ++ l.take j) ++ [l[j]] := by rw [List.take_add_one, List.getElem?_eq_getElem hj]; simp
    have e2 : wOk n (d ++ l.take (j + 1)) = (wOk n (d ++ l.take j) && rng l[j] 0 (n - 1)) := by rw [e1, all_app]; congr 1; unfold wOk; simp
    refine bndW (bnd (idxO_of (List.getElem?_eq_getElem hj)) (bnd (subO_of (by omega) (by omega)) (bnd (within_ _ _ _) (stp rfl)))) ?_
    cases hr : rng l[j] 0 ((n : Int) - 1) with
    | false =>
      have h3 := seen_same n (d ++ l.take j) l[j] (.inr hr)
      rw [← e1] at h3
      rw [e2, hr, h3.1, h3.2, Bool.and_false]; rfl
    | true =>
      have hx := rng_true.1 hr
      obtain ⟨m, hme⟩ : ∃ m : Nat, l[j] = (m : Int) := ⟨l[j].toNat, by omega⟩
      rw [e2, hr, Bool.and_true, hme]
      refine bndW (bnd (tabl_idx _ (by omega)) (stp rfl)) ?_
      by_cases hm : (m : Int) ∈ d ++ l.take j
      · have h3 := seen_same n (d ++ l.take j) l[j] (.inl (by rw [hme]; exact hm))
        rw [← e1] at h3
        rw [dT hm, h3.1, h3.2]; rfl
      · have h3 := seen_step n (d ++ l.take j) m (by omega) hm
        rw [← hme, ← e1] at h3
        rw [dF hm]
        refine bndW (bnd (tabl_setO _ _ (by omega)) (bnd (addO_of (by dsimp only; omega) (by dsimp only; omega)) rfl)) ?_
        rw [h3.1]
        show some _ = some _
        refine congrArg some (Prod.ext rfl (Prod.ext ?_ ?_))
        · dsimp only; push_cast; rfl
        · dsimp only; rw [← h3.2])
  simp only [List.take_zero, List.append_nil, List.take_length] at this
  rw [this]; rfl
theorem isGraphL_ {n : Nat} (hn : n ≤ 100) (E : List Edg) (I O : List Int) : F_impl_Graph_lists_impl_Graph_isGraph_1 ((n : Int), E, I, O) ((n : Int), E, I, O) true (tabl n fun _ => false) 0 = some (wOk n (allW ((n : Int), E, I, O)), seenT n (allW ((n : Int), E, I, O)), ((seenN n (allW ((n : Int), E, I, O)) : Nat) : Int)) := by
  unfold F_impl_Graph_lists_impl_Graph_isGraph_1
  have h0 : (tabl n fun _ => false) = seenT n [] := by unfold seenT; simp
  have h1 : (0 : Int) = ((seenN n [] : Nat) : Int) := by unfold seenN; simp
  have h2 : true = wOk n [] := rfl
  rw [h0, h1, h2]
  refine bnd (isGraph1_ hn E I O I []) (bnd (isGraph1_ hn E I O O ([] ++ I)) ?_)
  have := forS_is (n := E.length) (fun j => (((seenN n ([] ++ I ++ O ++ ((E.take j).map fun e => edI e ++ edO e).flatten) : Nat) : Int), wOk n ([] ++ I ++ O ++ ((E.take j).map fun e => edI e ++ edO e).flatten), seenT n ([] ++ I ++ O ++ ((E.take j).map fun e => edI e ++ edO e).flatten))) (f := fun (k21 : Nat) (s74 : Int × Bool × List Bool) =>
      (idxO E ((k21 : Nat) : Int)).bind fun a89 =>
      (F_impl_Graph_isGraph_1 a89.2.2.1 ((n : Int), E, I, O) s74.2.1 s74.2.2 s74.1).bind fun y101 =>
      (F_impl_Graph_isGraph_1 a89.2.2.2 ((n : Int), E, I, O) y101.1 y101.2.1 y101.2.2).bind fun y104 =>
      some (y104.2.2, y104.1, y104.2.1)) (fun j hj => by
    have e1 : [] ++ I ++ O ++ ((E.take (j + 1)).map fun e => edI e ++ edO e).flatten = [] ++ I ++ O ++ ((E.take j).map fun e => edI e ++ edO e).flatten ++ edI E[j] ++ edO E[j] := by
      rw [List.take_add_one, List.getElem?_eq_getElem hj, List.map_append, List.flatten_append]
      simp only [Option.toList_some, List.map_cons, List.map_nil, List.flatten_cons, List.flatten_nil, List.append_nil, List.append_assoc]
    rw [e1]
    exact bnd (idxO_of (List.getElem?_eq_getElem hj)) (bnd (isGraph1_ hn E I O (edI E[j]) _) (bnd (isGraph1_ hn E I O (edO E[j]) _) rfl)))
  simp only [List.take_zero, List.take_length, List.map_nil, List.flatten_nil, List.append_nil] at this
  refine bnd this ?_
  unfold allW
  simp only [List.nil_append]
theorem wOk_allW {n : Int} {E : List Edg} {I O : List Int} (h : E.all arB = true) : wOk n (allW (n, E, I, O)) = (wOk n I && (wOk n O && E.all (edW n))) := by
  unfold allW
  rw [all_app, all_app, Bool.and_assoc]
  congr 2
  show wOk n (E.map fun e => edI e ++ edO e).flatten = E.all (edW n)
  clear I O
  induction E with
  | nil => rfl
  | cons e E ih =>
    simp only [List.all_cons, Bool.and_eq_true] at h
    rw [List.map_cons, List.flatten_cons, all_app, all_app, List.all_cons]
    rw [ih h.2]
    unfold edW
    rw [h.1, Bool.true_and]
theorem isGraph_ (g : Gra) : F_impl_Graph_isGraph g = some (gOk g) := by
  obtain ⟨n, E, I, O⟩ := g
  unfold F_impl_Graph_isGraph gOk
  cases hr : rng n 0 100 with
  | false => simp [within_, hr]
  | true =>
    have hn := rng_true.1 hr
    by_cases hE : E.length ≤ 60
    case neg =>
      have : (60 : Int) < (E.length : Int) := by omega
      simp [within_, hr, hE, this]
    have hE' : ¬ (60 : Int) < (E.length : Int) := by omega
    by_cases hI : I.length ≤ 12
    case neg =>
      have : (12 : Int) < (I.length : Int) := by omega
      simp [within_, hr, hE, hE', hI, this]
    have hI' : ¬ (12 : Int) < (I.length : Int) := by omega
    by_cases hO : O.length ≤ 12
    case neg =>
      have : (12 : Int) < (O.length : Int) := by omega
      simp [within_, hr, hE, hE', hI, hI', hO, this]
    have hO' : ¬ (12 : Int) < (O.length : Int) := by omega
    simp only [within_, hr, dF hE', dF hI', dF hO', dT hE, dT hI, dT hO, Option.bind_some, Bool.not_true, cond_false, Bool.true_and]
    obtain ⟨m, rfl⟩ : ∃ m : Nat, n = (m : Int) := ⟨n.toNat, by omega⟩
    refine sqW (forO_all arB E 0 ?_ (t := false)) ?_
    · intro j e hj
      rw [Nat.zero_add]
      refine bnd (idxO_of hj) (bnd (isEdge_ e) (stp ?_))
      cases arB e <;> rfl
    · cases hall : E.all arB with
      | false =>
        have : E.all (edW (m : Int)) = false := by
          cases h : E.all (edW (m : Int)) with
          | false => rfl
          | true => rw [edW_arB h] at hall; cases hall
        rw [this]
        simp [seqO]
      | true =>
        rw [if_pos rfl, seqO_l]
        refine bnd (tabl_make _ (by unfold maxN; omega)) (bnd (isGraphL_ (by omega) E I O) ?_)
        dsimp only
        rw [wOk_allW hall]
        have hcov : decide (((seenN m (allW ((m : Int), E, I, O)) : Nat) : Int) = (m : Int)) = (List.range m).all fun k : Nat => decide ((k : Int) ∈ allW ((m : Int), E, I, O)) := by
          rw [Bool.eq_iff_iff, decide_eq_true_eq, List.all_eq_true]
          have : seenN m (allW ((m : Int), E, I, O)) = (List.range m).length ↔ _ := List.countP_eq_length
          rw [List.length_range] at this
          rw [← this]; omega
        rw [hcov, Int.toNat_natCast]
        cases wOk (m : Int) I <;> cases wOk (m : Int) O <;> cases E.all (edW (m : Int)) <;> rfl
end Go.Proofs.YtbofgnbanmbopaaGreatDoor
namespace Go.Proofs.YtbofgnbanmbopaaGreatDoor

/-! ### loops by what holds in them -/
theorem whileO_rel {σ τ : Type} {f : σ → Option (σ ⊕ τ)} (I : σ → Prop) (Q : τ → Prop) (μ : σ → Nat) (h : ∀ s, I s → (∃ s', f s = some (.inl s') ∧ I s' ∧ μ s' < μ s) ∨ (∃ t, f s = some (.inr t) ∧ Q t)) {s : σ} (hs : I s) : ∃ t, whileO f s = some t ∧ Q t := by
  have key : ∀ n s, μ s ≤ n → I s → ∃ t, whileO f s = some t ∧ Q t := by
    intro n
    induction n with
    | zero =>
      intro s hn hs
      rcases h s hs with ⟨s', _, _, hl⟩ | ⟨t, ht, hq⟩
      · omega
      · exact ⟨t, whileO_end ht, hq⟩
    | succ n ih =>
      intro s hn hs
      rcases h s hs with ⟨s', h1, h2, hl⟩ | ⟨t, ht, hq⟩
      · obtain ⟨t, h3, h4⟩ := ih s' (by omega) h2
        exact ⟨t, by rw [whileO_step h1]; exact h3, h4⟩
      · exact ⟨t, whileO_end ht, hq⟩
  exact key _ s (Nat.le_refl _) hs
theorem whileO_num {σ τ : Type} {f : σ → Option (σ ⊕ τ)} (I : Nat → σ → Prop) (Q : τ → Prop) (N : Nat) (h : ∀ j s, j ≤ N → I j s → (∃ s', f s = some (.inl s') ∧ I (j + 1) s' ∧ j < N) ∨ (∃ t, f s = some (.inr t) ∧ Q t)) {s : σ} (hs : I 0 s) : ∃ t, whileO f s = some t ∧ Q t := by
  have key : ∀ d j s, j + d = N → I j s → ∃ t, whileO f s = some t ∧ Q t := by
    intro d
    induction d with
    | zero =>
      intro j s hj hI
      rcases h j s (by omega) hI with ⟨s', h1, h2, h3⟩ | ⟨t, h1, h2⟩
      · omega
      · exact ⟨t, whileO_end h1, h2⟩
    | succ d ih =>
      intro j s hj hI
      rcases h j s (by omega) hI with ⟨s', h1, h2, h3⟩ | ⟨t, h1, h2⟩
      · obtain ⟨t, k1, k2⟩ := ih (j + 1) s' (by omega) h2
        exact ⟨t, by rw [whileO_step h1]; exact k1, k2⟩
      · exact ⟨t, whileO_end h1, h2⟩
  exact key N 0 s (by omega) hs
theorem forS_inv {σ : Type} {f : Nat → σ → Option σ} (I : Nat → σ → Prop) : ∀ (n k : Nat) (s : σ), I k s → (∀ j s, k ≤ j → j < k + n → I j s → ∃ s', f j s = some s' ∧ I (j + 1) s') → ∃ r, forS f n k s = some r ∧ I (k + n) r
  | 0, k, s, h0, _ => ⟨s, rfl, h0⟩
  | n + 1, k, s, h0, h => by
    obtain ⟨s', h1, h2⟩ := h k s (Nat.le_refl _) (by omega) h0
    obtain ⟨r, h3, h4⟩ := forS_inv I n (k + 1) s' h2 (fun j s hj hl hi => h j s (by omega) (by omega) hi)
    refine ⟨r, ?_, by rwa [show k + 1 + n = k + (n + 1) by omega] at h4⟩
    show (f k s).bind _ = _
    rw [h1]; exact h3
theorem forS_rel {σ : Type} {f : Nat → σ → Option σ} {n : Nat} {s : σ} (I : Nat → σ → Prop) (h0 : I 0 s) (h : ∀ j s, j < n → I j s → ∃ s', f j s = some s' ∧ I (j + 1) s') : ∃ r, forS f n 0 s = some r ∧ I n r := by
  obtain ⟨r, h1, h2⟩ := forS_inv (f := f) I n 0 s h0 (fun j s _ hl hi => h j s (by omega) hi)
  exact ⟨r, h1, by rwa [Nat.zero_add] at h2⟩
theorem forO_inv {σ τ : Type} {f : Nat → σ → Option (σ ⊕ τ)} (I : Nat → σ → Prop) (Q : τ → Prop) : ∀ (n k : Nat) (s : σ), I k s → (∀ j s, k ≤ j → j < k + n → I j s → (∃ s', f j s = some (.inl s') ∧ I (j + 1) s') ∨ (∃ t, f j s = some (.inr t) ∧ Q t)) → (∃ r, forO f n k s = some (.inl r) ∧ I (k + n) r) ∨ (∃ t, forO f n k s = some (.inr t) ∧ Q t)
  | 0, k, s, h0, _ => .inl ⟨s, rfl, h0⟩
  | n + 1, k, s, h0, h => by
    rcases h k s (Nat.le_refl _) (by omega) h0 with ⟨s', h1, h2⟩ | ⟨t, h1, h2⟩
    · rcases forO_inv I Q n (k + 1) s' h2 (fun j s hj hl hi => h j s (by omega) (by omega) hi) with ⟨r, h3, h4⟩ | ⟨t, h3, h4⟩
      · refine .inl ⟨r, ?_, by rwa [show k + 1 + n = k + (n + 1) by omega] at h4⟩
        show (f k s).bind _ = _
        rw [h1]; exact h3
      · refine .inr ⟨t, ?_, h4⟩
        show (f k s).bind _ = _
        rw [h1]; exact h3
    · refine .inr ⟨t, ?_, h2⟩
      show (f k s).bind _ = _
      rw [h1]; rfl
theorem forO_rel {σ τ : Type} {f : Nat → σ → Option (σ ⊕ τ)} {n : Nat} {s : σ} (I : Nat → σ → Prop) (Q : τ → Prop) (h0 : I 0 s) (h : ∀ j s, j < n → I j s → (∃ s', f j s = some (.inl s') ∧ I (j + 1) s') ∨ (∃ t, f j s = some (.inr t) ∧ Q t)) : (∃ r, forO f n 0 s = some (.inl r) ∧ I n r) ∨ (∃ t, forO f n 0 s = some (.inr t) ∧ Q t) := by
  rcases forO_inv (f := f) I Q n 0 s h0 (fun j s _ hl hi => h j s (by omega) hi) with ⟨r, h1, h2⟩ | h
  · exact .inl ⟨r, h1, by rwa [Nat.zero_add] at h2⟩
  · exact .inr h

/-! ### tables of marks -/
/-- the marks: is x marked? -/
def M (s : List Bool) (x : Int) : Prop := idxO s x = some true
instance (s : List Bool) (x : Int) : Decidable (M s x) := by unfold M; infer_instance
theorem M_idx {s : List Bool} {x : Int} (h0 : 0 ≤ x) (h1 : x < s.length) : idxO s x = some (decide (M s x)) := by
  by_cases h : M s x
  · rw [dT h]; exact h
  · rw [dF h]
    obtain ⟨k, rfl⟩ : ∃ k : Nat, x = (k : Int) := ⟨x.toNat, by omega⟩
    unfold M at h
    rw [idxO_nat, List.getElem?_eq_getElem (by omega)] at h ⊢
    cases hs : s[k] with
    | false => rfl
    | true => rw [hs] at h; exact (h rfl).elim
theorem M_set {s : List Bool} {x : Int} (h0 : 0 ≤ x) (h1 : x < s.length) : setO s x true = some (s.set x.toNat true) ∧ ∀ y, M (s.set x.toNat true) y ↔ (M s y ∨ y = x) := by
  obtain ⟨k, rfl⟩ : ∃ k : Nat, x = (k : Int) := ⟨x.toNat, by omega⟩
  rw [Int.toNat_natCast]
  refine ⟨setO_of _ (by omega), fun y => ?_⟩
  unfold M idxO
  by_cases hy : 0 ≤ y
  · rw [if_pos hy, if_pos hy, List.getElem?_set]
    by_cases h : k = y.toNat
    · rw [if_pos h, if_pos (by omega)]
      exact ⟨fun _ => .inr (by omega), fun _ => rfl⟩
    · rw [if_neg h]
      exact ⟨.inl, fun h2 => by rcases h2 with h2 | h2; exact h2; omega⟩
  · rw [if_neg hy, if_neg hy]
    constructor
    · intro h; cases h
    · rintro (h | h)
      · cases h
      · omega
theorem M_rng {s : List Bool} {x : Int} (h : M s x) : 0 ≤ x ∧ x < s.length := by
  unfold M at h
  obtain ⟨k, rfl, _, hl⟩ := idxO_some h
  omega
theorem M_none (n : Nat) (x : Int) : ¬ M (tabl n fun _ => false) x := by
  intro h
  have h1 := M_rng h
  rw [tabl_len] at h1
  obtain ⟨k, rfl⟩ : ∃ k : Nat, x = (k : Int) := ⟨x.toNat, by omega⟩
  unfold M at h
  rw [tabl_idx _ (by omega)] at h; cases h

/-! ### what can be reached -/
def inRg (n : Nat) (l : List Int) : Prop := ∀ x ∈ l, 0 ≤ x ∧ x < (n : Int)
def edRg (n : Nat) (E : List Edg) : Prop := ∀ e ∈ E, inRg n (edI e) ∧ inRg n (edO e)

/-! ### the reference's search -/

/-! ### the program's search -/
end Go.Proofs.YtbofgnbanmbopaaGreatDoor
namespace Go.Proofs.YtbofgnbanmbopaaGreatDoor
def nIntS (a : List Int) : Nat := a.length
def nIntSS (a : List (List Int)) : Nat := rowsN a
def lensIntSS (a : List (List Int)) : Prop := lensOk a
theorem niceLensIntSS {a : List (List Int)} (h : Nice.ok a) : lensIntSS a := niceLens h
def cIntS (a : List Int) : Nat := rowN a
def cIntSS (a : List (List Int)) : Nat := tot rowN a
theorem cIntS_le (a : List Int) : cIntS a ≤ 8 * nIntS a := by unfold cIntS nIntS rowN; omega
theorem cIntSS_le (a : List (List Int)) : cIntSS a ≤ 8 * nIntSS a := by unfold cIntSS nIntSS rowsN; omega
def mk_IntS := mkS
def mk_IntSS := mkSS
theorem mk_IntS_snd (a : List Int) (k : Int) : (mk_IntS a k).2 = k + cIntS a := mkS_snd a k
theorem mk_IntSS_snd (a : List (List Int)) (k : Int) : (mk_IntSS a k).2 = k + cIntSS a := mkSS_snd a k
theorem z_IntSS (a : List (List Int)) (left : Int) (h0 : 0 ≤ left) (h1 : left ≤ bigN) (hl : lensIntSS a) : F_laws_szIntSS a left = some (if (nIntSS a : Int) ≤ left then left - nIntSS a else -1) := szIntSS a left h0 h1 hl
theorem t_IntSS (a : List (List Int)) (h : nIntSS a ≤ 1048576) : F_laws_toIntSS a = some a := toIntSS_of a h
theorem e_IntS (a : List Int) (h : nIntS a ≤ 1048576) : F_laws_eqIntS a a = some true := by rw [eqIntS a a (by unfold nIntS at h; unfold lenOk; omega), show decide (a = a) = true from dT rfl]
theorem e_IntSS (a : List (List Int)) (h : nIntSS a ≤ 1048576) : F_laws_eqIntSS a a = some true := eqIntSS_same a (lensOk_of h)
theorem m_IntS (a : List Int) (k : Int) (h0 : 0 ≤ k) (h : k + 8 * nIntS a ≤ 1125899906842624) : F_laws_markIntS a k = some (mk_IntS a k) := markIntS a k h0 (by unfold nIntS at h; unfold rowN bigN; omega)
theorem m_IntSS (a : List (List Int)) (k : Int) (h0 : 0 ≤ k) (h : k + 8 * nIntSS a ≤ 1125899906842624) : F_laws_markIntSS a k = some (mk_IntSS a k) := markIntSS a k h0 (by unfold nIntSS rowsN at h; unfold bigN; omega) (by unfold nIntSS rowsN at h; unfold bigN; omega)
theorem h_IntS (a : List Int) (k : Int) (h0 : 0 ≤ k) (h : k + 8 * nIntS a ≤ 1125899906842624) : F_laws_heldIntS (mk_IntS a k).1 k = some (k + cIntS a) := heldIntS a k h0 (by unfold nIntS at h; unfold rowN bigN; omega)
end Go.Proofs.YtbofgnbanmbopaaGreatDoor
namespace Go.Proofs.YtbofgnbanmbopaaGreatDoor

abbrev TyMatrix := Int × (List (List Int))
def nMatrix (a : TyMatrix) : Nat := nIntSS a.2
def lensMatrix (a : TyMatrix) : Prop := lensIntSS a.2
theorem z_Matrix (a : TyMatrix) (left : Int) (h0 : 0 ≤ left) (h1 : left ≤ bigN) (hl : lensMatrix a) : F_laws_szMatrix a left = some (if (nMatrix a : Int) ≤ left then left - nMatrix a else -1) := by
  unfold bigN at h1
  have l0 := hl
  unfold nMatrix
  refine bnd (z_IntSS a.2 (left) (by omega) (by unfold bigN; omega) l0) (stp ?_)
  by_cases g0 : (nIntSS a.2 : Int) ≤ left
  case neg =>
    rw [if_neg g0]; try rw [if_neg (by omega)]
    exact cTW (dT (by omega)) rfl
  rw [if_pos g0]
  try rw [if_pos (by omega)]
  refine cFW (dF (by omega)) ?_
  congr 1; try omega
theorem niceLensMatrix {a : TyMatrix} (h : Nice.ok a) : lensMatrix a := by
  obtain ⟨h0, h1⟩ := h
  exact niceLensIntSS h1
theorem t_Matrix (a : TyMatrix) (h : nMatrix a ≤ 1048576) : F_laws_toMatrix a = some a := by
  unfold nMatrix at h
  exact bnd (t_IntSS a.2 (by omega)) (rfl)
theorem e_Matrix (a : TyMatrix) (h : nMatrix a ≤ 1048576) : F_laws_eqMatrix a a = some true := by
  unfold nMatrix at h
  exact stp (cFW (nT (dT rfl)) (bnd (e_IntSS a.2 (by omega)) (stp (cFW rfl (rfl)))))
def mk_Matrix (a : TyMatrix) (k : Int) : TyMatrix × Int := ((a.1, (mk_IntSS a.2 k).1), (mk_IntSS a.2 k).2)
def cMatrix (a : TyMatrix) : Nat := cIntSS a.2
theorem cMatrix_le (a : TyMatrix) : cMatrix a ≤ 8 * nMatrix a := by
  unfold cMatrix nMatrix
  have h1 := cIntSS_le a.2
  omega
theorem mk_Matrix_snd (a : TyMatrix) (k : Int) : (mk_Matrix a k).2 = k + cMatrix a := by
  unfold mk_Matrix cMatrix
  simp only [mk_IntSS_snd]
  try omega
theorem m_Matrix (a : TyMatrix) (k : Int) (h0 : 0 ≤ k) (h : k + 8 * nMatrix a ≤ 1125899906842624) : F_laws_markMatrix a k = some (mk_Matrix a k) := by
  unfold nMatrix at h
  have h1 := cIntSS_le a.2
  exact bnd (m_IntSS _ _ h0 (by omega)) (rfl)
end Go.Proofs.YtbofgnbanmbopaaGreatDoor
namespace Go.Proofs.YtbofgnbanmbopaaGreatDoor
set_option linter.unusedVariables false

theorem nE_sum {α : Type} (f : α → Nat) (l : List α) : tot (fun x => 8 * (1 + f x)) l = 8 * (l.length + tot f l) := by
  induction l with
  | nil => rfl
  | cons a l ih => rw [tot_cons, tot_cons, ih, List.length_cons]; omega
theorem totLe2 {α : Type} {f g : α → Nat} (h : ∀ a, f a ≤ g a) (l : List α) : tot f l ≤ tot g l := by
  induction l with
  | nil => exact Nat.le_refl _
  | cons a l ih => rw [tot_cons, tot_cons]; have := h a; omega
theorem mark_loop2 {α : Type} (mk : α → Int → α × Int) (n M : α → Nat) (hmk : ∀ a k, (mk a k).2 = k + n a) (hnM : ∀ a, n a ≤ M a) {f : List α × Int × Int → Option ((List α × Int × Int) ⊕ (List α × Int))} (N : Nat) (B : Int)
    (hf : ∀ (j : Nat) (a : α) (s : List α) (q : Int), s[j]? = some a → s.length = N → j < N → 0 ≤ q → q + M a ≤ B → f (s, q, (j : Int)) = some (.inl (s.set j (mk a q).1, (mk a q).2, (j : Int) + 1)))
    (he : ∀ (s : List α) (q : Int), s.length = N → f (s, q, (N : Int)) = some (.inr (s, q))) : ∀ (rest pre : List α) (q : Int), pre.length + rest.length = N → 0 ≤ q → q + tot M rest ≤ B → whileO f (pre ++ rest, q, (pre.length : Int)) = some (pre ++ (mkL mk rest q).1, (mkL mk rest q).2)
  | [], pre, q, hN, _, _ => by
    have h1 : pre.length = N := by simpa using hN
    have := he pre q h1
    rw [← h1] at this
    rw [List.append_nil, whileO_end this]; simp [mkL]
  | a :: rest, pre, q, hN, h0, hB => by
    rw [tot_cons] at hB
    have hn := hnM a
    have h1 := hf pre.length a (pre ++ a :: rest) q (get_app _ _ _) (by simpa using hN) (by simp at hN; omega) h0 (by omega)
    have ih := mark_loop2 mk n M hmk hnM N B hf he rest (pre ++ [(mk a q).1]) (mk a q).2 (by simp at hN ⊢; omega) (by rw [hmk]; omega) (by rw [hmk]; omega)
    rw [set_app, app1 pre rest (mk a q).1, ← len1 pre (mk a q).1] at h1
    rw [whileO_step h1, ih]
    simp [mkL]
theorem held_loop2 {α : Type} (mk : α → Int → α × Int) (n M : α → Nat) (hmk : ∀ a k, (mk a k).2 = k + n a) (hnM : ∀ a, n a ≤ M a) {f : Int × Int → Option ((Int × Int) ⊕ (Int ⊕ Int))} (L : List α) (B : Int)
    (hf : ∀ (j : Nat) (a : α) (q : Int), L[j]? = some (mk a q).1 → j < L.length → 0 ≤ q → q + M a ≤ B → f (q, (j : Int)) = some (.inl (q + n a, (j : Int) + 1)))
    (he : ∀ q : Int, f (q, (L.length : Int)) = some (.inr (.inl q))) : ∀ (rest pre : List α) (q : Int), L = pre ++ (mkL mk rest q).1 → 0 ≤ q → q + tot M rest ≤ B → whileO f (q, (pre.length : Int)) = some (.inl (q + tot n rest))
  | [], pre, q, hL, _, _ => by
    have := he q
    rw [hL] at this
    have h2 : pre ++ (mkL mk [] q).1 = pre := by simp [mkL]
    rw [h2] at this
    rw [whileO_end this, tot_nil]; simp
  | a :: rest, pre, q, hL, h0, hB => by
    rw [tot_cons] at hB
    have hn := hnM a
    have hL' : L = pre ++ (mk a q).1 :: (mkL mk rest (q + n a)).1 := by rw [hL]; show _ = _; rw [← hmk]; rfl
    have h1 := hf pre.length a q (by rw [hL']; exact get_app _ _ _) (by rw [hL']; simp) h0 (by omega)
    have ih := held_loop2 mk n M hmk hnM L B hf he rest (pre ++ [(mk a q).1]) (q + n a) (by rw [hL', app1]) (by omega) (by omega)
    rw [len1] at ih
    rw [whileO_step h1, ih, tot_cons]; congr 2; omega

abbrev TyEdge := Int × Int × (List Int) × (List Int)
def nEdge (a : TyEdge) : Nat := nIntS a.2.2.1 + nIntS a.2.2.2
theorem e_Edge (a : TyEdge) (h : nEdge a ≤ 1048576) : F_laws_eqEdge a a = some true := by
  unfold nEdge at h
  exact stp (cFW (nT (dT rfl)) (stp (cFW (nT (dT rfl)) (bnd (e_IntS a.2.2.1 (by omega)) (stp (cFW rfl (bnd (e_IntS a.2.2.2 (by omega)) (stp (cFW rfl (rfl))))))))))
abbrev TyEdgeS := List TyEdge
def nEdgeS (a : TyEdgeS) : Nat := a.length + tot nEdge a
theorem e_EdgeS (a : TyEdgeS) (h : nEdgeS a ≤ 1048576) : F_laws_eqEdgeS a a = some true := by
  unfold nEdgeS at h
  refine stp (cFW (nT (dT rfl)) (sqW (whileO_is (fun j => (j : Int)) (t := .inl ()) a.length ?_ ?_) ?_))
  · intro j hj
    exact stp (cTW (dT (by omega)) (bnd (idxO_of (List.getElem?_eq_getElem hj)) (bnd (idxO_of (List.getElem?_eq_getElem hj)) (bnd (e_Edge a[j] (by have := tot_mem (n := nEdge) (List.getElem_mem hj); omega)) (stp (cFW rfl (bnd (addO_of (by omega) (by omega)) rfl)))))))
  · exact stp (cFW (dF (by omega)) rfl)
  · rfl
def mkE_Edge (x : TyEdge) (q : Int) : TyEdge × Int := ((q, (q + 1), (mk_IntS x.2.2.1 ((q + 1) + 1)).1, (mk_IntS x.2.2.2 (mk_IntS x.2.2.1 ((q + 1) + 1)).2).1), (mk_IntS x.2.2.2 (mk_IntS x.2.2.1 ((q + 1) + 1)).2).2)
def cE_Edge (x : TyEdge) : Nat := 2 + cIntS x.2.2.1 + cIntS x.2.2.2
theorem mkE_Edge_snd (x : TyEdge) (q : Int) : (mkE_Edge x q).2 = q + cE_Edge x := by
  unfold mkE_Edge cE_Edge
  simp only [mk_IntS_snd]
  omega
theorem cE_Edge_le (x : TyEdge) : cE_Edge x ≤ 8 * (1 + nEdge x) := by
  unfold cE_Edge nEdge
  have h2 := cIntS_le x.2.2.1
  have h3 := cIntS_le x.2.2.2
  omega
def mk_EdgeS : TyEdgeS → Int → TyEdgeS × Int := mkL mkE_Edge
def cEdgeS (a : TyEdgeS) : Nat := tot cE_Edge a
theorem cEdgeS_le (a : TyEdgeS) : cEdgeS a ≤ 8 * nEdgeS a := by
  have := totLe2 cE_Edge_le a
  rw [nE_sum] at this
  exact this
theorem mk_EdgeS_snd (a : TyEdgeS) (k : Int) : (mk_EdgeS a k).2 = k + cEdgeS a := mkL_snd mkE_Edge cE_Edge mkE_Edge_snd a k
theorem m_EdgeS (a : TyEdgeS) (k : Int) (h0 : 0 ≤ k) (h : k + 8 * nEdgeS a ≤ 1125899906842624) : F_laws_markEdgeS a k = some (mk_EdgeS a k) := by
  have hsum := nE_sum nEdge a
  unfold nEdgeS at h
  refine bnd (mark_loop2 mkE_Edge cE_Edge (fun x => 8 * (1 + nEdge x)) mkE_Edge_snd cE_Edge_le a.length 1125899906842624 ?_ ?_ a [] k (by simp) h0 (by rw [hsum]; omega)) rfl
  · intro j x s q hj hs hjl hq hB
    dsimp only at hB ⊢
    unfold nEdge at hB
    have b2 := cIntS_le x.2.2.1
    have b3 := cIntS_le x.2.2.2
    refine stp (cTW (dT (by omega)) ?_)
    refine bnd (idxO_of hj) ?_
    refine bnd (setO_of _ (by omega)) ?_
    refine bnd (addO_of (by omega) (by omega)) ?_
    refine bnd (idxO_of (a := (q, x.2.1, x.2.2.1, x.2.2.2)) (by rw [List.getElem?_set_self (by omega)])) ?_
    refine bnd (setO_of _ (by simp only [List.length_set]; omega)) ?_
    refine bnd (addO_of (by omega) (by omega)) ?_
    refine bnd (idxO_of (a := (q, (q + 1), x.2.2.1, x.2.2.2)) (by rw [List.getElem?_set_self (by simp only [List.length_set]; omega)])) ?_
    refine bnd (m_IntS x.2.2.1 ((q + 1) + 1) (by omega) (by omega)) ?_
    refine bnd (setO_of _ (by simp only [List.length_set]; omega)) ?_
    refine bnd (idxO_of (a := (q, (q + 1), (mk_IntS x.2.2.1 ((q + 1) + 1)).1, x.2.2.2)) (by rw [List.getElem?_set_self (by simp only [List.length_set]; omega)])) ?_
    refine bnd (m_IntS x.2.2.2 (mk_IntS x.2.2.1 ((q + 1) + 1)).2 (by simp only [mk_IntS_snd]; omega) (by simp only [mk_IntS_snd]; omega)) ?_
    refine bnd (setO_of _ (by simp only [List.length_set]; omega)) ?_
    refine bnd (addO_of (by omega) (by omega)) ?_
    simp only [List.set_set]; rfl
  · intro s q hs; dsimp only; exact stp (cFW (dF (by omega)) rfl)
theorem h_EdgeS (a : TyEdgeS) (k : Int) (h0 : 0 ≤ k) (h : k + 8 * nEdgeS a ≤ 1125899906842624) : F_laws_heldEdgeS (mk_EdgeS a k).1 k = some (k + cEdgeS a) := by
  have hsum := nE_sum nEdge a
  unfold nEdgeS at h
  refine sqW (held_loop2 mkE_Edge cE_Edge (fun x => 8 * (1 + nEdge x)) mkE_Edge_snd cE_Edge_le (mk_EdgeS a k).1 1125899906842624 ?_ ?_ a [] k rfl h0 (by rw [hsum]; omega)) ?_
  · intro j x q hj hjl hq hB
    dsimp only at hB ⊢
    unfold nEdge at hB
    have hlen : (mk_EdgeS a k).1.length = a.length := mkL_len mkE_Edge a k
    have b2 := cIntS_le x.2.2.1
    have b3 := cIntS_le x.2.2.2
    have e2 := h_IntS x.2.2.1 ((q + 1) + 1) (by omega) (by omega)
    have e3 := h_IntS x.2.2.2 (mk_IntS x.2.2.1 ((q + 1) + 1)).2 (by simp only [mk_IntS_snd]; omega) (by simp only [mk_IntS_snd]; omega)
    simp only [mk_IntS_snd] at e3
    refine stp (cTW (dT (by omega)) ?_)
    refine bnd (idxO_of hj) ?_
    refine stp (cFW (nT (dT (by rfl))) ?_)
    refine bnd (addO_of (by omega) (by omega)) ?_
    refine bnd (idxO_of hj) ?_
    refine stp (cFW (nT (dT (by rfl))) ?_)
    refine bnd (addO_of (by omega) (by omega)) ?_
    refine bnd (idxO_of hj) ?_
    refine bnd (by unfold mkE_Edge; dsimp only; exact e2) (stp (cFW (dF (by omega)) ?_))
    refine bnd (idxO_of hj) ?_
    refine bnd (by unfold mkE_Edge; simp only [mk_IntS_snd]; exact e3) (stp (cFW (dF (by omega)) ?_))
    refine bnd (addO_of (by omega) (by omega)) ?_
    refine congrArg some (congrArg Sum.inl (Prod.ext ?_ rfl))
    unfold cE_Edge; dsimp only; push_cast; omega
  · intro q; dsimp only; exact stp (cFW (dF (by omega)) rfl)
  · rfl
abbrev TyGraph := Int × (List (Int × Int × (List Int) × (List Int))) × (List Int) × (List Int)
def nGraph (a : TyGraph) : Nat := nEdgeS a.2.1 + nIntS a.2.2.1 + nIntS a.2.2.2
theorem e_Graph (a : TyGraph) (h : nGraph a ≤ 1048576) : F_laws_eqGraph a a = some true := by
  unfold nGraph at h
  exact stp (cFW (nT (dT rfl)) (bnd (e_EdgeS a.2.1 (by omega)) (stp (cFW rfl (bnd (e_IntS a.2.2.1 (by omega)) (stp (cFW rfl (bnd (e_IntS a.2.2.2 (by omega)) (stp (cFW rfl (rfl)))))))))))
def mk_Graph (a : TyGraph) (k : Int) : TyGraph × Int := ((a.1, (mk_EdgeS a.2.1 k).1, (mk_IntS a.2.2.1 (mk_EdgeS a.2.1 k).2).1, (mk_IntS a.2.2.2 (mk_IntS a.2.2.1 (mk_EdgeS a.2.1 k).2).2).1), (mk_IntS a.2.2.2 (mk_IntS a.2.2.1 (mk_EdgeS a.2.1 k).2).2).2)
def cGraph (a : TyGraph) : Nat := cEdgeS a.2.1 + cIntS a.2.2.1 + cIntS a.2.2.2
theorem cGraph_le (a : TyGraph) : cGraph a ≤ 8 * nGraph a := by
  unfold cGraph nGraph
  have h1 := cEdgeS_le a.2.1
  have h2 := cIntS_le a.2.2.1
  have h3 := cIntS_le a.2.2.2
  omega
theorem mk_Graph_snd (a : TyGraph) (k : Int) : (mk_Graph a k).2 = k + cGraph a := by
  unfold mk_Graph cGraph
  simp only [mk_EdgeS_snd, mk_IntS_snd]
  try omega
theorem m_Graph (a : TyGraph) (k : Int) (h0 : 0 ≤ k) (h : k + 8 * nGraph a ≤ 1125899906842624) : F_laws_markGraph a k = some (mk_Graph a k) := by
  unfold nGraph at h
  have h1 := cEdgeS_le a.2.1
  have h2 := cIntS_le a.2.2.1
  have h3 := cIntS_le a.2.2.2
  exact bnd (m_EdgeS _ _ h0 (by omega)) (bnd (m_IntS _ _ (by simp only [mk_EdgeS_snd]; omega) (by simp only [mk_EdgeS_snd]; omega)) (bnd (m_IntS _ _ (by simp only [mk_EdgeS_snd, mk_IntS_snd]; omega) (by simp only [mk_EdgeS_snd, mk_IntS_snd]; omega)) (rfl)))
theorem h_Graph (a : TyGraph) (k : Int) (h0 : 0 ≤ k) (h : k + 8 * nGraph a ≤ 1125899906842624) : F_laws_heldGraph (mk_Graph a k).1 k = some (k + cGraph a) := by
  unfold nGraph at h
  have h1 := cEdgeS_le a.2.1
  have h2 := cIntS_le a.2.2.1
  have h3 := cIntS_le a.2.2.2
  have e0 : F_laws_heldEdgeS (mk_EdgeS a.2.1 k).1 k = some (k + cEdgeS a.2.1) := h_EdgeS _ _ h0 (by omega)
  have e1 : F_laws_heldIntS (mk_IntS a.2.2.1 (mk_EdgeS a.2.1 k).2).1 (mk_EdgeS a.2.1 k).2 = some ((mk_EdgeS a.2.1 k).2 + cIntS a.2.2.1) := h_IntS _ _ (by simp only [mk_EdgeS_snd]; omega) (by simp only [mk_EdgeS_snd]; omega)
  have e2 : F_laws_heldIntS (mk_IntS a.2.2.2 (mk_IntS a.2.2.1 (mk_EdgeS a.2.1 k).2).2).1 (mk_IntS a.2.2.1 (mk_EdgeS a.2.1 k).2).2 = some ((mk_IntS a.2.2.1 (mk_EdgeS a.2.1 k).2).2 + cIntS a.2.2.2) := h_IntS _ _ (by simp only [mk_EdgeS_snd, mk_IntS_snd]; omega) (by simp only [mk_EdgeS_snd, mk_IntS_snd]; omega)
  simp only [mk_EdgeS_snd] at e1
  simp only [mk_EdgeS_snd, mk_IntS_snd] at e2
  unfold cGraph mk_Graph
  refine bnd e0 (stp (cFW (dF (by omega)) ?_))
  refine bnd (by simp only [mk_EdgeS_snd]; exact e1) (stp (cFW (dF (by omega)) ?_))
  refine bnd (by simp only [mk_EdgeS_snd, mk_IntS_snd]; exact e2) (stp (cFW (dF (by omega)) ?_))
  refine congrArg some ?_
  try simp only [mk_EdgeS_snd, mk_IntS_snd]
  try omega
end Go.Proofs.YtbofgnbanmbopaaGreatDoor
namespace Go.Proofs.YtbofgnbanmbopaaGreatDoor

structure GOk (g : Gra) (n : Nat) : Prop where
  w : g.1 = (n : Int)
  n100 : n ≤ 100
  e60 : g.2.1.length ≤ 60
  i12 : g.2.2.1.length ≤ 12
  o12 : g.2.2.2.length ≤ 12
  i : inRg n g.2.2.1
  o : inRg n g.2.2.2
  e : edRg n g.2.1
  ar : g.2.1.all arB = true
  ti : totE g.2.1 edI ≤ 120
  to : totE g.2.1 edO ≤ 120
  cov : ∀ k : Nat, k < n → (k : Int) ∈ allW g
theorem gOk_facts {g : Gra} (h : gOk g = true) : ∃ n, GOk g n := by
  unfold gOk at h
  simp only [Bool.and_eq_true, decide_eq_true_eq] at h
  obtain ⟨h1, h2, h3, h4, h5, h6, h7, h8⟩ := h
  have hr := rng_true.1 h1
  obtain ⟨n, hn⟩ : ∃ n : Nat, g.1 = (n : Int) := ⟨g.1.toNat, by omega⟩
  rw [hn] at h5 h6 h7 h8
  have h9 := totE_le (edW_arB h7)
  refine ⟨n, hn, by omega, h2, h3, h4, inW_rng h5, inW_rng h6, edW_rng h7, edW_arB h7, by omega, by omega, fun k hk => ?_⟩
  rw [Int.toNat_natCast] at h8
  exact of_decide_eq_true (List.all_eq_true.1 h8 k (List.mem_range.2 hk))

end Go.Proofs.YtbofgnbanmbopaaGreatDoor
namespace Go.Proofs.YtbofgnbanmbopaaGreatDoor

/-! ### tables that a loop fills -/
def tabF {α : Type} (f f0 : Nat → α) (j : Nat) : Nat → α := fun k => if k < j then f k else f0 k
theorem tabF_step {α : Type} {n : Nat} (f f0 : Nat → α) (j : Nat) : (tabl n fun k => if k = j then f j else tabF f f0 j k) = tabl n (tabF f f0 (j + 1)) := by
  refine tabl_ext fun k _ => ?_
  unfold tabF
  by_cases h : k = j
  · subst h; rw [if_pos rfl, if_pos (by omega)]
  · rw [if_neg h]
    by_cases h2 : k < j
    · rw [if_pos h2, if_pos (by omega)]
    · rw [if_neg h2, if_neg (by omega)]
theorem fill_loop {α : Type} {n : Nat} (f f0 : Nat → α) {g : Nat → List α → Option (List α)} (hg : ∀ j, j < n → g j (tabl n (tabF f f0 j)) = some (tabl n fun k => if k = j then f j else tabF f f0 j k)) : forS g n 0 (tabl n f0) = some (tabl n f) := by
  have := forS_is (f := g) (n := n) (fun j => tabl n (tabF f f0 j)) (fun j hj => by rw [hg j hj, tabF_step])
  have e0 : tabl n (tabF f f0 0) = tabl n f0 := tabl_ext fun k _ => by unfold tabF; rw [if_neg (by omega)]
  have e1 : tabl n (tabF f f0 n) = tabl n f := tabl_ext fun k hk => by unfold tabF; rw [if_pos hk]
  rw [e0, e1] at this
  exact this
theorem upT_ {n : Nat} (h : n ≤ 1048576) : F_impl_upTo (n : Int) = some (tabl n fun k => (k : Int)) := by
  have hm : maxN = 1099511627776 := rfl
  refine bnd (zeros_ (by omega)) ?_
  rw [tabl_rep, tabl_len]
  exact bnd (fill_loop (fun k => (k : Int)) (fun _ => 0) (fun j hj => bnd (tabl_setO _ _ hj) rfl)) rfl

/-! ### other wires -/
def mp (t : Nat → Int) (l : List Int) : List Int := l.map fun x => t x.toNat
def mpE (t : Nat → Int) (e : Edg) : Edg := (e.1, e.2.1, mp t (edI e), mp t (edO e))
def mpG (n : Int) (t : Nat → Int) (g : Gra) : Gra := (n, g.2.1.map (mpE t), mp t g.2.2.1, mp t g.2.2.2)
theorem hgList_ {n : Nat} {l : List Int} (t : Nat → Int) (h : inRg n l) (hl : l.length ≤ 1048576) : F_spec_hgList l (tabl n t) = some (mp t l) := by
  have hm : maxN = 1099511627776 := rfl
  refine bnd (forS_map (fun x => t x.toNat) l [] (by simp; omega) (fun j x s' hj hs => ?_)) rfl
  have hx := h x (mem_of_get hj)
  obtain ⟨k, rfl⟩ : ∃ k : Nat, x = (k : Int) := ⟨x.toNat, by omega⟩
  have hjl := (List.getElem?_eq_some_iff.1 hj).1
  refine bnd (idxO_of hj) (bnd (tabl_idx _ (by omega)) (bnd (appO_of (by simp at hs ⊢; omega)) ?_))
  rfl
theorem mapped_ {n : Nat} {l : List Int} (t : Nat → Int) (h : inRg n l) (hl : l.length ≤ 1048576) : F_impl_mapped l (tabl n t) = some (mp t l) := by
  have hm : maxN = 1099511627776 := rfl
  refine bnd (bnd (makeCO_of0 _ (by omega)) (bnd (forS_map (fun x => t x.toNat) l [] (by simp; omega) (fun j x s' hj hs => ?_)) rfl)) rfl
  have hx := h x (mem_of_get hj)
  obtain ⟨k, rfl⟩ : ∃ k : Nat, x = (k : Int) := ⟨x.toNat, by omega⟩
  have hjl := (List.getElem?_eq_some_iff.1 hj).1
  refine bnd (idxO_of hj) (bnd (tabl_idx _ (by omega)) (bnd (appO_of (by simp at hs ⊢; omega)) ?_))
  rfl
theorem len_tot {E : List Edg} {e : Edg} (s : Edg → List Int) (h : e ∈ E) : (s e).length ≤ totE E s := by
  unfold totE
  induction E with
  | nil => cases h
  | cons x E ih =>
    rw [List.map_cons, List.flatten_cons, List.length_append]
    rcases List.mem_cons.1 h with rfl | h
    · omega
    · have := ih h; omega
/-- a graph's parts in range, and short -/
structure Rgd (n : Nat) (g : Gra) : Prop where
  i : inRg n g.2.2.1
  o : inRg n g.2.2.2
  e : edRg n g.2.1
  li : g.2.2.1.length ≤ 1000
  lo : g.2.2.2.length ≤ 1000
  le : g.2.1.length ≤ 1000
  ti : totE g.2.1 edI ≤ 1000
  to : totE g.2.1 edO ≤ 1000
theorem GOk.rgd {g : Gra} {n : Nat} (h : GOk g n) : Rgd n g := by
  have := h.i12; have := h.o12; have := h.e60; have := h.ti; have := h.to
  exact ⟨h.i, h.o, h.e, by omega, by omega, by omega, by omega, by omega⟩
theorem hgMap_ {n : Nat} {g : Gra} (t : Nat → Int) (w : Int) (h : Rgd n g) : F_spec_hgMap g (tabl n t) w = some (mpG w t g) := by
  have hm : maxN = 1099511627776 := rfl
  obtain ⟨w0, E, I, O⟩ := g
  obtain ⟨h1, h2, h3, h4, h5, h6, h7, h8⟩ := h
  dsimp only at h1 h2 h3 h4 h5 h6 h7 h8
  refine bnd (bnd (hgList_ t h1 (by dsimp only; omega)) (bnd (hgList_ t h2 (by dsimp only; omega)) rfl)) ?_
  refine bnd (forS_map (mpE t) E [] (by simp; omega) (fun j e s' hj hs => ?_)) rfl
  have he := mem_of_get hj
  have hjl := (List.getElem?_eq_some_iff.1 hj).1
  have l1 := len_tot edI he
  have l2 := len_tot edO he
  exact bnd (idxO_of hj) (bnd (hgList_ t (h3 e he).1 (show (edI e).length ≤ _ by omega)) (bnd (hgList_ t (h3 e he).2 (show (edO e).length ≤ _ by omega)) (bnd (appO_of (by simp at hs ⊢; omega)) rfl)))
theorem moved_ {n : Nat} {g : Gra} (t : Nat → Int) (w : Int) (h : Rgd n g) : F_impl_Graph_moved g w (tabl n t) = some (mpG w t g) := by
  have hm : maxN = 1099511627776 := rfl
  obtain ⟨w0, E, I, O⟩ := g
  obtain ⟨h1, h2, h3, h4, h5, h6, h7, h8⟩ := h
  dsimp only at h1 h2 h3 h4 h5 h6 h7 h8
  refine bnd (bnd (mapped_ t h1 (by dsimp only; omega)) (bnd (mapped_ t h2 (by dsimp only; omega)) rfl)) ?_
  refine bnd (forS_map (mpE t) E [] (by simp; omega) (fun j e s' hj hs => ?_)) rfl
  have he := mem_of_get hj
  have hjl := (List.getElem?_eq_some_iff.1 hj).1
  have l1 := len_tot edI he
  have l2 := len_tot edO he
  exact bnd (idxO_of hj) (bnd (mapped_ t (h3 e he).1 (show (edI e).length ≤ _ by omega)) (bnd (mapped_ t (h3 e he).2 (show (edO e).length ≤ _ by omega)) (bnd (appO_of (by simp at hs ⊢; omega)) rfl)))

/-! ### beside each other -/
theorem mp_len (t : Nat → Int) (l : List Int) : (mp t l).length = l.length := by unfold mp; rw [List.length_map]
theorem joined2_ {a b : List Int} (h : a.length + b.length ≤ 1048576) : F_impl_joined [a, b] = some (a ++ b) := by
  have hm : maxN = 1099511627776 := rfl
  refine bnd (a := a ++ b) ?_ rfl
  refine bnd (a := a) (bnd (a := a) rfl (bnd (appO_of (by simp; omega)) rfl)) (bnd (a := a ++ b) (bnd (a := b) rfl (bnd (appO_of (by omega)) rfl)) rfl)
def noG : Gra := (0, [], [], [])
end Go.Proofs.YtbofgnbanmbopaaGreatDoor
namespace Go.Proofs.YtbofgnbanmbopaaGreatDoor

/-! ### classes -/
def joinC (c : Nat → Nat) (u v : Nat) : Nat → Nat := fun w => if c w = max (c u) (c v) then min (c u) (c v) else c w
structure Cls (c : Nat → Nat) : Prop where
  le : ∀ w, c w ≤ w
  idem : ∀ w, c (c w) = c w
theorem Cls.join {c : Nat → Nat} (h : Cls c) (u v : Nat) : Cls (joinC c u v) := by
  have iu := h.idem u; have iv := h.idem v
  refine ⟨fun w => ?_, fun w => ?_⟩
  · unfold joinC
    have := h.le w
    split <;> omega
  · unfold joinC
    by_cases hw : c w = max (c u) (c v)
    · rw [if_pos hw]
      have hk : c (min (c u) (c v)) = min (c u) (c v) := by
        rcases Nat.le_total (c u) (c v) with h1 | h1
        · rw [Nat.min_eq_left h1, iu]
        · rw [Nat.min_eq_right h1, iv]
      rw [hk]
      split <;> rfl
    · rw [if_neg hw, h.idem w, if_neg hw]

/-! ### the program's forest -/
structure Forest (n : Nat) (c cls : Nat → Nat) : Prop where
  le : ∀ w, w < n → c w ≤ w
  fix : ∀ w, w < n → c w = w → cls w = w
  up : ∀ w, w < n → cls (c w) = cls w
def tabN (n : Nat) (c : Nat → Nat) : List Int := tabl n fun k => (c k : Int)
theorem root_ {n : Nat} {c cls : Nat → Nat} (h : Forest n c cls) {w : Nat} (hw : w < n) : F_impl_classes_root (tabN n c) (w : Int) = some (cls w : Int) := by
  obtain ⟨t, h1, rfl⟩ := whileO_rel (f := fun (s126 : Int) =>
      (idxO (tabN n c) s126).bind fun a141 =>
      (some (!decide (a141 = s126))).bind fun a143 =>
      cond a143
      ((idxO (tabN n c) s126).bind fun a154 =>
        some (.inl a154))
      (some (.inr s126))) (fun s => ∃ k : Nat, s = (k : Int) ∧ k < n ∧ cls k = cls w) (fun t => t = (cls w : Int)) (fun s => s.toNat) (by
    rintro s ⟨k, rfl, hk, he⟩
    have hi : idxO (tabN n c) (k : Int) = some (c k : Int) := tabl_idx _ hk
    have hle := h.le k hk
    by_cases hf : c k = k
    · refine .inr ⟨(k : Int), bnd hi (stp (cFW (nT (dT (by omega))) rfl)), ?_⟩
      rw [← he, h.fix k hk hf]
    · exact .inl ⟨(c k : Int), bnd hi (stp (cTW (nF (dF (by omega))) (bnd hi rfl))), ⟨c k, rfl, by omega, by rw [h.up k hk, he]⟩, by omega⟩) (s := (w : Int)) ⟨w, rfl, hw, rfl⟩
  exact bnd h1 rfl
theorem Forest.join {n : Nat} {c cls : Nat → Nat} (h : Forest n c cls) (hc : Cls cls) (u v : Nat) : Forest n (fun k => if k = max (cls u) (cls v) then min (cls u) (cls v) else c k) (joinC cls u v) := by
  have iu := hc.idem u; have iv := hc.idem v
  have hm : cls (max (cls u) (cls v)) = max (cls u) (cls v) := by
    rcases Nat.le_total (cls u) (cls v) with h1 | h1
    · rw [Nat.max_eq_right h1, iv]
    · rw [Nat.max_eq_left h1, iu]
  have hk : cls (min (cls u) (cls v)) = min (cls u) (cls v) := by
    rcases Nat.le_total (cls u) (cls v) with h1 | h1
    · rw [Nat.min_eq_left h1, iu]
    · rw [Nat.min_eq_right h1, iv]
  refine ⟨fun w hw => ?_, fun w hw => ?_, fun w hw => ?_⟩
  · have := h.le w hw
    split <;> omega
  · unfold joinC
    intro hf
    by_cases hwm : w = max (cls u) (cls v)
    · rw [if_pos hwm] at hf
      subst hwm
      rw [hm, if_pos rfl]; exact hf
    · rw [if_neg hwm] at hf
      have := h.fix w hw hf
      rw [this, if_neg hwm]
  · unfold joinC
    by_cases hwm : w = max (cls u) (cls v)
    · rw [if_pos hwm, hwm, hm, if_pos rfl, hk]
      split <;> rfl
    · rw [if_neg hwm, h.up w hw]
theorem maxI2_nat (a b : Nat) : maxI2 (a : Int) (b : Int) = ((max a b : Nat) : Int) := by unfold maxI2; split <;> omega
theorem minI2_nat (a b : Nat) : minI2 (a : Int) (b : Int) = ((min a b : Nat) : Int) := by unfold minI2; split <;> omega
theorem join_ {n : Nat} {c cls : Nat → Nat} (h : Forest n c cls) (hc : Cls cls) {u v : Nat} (hu : u < n) (hv : v < n) : F_impl_classes_join (tabN n c) (u : Int) (v : Int) = some (tabN n fun k => if k = max (cls u) (cls v) then min (cls u) (cls v) else c k) := by
  have l1 := hc.le u; have l2 := hc.le v
  refine bnd (root_ h hu) (bnd (root_ h hv) (stp (stp ?_)))
  rw [maxI2_nat, minI2_nat]
  refine bnd (tabl_setO _ _ (by omega)) (congrArg some (tabl_ext fun k _ => ?_))
  show _ = ((if k = max (cls u) (cls v) then min (cls u) (cls v) else c k : Nat) : Int)
  split <;> rfl

/-! ### which classes are used, and their numbers -/

/-! ### the reference's classes -/
end Go.Proofs.YtbofgnbanmbopaaGreatDoor
namespace Go.Proofs.YtbofgnbanmbopaaGreatDoor

/-! ### lists without repetition -/
theorem seenN_take {n : Nat} (L : List Int) (hL : inRg n L) (hn : L.Nodup) : ∀ k, k ≤ L.length → seenN n (L.take k) = k
  | 0, _ => by unfold seenN; simp
  | k + 1, hk => by
    have ih := seenN_take L hL hn k (by omega)
    have e : L.take (k + 1) = L.take k ++ [L[k]] := by rw [List.take_add_one, List.getElem?_eq_getElem (by omega)]; rfl
    have hr := hL _ (List.getElem_mem (show k < L.length by omega))
    obtain ⟨m, hm⟩ : ∃ m : Nat, L[k] = (m : Int) := ⟨L[k].toNat, by omega⟩
    have hnot : ¬ (m : Int) ∈ L.take k := by
      rw [← hm]
      intro h
      obtain ⟨j, hj, he⟩ := List.mem_iff_getElem.1 h
      have hj' : j < k := by rw [List.length_take] at hj; omega
      rw [List.getElem_take] at he
      have := (List.getElem_inj hn).1 he
      omega
    have := (seen_step n (L.take k) m (by omega) hnot).1
    rw [e, hm, this, ih]
theorem seenN_nodup {n : Nat} {L : List Int} (hL : inRg n L) (hn : L.Nodup) : seenN n L = L.length := by
  have := seenN_take L hL hn L.length (Nat.le_refl _)
  rwa [List.take_length] at this
theorem seenN_full {n : Nat} {L : List Int} : seenN n L = n ↔ ∀ k : Nat, k < n → (k : Int) ∈ L := by
  have : seenN n L = (List.range n).length ↔ _ := List.countP_eq_length
  rw [List.length_range] at this
  rw [this]
  constructor
  · intro h k hk; exact of_decide_eq_true (h k (List.mem_range.2 hk))
  · intro h k hk; exact decide_eq_true (h k (List.mem_range.1 hk))

def diffB (n : Nat) (L : List Int) : Bool := wOk n L && decide L.Nodup
theorem nodup_snoc {L : List Int} {x : Int} : (L ++ [x]).Nodup ↔ L.Nodup ∧ ¬ x ∈ L := by
  rw [List.nodup_append]
  constructor
  · rintro ⟨h1, _, h3⟩; exact ⟨h1, fun h => h3 x h x (by simp) rfl⟩
  · rintro ⟨h1, h2⟩; exact ⟨h1, by simp, fun a ha b hb => by rw [List.mem_singleton.1 hb]; rintro rfl; exact h2 ha⟩
theorem diffB_step {n : Nat} {L : List Int} {j : Nat} (hj : j < L.length) : diffB n (L.take (j + 1)) = (diffB n (L.take j) && (rng L[j] 0 ((n : Int) - 1) && !decide (L[j] ∈ L.take j))) := by
  have e : L.take (j + 1) = L.take j ++ [L[j]] := by rw [List.take_add_one, List.getElem?_eq_getElem hj]; rfl
  unfold diffB
  rw [e, all_app, decide_eq_decide.2 nodup_snoc, Bool.decide_and]
  have : wOk n [L[j]] = rng L[j] 0 ((n : Int) - 1) := by unfold wOk; simp
  rw [this, decide_not]
  cases wOk n (L.take j) <;> cases rng L[j] 0 ((n : Int) - 1) <;> cases decide (L.take j).Nodup <;> cases decide (L[j] ∈ L.take j) <;> rfl
theorem diffB_mono {n : Nat} {L : List Int} {j : Nat} (h : diffB n (L.take j) = false) : diffB n L = false := by
  cases hd : diffB n L with
  | false => rfl
  | true =>
    unfold diffB at h hd
    simp only [Bool.and_eq_true, decide_eq_true_eq] at hd
    have h1 : wOk n (L.take j) = true := List.all_eq_true.2 fun x hx => List.all_eq_true.1 hd.1 x (List.mem_of_mem_take hx)
    have h2 : (L.take j).Nodup := hd.2.sublist (List.take_sublist _ _)
    rw [h1, decide_eq_true h2] at h; cases h
/-- the program's loop over a list of numbers that shall differ -/
theorem diff_loop {n : Nat} (hn : n ≤ 1099511627776) (L : List Int) : (diffB n L = true ∧ ∃ s, forO (fun (k10 : Nat) (s137 : List Bool) =>
        (idxO L ((k10 : Nat) : Int)).bind fun a152 =>
        ((subO (n : Int) 1).bind fun a177 =>
          (F_impl_within a152 0 a177).bind fun y179 =>
          (some (!y179)).bind fun a182 =>
          cond a182
          (some true)
          ((idxO s137 a152).bind fun a191 =>
            some a191)).bind fun (s171 : Bool) =>
        cond s171
        (some (.inr false))
        ((setO s137 a152 true).bind fun a203 =>
          some (.inl a203))) L.length 0 (tabl n fun _ => false) = some (.inl s)) ∨ (diffB n L = false ∧ forO (fun (k10 : Nat) (s137 : List Bool) =>
        (idxO L ((k10 : Nat) : Int)).bind fun a152 =>
        ((subO (n : Int) 1).bind fun a177 =>
          (F_impl_within a152 0 a177).bind fun y179 =>
          (some (!y179)).bind fun a182 =>
          cond a182
          (some true)
          ((idxO s137 a152).bind fun a191 =>
            some a191)).bind fun (s171 : Bool) =>
        cond s171
        (some (.inr false))
        ((setO s137 a152 true).bind fun a203 =>
          some (.inl a203))) L.length 0 (tabl n fun _ => false) = some (.inr false)) := by
  rcases forO_rel (n := L.length) (s := tabl n fun _ => false) (f := fun (k10 : Nat) (s137 : List Bool) =>
        (idxO L ((k10 : Nat) : Int)).bind fun a152 =>
        ((subO (n : Int) 1).bind fun a177 =>
          (F_impl_within a152 0 a177).bind fun y179 =>
          (some (!y179)).bind fun a182 =>
          cond a182
          (some true)
          ((idxO s137 a152).bind fun a191 =>
            some a191)).bind fun (s171 : Bool) =>
        cond s171
        (some (.inr false))
        ((setO s137 a152 true).bind fun a203 =>
          some (.inl a203))) (fun j s => s.length = n ∧ (∀ y, M s y ↔ y ∈ L.take j) ∧ diffB n (L.take j) = true) (fun t => t = false ∧ diffB n L = false)
      ⟨tabl_len _ _, fun y => ⟨fun h => (M_none n y h).elim, fun h => by simp at h⟩, rfl⟩ (fun j s hj ⟨h1, h2, h3⟩ => by
    have hstep := diffB_step (n := n) hj
    rw [h3, Bool.true_and] at hstep
    have hpre : ∀ {β : Type} {k : Bool → Option β} {y : Option β} (b : Bool), b = !(rng L[j] 0 ((n : Int) - 1) && !decide (L[j] ∈ L.take j)) → k b = y → (((subO (n : Int) 1).bind fun a177 =>
          (F_impl_within L[j] 0 a177).bind fun y179 =>
          (some (!y179)).bind fun a182 =>
          cond a182
          (some true)
          ((idxO s L[j]).bind fun a191 =>
            some a191)).bind k) = y := by
      intro β k y b hb hk
      refine bnd (a := b) ?_ hk
      rw [hb]
      refine bnd (subO_of (by omega) (by omega)) (bnd (within_ _ _ _) (stp ?_))
      cases hr : rng L[j] 0 ((n : Int) - 1) with
      | false => rfl
      | true =>
        have := rng_true.1 hr
        refine cFW rfl (bnd (M_idx (by omega) (by omega)) ?_)
        rw [decide_eq_decide.2 (h2 L[j])]
        cases decide (L[j] ∈ L.take j) <;> rfl
    cases hc : (rng L[j] 0 ((n : Int) - 1) && !decide (L[j] ∈ L.take j)) with
    | false =>
      rw [hc] at hstep
      exact .inr ⟨false, bnd (idxO_of (List.getElem?_eq_getElem hj)) (hpre true (by rw [hc]; rfl) rfl), rfl, diffB_mono hstep⟩
    | true =>
      rw [hc] at hstep
      simp only [Bool.and_eq_true] at hc
      have hr := rng_true.1 hc.1
      have hs := M_set (s := s) (x := L[j]) (by omega) (by omega)
      refine .inl ⟨_, bnd (idxO_of (List.getElem?_eq_getElem hj)) (hpre false (by rw [hc.1, hc.2]; rfl) (bnd hs.1 rfl)), by rw [List.length_set]; exact h1, fun y => ?_, hstep⟩
      rw [hs.2 y, h2 y, List.take_add_one, List.getElem?_eq_getElem hj, List.mem_append]
      simp) with ⟨s, h1, _, _, h2⟩ | ⟨t, h1, rfl, h2⟩
  · rw [List.take_length] at h2; exact .inl ⟨h2, s, h1⟩
  · exact .inr ⟨h2, h1⟩
theorem isPermutation_ {n : Nat} (hn : n ≤ 1099511627776) (L : List Int) : F_impl_isPermutation L (n : Int) = some (decide (L.length = n) && diffB n L) := by
  refine stp ?_
  by_cases h : L.length = n
  · refine cFW (nT (dT (by omega))) (bnd (tabl_make _ (by unfold maxN; omega)) ?_)
    rw [dT h, Bool.true_and]
    rcases diff_loop hn L with ⟨h1, s, h2⟩ | ⟨h1, h2⟩
    · rw [h1]; exact sqW h2 rfl
    · rw [h1]; exact sqW h2 rfl
  · rw [dF h]; exact cTW (nF (dF (by omega))) rfl

/-! ### each wire once -/
def origins (g : Gra) : List Int := g.2.2.1 ++ (g.2.1.map edO).flatten
def ends (g : Gra) : List Int := g.2.2.2 ++ (g.2.1.map edI).flatten
def monoB (g : Gra) : Bool := gOk g && ((decide ((origins g).length = g.1.toNat) && diffB g.1.toNat (origins g)) && (decide ((ends g).length = g.1.toNat) && diffB g.1.toNat (ends g)))
theorem inRg_app {n : Nat} {a b : List Int} (ha : inRg n a) (hb : inRg n b) : inRg n (a ++ b) := by
  intro x hx
  rcases List.mem_append.1 hx with h | h
  · exact ha x h
  · exact hb x h
theorem wOk_of {n : Nat} {l : List Int} (h : inRg n l) : wOk n l = true := List.all_eq_true.2 fun x hx => rng_true.2 (by have := h x hx; omega)
theorem joinedF_ {L : List (List Int)} (h : L.flatten.length ≤ 1099511627776) : F_impl_joined L = some L.flatten := by
  have := forS_is (n := L.length) (fun j => (L.take j).flatten) (f := fun (k5 : Nat) (s41 : List Int) =>
      (idxO L ((k5 : Nat) : Int)).bind fun a57 =>
      (appO s41 a57).bind fun a61 =>
      some a61) (fun j hj => by
    have e : (L.take (j + 1)).flatten = (L.take j).flatten ++ L[j] := by
      rw [List.take_add_one, List.getElem?_eq_getElem hj, List.flatten_append]
      simp only [Option.toList_some, List.flatten_cons, List.flatten_nil, List.append_nil]
    have hle : (L.take (j + 1)).flatten.length ≤ L.flatten.length := by
      have : L = L.take (j + 1) ++ L.drop (j + 1) := (List.take_append_drop _ _).symm
      conv => rhs; rw [this]
      rw [List.flatten_append, List.length_append]; omega
    rw [e, List.length_append] at hle
    rw [e]
    exact bnd (idxO_of (List.getElem?_eq_getElem hj)) (bnd (appO_of (by unfold maxN; omega)) rfl))
  rw [List.take_length] at this
  exact bnd this rfl
theorem isMonoI_ (g : Gra) : F_impl_Graph_isMonogamous g = some (monoB g) := by
  have hm : maxN = 1099511627776 := rfl
  unfold monoB
  cases hg : gOk g with
  | false => refine bnd (isGraph_ g) ?_; rw [hg]; rfl
  | true =>
    obtain ⟨n, h⟩ := gOk_facts hg
    obtain ⟨w, E, I, O⟩ := g
    obtain rfl : w = (n : Int) := h.w
    have ti := h.ti; have to := h.to; have i12 := h.i12; have o12 := h.o12; have n100 := h.n100; have e60 := h.e60
    dsimp only at ti to i12 o12 e60
    rw [Bool.true_and]
    refine bnd (isGraph_ _) ?_
    rw [hg]
    refine stp (cFW rfl (stp ?_))
    have loop := forS_is (n := E.length) (fun j => (I :: (E.take j).map edO, O :: (E.take j).map edI)) (f := fun (k73 : Nat) (s152 : List (List Int) × List (List Int)) =>
        (idxO E ((k73 : Nat) : Int)).bind fun a169 =>
        (appO s152.1 [a169.2.2.2]).bind fun a185 =>
        (appO s152.2 [a169.2.2.1]).bind fun a194 =>
        some (a185, a194)) (fun j hj => by
      have e : ∀ s : Edg → List Int, (E.take (j + 1)).map s = (E.take j).map s ++ [s E[j]] := fun s => by rw [List.take_add_one, List.getElem?_eq_getElem hj, List.map_append]; rfl
      refine bnd (idxO_of (List.getElem?_eq_getElem hj)) (bnd (appO_of ?_) (bnd (appO_of ?_) ?_))
      · simp; omega
      · simp; omega
      · rw [e, e]; rfl)
    rw [List.take_length] at loop
    refine bnd loop ?_
    have f1 : (I :: E.map edO).flatten = origins ((n : Int), E, I, O) := by unfold origins; rw [List.flatten_cons]
    have f2 : (O :: E.map edI).flatten = ends ((n : Int), E, I, O) := by unfold ends; rw [List.flatten_cons]
    have l1 : (origins ((n : Int), E, I, O)).length ≤ 1099511627776 := by
      unfold origins; rw [List.length_append]
      have : (E.map edO).flatten.length = totE E edO := rfl
      dsimp only; omega
    have l2 : (ends ((n : Int), E, I, O)).length ≤ 1099511627776 := by
      unfold ends; rw [List.length_append]
      have : (E.map edI).flatten.length = totE E edI := rfl
      dsimp only; omega
    rw [Int.toNat_natCast]
    refine bnd (bnd (bnd (joinedF_ (by rw [f1]; exact l1)) (bnd (isPermutation_ (by omega) _) rfl)) ?_) rfl
    rw [f1]
    cases (decide ((origins ((n : Int), E, I, O)).length = n) && diffB n (origins ((n : Int), E, I, O))) with
    | false => rfl
    | true =>
      refine cTW rfl (bnd (bnd (joinedF_ (by rw [f2]; exact l2)) (bnd (isPermutation_ (by omega) _) rfl)) ?_)
      rw [f2]; rfl
end Go.Proofs.YtbofgnbanmbopaaGreatDoor
