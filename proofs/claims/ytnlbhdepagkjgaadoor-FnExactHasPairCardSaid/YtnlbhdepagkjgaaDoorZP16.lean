/-
  Plain laws of the partial functions: loops whose states are known, lists read and written. No program in sight. No condition.
-/
import Derived.Test.YtnlbhdepagkjgaaDoorZF
import Derived.Test.YtnlbhdepagkjgaaDoorZFn
namespace Go.Proofs.YtnlbhdepagkjgaaDoor

/-- numbers of Go, lists of lengths of Go -/
class Nice (α : Type) where
  ok : α → Prop
instance : Nice Int := ⟨inI⟩
instance : Nice Bool := ⟨fun _ => True⟩
instance {α : Type} [Nice α] : Nice (List α) := ⟨fun l => (l.length : Int) ≤ 9223372036854775807 ∧ ∀ x ∈ l, Nice.ok x⟩
instance {α β : Type} [Nice α] [Nice β] : Nice (α × β) := ⟨fun x => Nice.ok x.1 ∧ Nice.ok x.2⟩
/-- steps of a partial function -/
theorem stp {α β : Type} {a : α} {k : α → Option β} {y : Option β} (h : k a = y) : (some a).bind k = y := h
theorem bnd {α β : Type} {m : Option α} {a : α} {k : α → Option β} {y : Option β} (h : m = some a) (h2 : k a = y) : m.bind k = y := by rw [h]; exact h2
theorem sqW {σ τ : Type} {m r : Option (σ ⊕ τ)} {k : σ → Option τ} {y : Option τ} (h : m = r) (h2 : seqO r k = y) : seqO m k = y := by rw [h]; exact h2
theorem cTW {α : Type} {c : Bool} {a b y : α} (h : c = true) (h2 : a = y) : cond c a b = y := by rw [h]; exact h2
theorem cFW {α : Type} {c : Bool} {a b y : α} (h : c = false) (h2 : b = y) : cond c a b = y := by rw [h]; exact h2
theorem dT {P : Prop} [Decidable P] (h : P) : decide P = true := decide_eq_true h
theorem dF {P : Prop} [Decidable P] (h : ¬ P) : decide P = false := decide_eq_false h
theorem nT {b : Bool} (h : b = true) : (!b) = false := by rw [h]; rfl
theorem nF {b : Bool} (h : b = false) : (!b) = true := by rw [h]; rfl
theorem bndB {m : Option Bool} {b c : Bool} {k : Bool → Option Bool} (h : m = some b) (h0 : b = false → k false = some false) (h1 : b = true → k true = some c) : m.bind k = some (b && c) := by
  rw [h]
  cases b with
  | false => exact h0 rfl
  | true => exact h1 rfl
theorem bndN {m : Option Bool} {b c : Bool} {k : Bool → Option Bool} (h : m = some b) (h0 : b = false → k false = some true) (h1 : b = true → k true = some (!c)) : m.bind k = some (!(b && c)) := by
  rw [h]
  cases b with
  | false => exact h0 rfl
  | true => exact h1 rfl
theorem cI_of {x : Int} (h : inI x) : cI x = some x := if_pos h
theorem addO_of {a b : Int} (h1 : -9223372036854775808 ≤ a + b) (h2 : a + b ≤ 9223372036854775807) : addO a b = some (a + b) := cI_of ⟨h1, h2⟩
theorem subO_of {a b : Int} (h1 : -9223372036854775808 ≤ a - b) (h2 : a - b ≤ 9223372036854775807) : subO a b = some (a - b) := cI_of ⟨h1, h2⟩
theorem mulO_of {a b : Int} (h1 : -9223372036854775808 ≤ a * b) (h2 : a * b ≤ 9223372036854775807) : mulO a b = some (a * b) := cI_of ⟨h1, h2⟩
theorem remO_of {a b : Int} (h : b ≠ 0) : remO a b = some (a.tmod b) := if_neg h
theorem idxO_nat {α : Type} (xs : List α) (k : Nat) : idxO xs (k : Int) = xs[k]? := by
  unfold idxO; rw [if_pos (by omega)]; rfl
theorem idxO_of {α : Type} {xs : List α} {k : Nat} {a : α} (h : xs[k]? = some a) : idxO xs (k : Int) = some a := by rw [idxO_nat, h]
theorem setO_of {α : Type} {xs : List α} {k : Nat} (a : α) (h : k < xs.length) : setO xs (k : Int) a = some (xs.set k a) := by
  unfold setO; rw [if_pos (by omega)]; rfl
theorem appO_of {α : Type} {xs ys : List α} (h : xs.length + ys.length ≤ maxN) : appO xs ys = some (xs ++ ys) := if_pos h
theorem makeO_of {α : Type} {n : Nat} (z : α) (h : n ≤ maxN) : makeO (n : Int) z = some (List.replicate n z) := by
  unfold makeO; rw [if_pos (by omega)]; rfl
theorem makeCO_of0 {α : Type} {n : Nat} (z : α) (h : n ≤ maxN) : makeCO 0 (n : Int) z = some [] := by
  unfold makeCO; rw [if_pos (by omega)]; rfl

theorem forS_at {σ : Type} {f : Nat → σ → Option σ} (v : Nat → σ) : ∀ (n k : Nat), (∀ j, k ≤ j → j < k + n → f j (v j) = some (v (j + 1))) → forS f n k (v k) = some (v (k + n))
  | 0, k, _ => rfl
  | n + 1, k, h => by
    show (f k (v k)).bind _ = _
    rw [h k (Nat.le_refl _) (by omega)]
    show forS f n (k + 1) (v (k + 1)) = _
    rw [forS_at v n (k + 1) (fun j h1 h2 => h j (by omega) (by omega))]
    rw [show k + 1 + n = k + (n + 1) by omega]
/-- a loop whose states are known -/
theorem forS_is {σ : Type} {f : Nat → σ → Option σ} {n : Nat} (v : Nat → σ) (h : ∀ j, j < n → f j (v j) = some (v (j + 1))) : forS f n 0 (v 0) = some (v n) := by
  have := forS_at v n 0 (fun j _ h2 => h j (by omega))
  simpa using this
/-- a loop that tests all of a list -/
theorem forO_all {α τ : Type} {f : Nat → Unit → Option (Unit ⊕ τ)} {t : τ} (P : α → Bool) : ∀ (l : List α) (k : Nat), (∀ j a, l[j]? = some a → f (k + j) () = some (if P a then .inl () else .inr t)) → forO f l.length k () = some (if l.all P then .inl () else .inr t)
  | [], k, _ => rfl
  | a :: l, k, h => by
    show (f k ()).bind _ = _
    have h0 : f k () = _ := h 0 a rfl
    rw [h0]
    cases hP : P a with
    | false => simp [hP]
    | true =>
      have := forO_all P l (k + 1) (fun j b hb => by
        have := h (j + 1) b (by simpa using hb)
        rw [show k + 1 + j = k + (j + 1) by omega]; exact this)
      simp only [hP, List.all_cons, Bool.true_and, if_true]
      exact this
theorem whileO_at {σ τ : Type} {f : σ → Option (σ ⊕ τ)} (v : Nat → σ) {t : τ} : ∀ (n k : Nat), (∀ j, k ≤ j → j < k + n → f (v j) = some (.inl (v (j + 1)))) → f (v (k + n)) = some (.inr t) → whileO f (v k) = some t
  | 0, k, _, he => whileO_end he
  | n + 1, k, h, he => by
    rw [whileO_step (h k (Nat.le_refl _) (by omega))]
    refine whileO_at v n (k + 1) (fun j h1 h2 => h j (by omega) (by omega)) ?_
    rw [show k + 1 + n = k + (n + 1) by omega]; exact he
theorem whileO_is {σ τ : Type} {f : σ → Option (σ ⊕ τ)} (v : Nat → σ) {t : τ} (n : Nat) (h : ∀ j, j < n → f (v j) = some (.inl (v (j + 1)))) (he : f (v n) = some (.inr t)) : whileO f (v 0) = some t :=
  whileO_at v n 0 (fun j _ h2 => h j (by omega)) (by simpa using he)

/-- the map of a list: the loop that appends what it makes of each element -/
theorem forS_map {α β : Type} {f : Nat → List β → Option (List β)} (g : α → β) (l : List α) (s : List β) (hb : s.length + l.length ≤ maxN) (h : ∀ j a s', l[j]? = some a → s'.length = s.length + j → f j s' = some (s' ++ [g a])) : forS f l.length 0 s = some (s ++ l.map g) := by
  have := forS_is (f := f) (n := l.length) (fun j => s ++ (l.take j).map g) (fun j hj => by
    rw [h j l[j] _ (List.getElem?_eq_getElem hj) (by simp; omega)]
    simp only [List.append_assoc]
    rw [List.take_add_one, List.getElem?_eq_getElem hj]
    simp only [List.map_append, Option.toList_some, List.map_cons, List.map_nil])
  simpa using this
/-- a list set at every place -/
theorem set_take {α : Type} (xs : List α) (g : Nat → α → α) (j : Nat) (h : j < xs.length) : ((xs.take j).mapIdx g ++ xs.drop j).set j (g j xs[j]) = (xs.take (j + 1)).mapIdx g ++ xs.drop (j + 1) := by
  rw [List.set_append_right _ _ (by simp; omega)]
  have : j - ((xs.take j).mapIdx g).length = 0 := by simp; omega
  rw [this, List.take_add_one, List.getElem?_eq_getElem h, List.drop_eq_getElem_cons h, List.mapIdx_append]
  simp only [Option.toList_some, List.mapIdx_cons, List.mapIdx_nil, List.length_take, Nat.min_eq_left (Nat.le_of_lt h), List.set_cons_zero, List.append_assoc, List.singleton_append, Nat.zero_add]
end Go.Proofs.YtnlbhdepagkjgaaDoor
namespace Go.Proofs.YtnlbhdepagkjgaaDoor

def tot {α : Type} (n : α → Nat) (l : List α) : Nat := (l.map n).sum
theorem tot_nil {α : Type} (n : α → Nat) : tot n [] = 0 := rfl
theorem tot_cons {α : Type} (n : α → Nat) (a : α) (l : List α) : tot n (a :: l) = n a + tot n l := by simp [tot]
theorem get_app {α : Type} (pre rest : List α) (a : α) : (pre ++ a :: rest)[pre.length]? = some a := by simp
theorem set_app {α : Type} (pre rest : List α) (a b : α) : (pre ++ a :: rest).set pre.length b = pre ++ b :: rest := by simp
theorem app1 {α : Type} (pre rest : List α) (a : α) : pre ++ a :: rest = (pre ++ [a]) ++ rest := by simp
theorem len1 {α : Type} (pre : List α) (a : α) : (((pre ++ [a]).length : Nat) : Int) = (pre.length : Int) + 1 := by simp

def bigN : Int := 4611686018427387904

theorem sz_loop {α : Type} (n : α → Nat) {f : Int × Int → Option ((Int × Int) ⊕ (Int ⊕ Int))} (L : List α) (B : Int)
    (hf : ∀ (j : Nat) (a : α) (s : Int), L[j]? = some a → j < L.length → 0 ≤ s → s ≤ B → f (s, (j : Int)) = some (if (n a : Int) ≤ s then .inl (s - n a, (j : Int) + 1) else .inr (.inr (-1))))
    (he : ∀ s : Int, f (s, (L.length : Int)) = some (.inr (.inl s))) : ∀ (rest pre : List α) (s : Int), L = pre ++ rest → 0 ≤ s → s ≤ B → whileO f (s, (pre.length : Int)) = some (if (tot n rest : Int) ≤ s then .inl (s - tot n rest) else .inr (-1))
  | [], pre, s, hL, h0, _ => by
    have := he s
    rw [hL, List.append_nil] at this
    rw [whileO_end this, tot_nil, if_pos (by omega)]; simp
  | a :: rest, pre, s, hL, h0, hB => by
    have h1 := hf pre.length a s (by rw [hL]; exact get_app _ _ _) (by rw [hL]; simp) h0 hB
    by_cases h : (n a : Int) ≤ s
    · rw [if_pos h] at h1
      have ih := sz_loop n L B hf he rest (pre ++ [a]) (s - n a) (by rw [hL, app1]) (by omega) (by omega)
      rw [len1] at ih
      rw [whileO_step h1, ih, tot_cons]
      by_cases h2 : (tot n rest : Int) ≤ s - n a
      · rw [if_pos h2, if_pos (by omega)]; congr 2; omega
      · rw [if_neg h2, if_neg (by omega)]
    · rw [if_neg h] at h1
      rw [whileO_end h1, tot_cons, if_neg (by omega)]

theorem to_loop {α : Type} (z : α) {f : List α × Int → Option ((List α × Int) ⊕ List α)} (L : List α)
    (hf : ∀ (j : Nat) (a : α) (s : List α), L[j]? = some a → j < L.length → s.length = L.length → f (s, (j : Int)) = some (.inl (s.set j a, (j : Int) + 1)))
    (he : ∀ s : List α, s.length = L.length → f (s, (L.length : Int)) = some (.inr s)) : ∀ (rest pre : List α), L = pre ++ rest → whileO f (pre ++ List.replicate rest.length z, (pre.length : Int)) = some L
  | [], pre, hL => by
    rw [List.append_nil] at hL
    have := he pre (by rw [hL])
    rw [hL] at this
    have h2 : pre ++ List.replicate ([] : List α).length z = pre := by simp
    rw [h2, hL, whileO_end this]
  | a :: rest, pre, hL => by
    have h1 := hf pre.length a (pre ++ z :: List.replicate rest.length z) (by rw [hL]; exact get_app _ _ _) (by rw [hL]; simp) (by rw [hL]; simp)
    have ih := to_loop z L hf he rest (pre ++ [a]) (by rw [hL, app1])
    rw [set_app, app1 pre _ a, ← len1 pre a] at h1
    rw [List.length_cons, List.replicate_succ]
    rw [whileO_step h1, ih]

theorem eq_loop {α : Type} [DecidableEq α] {f : Int → Option (Int ⊕ (Unit ⊕ Bool))} (L M : List α)
    (hf : ∀ (j : Nat) (a b : α), L[j]? = some a → M[j]? = some b → j < L.length → f (j : Int) = some (if a = b then .inl ((j : Int) + 1) else .inr (.inr false)))
    (he : f (L.length : Int) = some (.inr (.inl ()))) : ∀ (rest rest' pre pre' : List α), L = pre ++ rest → M = pre' ++ rest' → pre.length = pre'.length → rest.length = rest'.length → whileO f (pre.length : Int) = some (if rest = rest' then .inl () else .inr false)
  | [], [], pre, pre', hL, _, _, _ => by
    rw [hL, List.append_nil] at he
    rw [whileO_end he]; rfl
  | [], _ :: _, _, _, _, _, _, h => by simp at h
  | _ :: _, [], _, _, _, _, _, h => by simp at h
  | a :: rest, b :: rest', pre, pre', hL, hM, hp, hr => by
    have h1 := hf pre.length a b (by rw [hL]; exact get_app _ _ _) (by rw [hM, hp]; exact get_app _ _ _) (by rw [hL]; simp)
    by_cases h : a = b
    · rw [if_pos h] at h1
      have ih := eq_loop L M hf he rest rest' (pre ++ [a]) (pre' ++ [b]) (by rw [hL, app1]) (by rw [hM, app1]) (by simp [hp]) (by simpa using hr)
      rw [len1] at ih
      rw [whileO_step h1, ih]
      by_cases h2 : rest = rest'
      · rw [if_pos h2, if_pos (by rw [h, h2])]
      · rw [if_neg h2, if_neg (by intro h3; exact h2 (List.cons.inj h3).2)]
    · rw [if_neg h] at h1
      rw [whileO_end h1, if_neg (by intro h3; exact h (List.cons.inj h3).1)]

end Go.Proofs.YtnlbhdepagkjgaaDoor
namespace Go.Proofs.YtnlbhdepagkjgaaDoor

theorem tot_mem {α : Type} {n : α → Nat} {l : List α} {a : α} (h : a ∈ l) : n a ≤ tot n l := by
  induction l with
  | nil => cases h
  | cons b l ih =>
    rw [tot_cons]
    cases h with
    | head => omega
    | tail _ h => have := ih h; omega
theorem mem_of_get {α : Type} {l : List α} {j : Nat} {a : α} (h : l[j]? = some a) : a ∈ l := List.mem_of_getElem? h

/-- the length of a list is a number of Go -/
def lenOk {α : Type} (l : List α) : Prop := (l.length : Int) ≤ 9223372036854775807

theorem szIntS (a : List Int) (left : Int) (h0 : 0 ≤ left) (h1 : left ≤ bigN) (hl : lenOk a) : F_laws_szIntS a left = some (if (a.length : Int) ≤ left then left - a.length else -1) := by
  unfold lenOk at hl; unfold bigN at h1
  refine bnd (subO_of (by omega) (by omega)) (stp ?_)
  by_cases h : (a.length : Int) ≤ left
  · rw [if_pos h]; exact cFW (dF (by omega)) rfl
  · rw [if_neg h]; exact cTW (dT (by omega)) rfl
def rowN (r : List Int) : Nat := r.length
def rowsN (m : List (List Int)) : Nat := m.length + tot rowN m
def lensOk (m : List (List Int)) : Prop := lenOk m ∧ ∀ r ∈ m, lenOk r
theorem niceLens {m : List (List Int)} (h : Nice.ok m) : lensOk m := ⟨h.1, fun r hr => (h.2 r hr).1⟩
theorem szIntSS (a : List (List Int)) (left : Int) (h0 : 0 ≤ left) (h1 : left ≤ bigN) (hl : lensOk a) : F_laws_szIntSS a left = some (if (rowsN a : Int) ≤ left then left - rowsN a else -1) := by
  have hl1 := hl.1; unfold lenOk at hl1; unfold bigN at h1
  unfold rowsN
  refine bnd (subO_of (by omega) (by omega)) (stp ?_)
  by_cases h : (a.length : Int) ≤ left
  · refine cFW (dF (by omega)) (sqW (sz_loop rowN a (left - a.length) ?_ ?_ a [] _ rfl ?_ (Int.le_refl _)) ?_)
    · intro j r s hj hjl hs hsB
      dsimp only
      refine stp (cTW (dT (by omega)) (bnd (idxO_of hj) (bnd (szIntS r s hs (by unfold bigN; omega) (hl.2 r (mem_of_get hj))) (stp ?_))))
      unfold rowN
      by_cases h2 : (r.length : Int) ≤ s
      · rw [if_pos h2, if_pos h2]; exact cFW (dF (by omega)) (bnd (addO_of (by omega) (by omega)) rfl)
      · rw [if_neg h2, if_neg h2]; exact cTW (dT (by omega)) rfl
    · intro s; dsimp only; exact stp (cFW (dF (by omega)) rfl)
    · omega
    · by_cases h2 : (tot rowN a : Int) ≤ left - a.length
      · rw [if_pos h2, if_pos (by omega), seqO_l]; congr 1; omega
      · rw [if_neg h2, if_neg (by omega), seqO_r]
  · rw [if_neg (by omega)]; exact cTW (dT (by omega)) rfl
theorem toIntS (a : List Int) (hl : a.length ≤ maxN) : F_laws_toIntS a = some a := by
  have hm : maxN = 1099511627776 := rfl
  refine bnd (makeO_of _ hl) (bnd (to_loop (0 : Int) a ?_ ?_ a [] rfl) rfl)
  · intro j x s hj hjl hs
    dsimp only
    exact stp (cTW (dT (by omega)) (bnd (idxO_of hj) (bnd (setO_of _ (by omega)) (bnd (addO_of (by omega) (by omega)) rfl))))
  · intro s hs; dsimp only; exact stp (cFW (dF (by omega)) rfl)
theorem toIntSS (a : List (List Int)) (hl : a.length ≤ maxN) (hr : ∀ r ∈ a, r.length ≤ maxN) : F_laws_toIntSS a = some a := by
  have hm : maxN = 1099511627776 := rfl
  refine bnd (makeO_of _ hl) (bnd (to_loop ([] : List Int) a ?_ ?_ a [] rfl) rfl)
  · intro j x s hj hjl hs
    dsimp only
    exact stp (cTW (dT (by omega)) (bnd (idxO_of hj) (bnd (toIntS x (hr x (mem_of_get hj))) (bnd (setO_of _ (by omega)) (bnd (addO_of (by omega) (by omega)) rfl)))))
  · intro s hs; dsimp only; exact stp (cFW (dF (by omega)) rfl)
theorem eqIntS (a b : List Int) (hl : lenOk a) : F_laws_eqIntS a b = some (decide (a = b)) := by
  unfold lenOk at hl
  refine stp ?_
  by_cases h : a.length = b.length
  · refine cFW (nT (dT (by omega))) (sqW (eq_loop a b ?_ ?_ a b [] [] rfl rfl rfl h) ?_)
    · intro j x y hx hy hj
      refine stp (cTW (dT (by omega)) (bnd (idxO_of hx) (bnd (idxO_of hy) (stp ?_))))
      by_cases h2 : x = y
      · rw [if_pos h2]; exact cFW (nT (dT h2)) (bnd (addO_of (by omega) (by omega)) rfl)
      · rw [if_neg h2]; exact cTW (nF (dF h2)) rfl
    · exact stp (cFW (dF (by omega)) rfl)
    · by_cases h2 : a = b
      · rw [if_pos h2, show decide (a = b) = true from dT h2]; rfl
      · rw [if_neg h2, show decide (a = b) = false from dF h2]; rfl
  · rw [show decide (a = b) = false from dF (fun h2 => h (by rw [h2]))]; exact cTW (nF (dF (by omega))) rfl
theorem eqIntSS (a b : List (List Int)) (hl : lensOk a) : F_laws_eqIntSS a b = some (decide (a = b)) := by
  have hl1 := hl.1; unfold lenOk at hl1
  refine stp ?_
  by_cases h : a.length = b.length
  · refine cFW (nT (dT (by omega))) (sqW (eq_loop a b ?_ ?_ a b [] [] rfl rfl rfl h) ?_)
    · intro j x y hx hy hj
      refine stp (cTW (dT (by omega)) (bnd (idxO_of hx) (bnd (idxO_of hy) (bnd (eqIntS x y (hl.2 x (mem_of_get hx))) (stp ?_)))))
      by_cases h2 : x = y
      · rw [if_pos h2]; exact cFW (nT (dT h2)) (bnd (addO_of (by omega) (by omega)) rfl)
      · rw [if_neg h2]; exact cTW (nF (dF h2)) rfl
    · exact stp (cFW (dF (by omega)) rfl)
    · by_cases h2 : a = b
      · rw [if_pos h2, show decide (a = b) = true from dT h2]; rfl
      · rw [if_neg h2, show decide (a = b) = false from dF h2]; rfl
  · rw [show decide (a = b) = false from dF (fun h2 => h (by rw [h2]))]; exact cTW (nF (dF (by omega))) rfl
end Go.Proofs.YtnlbhdepagkjgaaDoor
namespace Go.Proofs.YtnlbhdepagkjgaaDoor

theorem rowsN_len (m : List (List Int)) (r : List Int) (h : r ∈ m) : r.length ≤ rowsN m := by
  have := tot_mem (n := rowN) h; unfold rowsN; unfold rowN at this ⊢; omega
theorem rowsN_len0 (m : List (List Int)) : m.length ≤ rowsN m := by unfold rowsN; omega
theorem lensOk_of {m : List (List Int)} (h : rowsN m ≤ 1048576) : lensOk m := by
  refine ⟨?_, fun r hr => ?_⟩
  · have := rowsN_len0 m; unfold lenOk; omega
  · have := rowsN_len m r hr; unfold lenOk; omega
theorem toIntSS_of (m : List (List Int)) (h : rowsN m ≤ 1048576) : F_laws_toIntSS m = some m := by
  have hm : maxN = 1099511627776 := rfl
  exact toIntSS m (by have := rowsN_len0 m; omega) (fun r hr => by have := rowsN_len m r hr; omega)
theorem eqIntSS_same (m : List (List Int)) (h : lensOk m) : F_laws_eqIntSS m m = some true := by rw [eqIntSS m m h, show decide (m = m) = true from dT rfl]
end Go.Proofs.YtnlbhdepagkjgaaDoor
namespace Go.Proofs.YtnlbhdepagkjgaaDoor

def rng (n lo hi : Int) : Bool := decide (lo ≤ n) && decide (n ≤ hi)
theorem rng_true {n lo hi : Int} : rng n lo hi = true ↔ lo ≤ n ∧ n ≤ hi := by unfold rng; simp
theorem l1In (n lo hi : Int) : F_spec_l1In n lo hi = some (rng n lo hi) := by
  unfold F_spec_l1In rng
  by_cases h : lo ≤ n
  · rw [dT h]; rfl
  · rw [dF h]; rfl
theorem within_ (n lo hi : Int) : F_impl_within n lo hi = some (rng n lo hi) := by
  unfold F_impl_within rng
  by_cases h : lo ≤ n
  · rw [dT h]; rfl
  · rw [dF h]; rfl

def fdB (p : Int) : Bool := rng p 2 97 && [2, 3, 5, 7].all fun q => !(decide (p % q = 0) && !decide (p = q))
def fdBody (p : Int) (s : Int) : Option (Int ⊕ (Unit ⊕ Bool)) :=
  (mulO s s).bind fun a111 =>
        (some (decide (a111 ≤ p))).bind fun a113 =>
        cond a113
        ((remO p s).bind fun a118 =>
          (some (decide (a118 = 0))).bind fun a120 =>
          cond a120
          (some (.inr (.inr false)))
          ((addO s 1).bind fun a123 =>
            some (.inl a123)))
        (some (.inr (.inl ())))
def fdCheck (p : Nat) : Bool := decide (seqO (iterO (fdBody p) 10 2) (fun (_ : Unit) => some true) = some (fdB p)) || decide (p < 2)
theorem fd_all : ((List.range 98).all fdCheck) = true := by decide +kernel
theorem fdGood (p : Int) : F_spec_fdGood p = some (fdB p) := by
  unfold F_spec_fdGood
  refine bnd (l1In p 2 97) (stp ?_)
  cases h : rng p 2 97 with
  | false => refine cTW rfl ?_; unfold fdB; rw [h]; rfl
  | true =>
    refine cFW rfl ?_
    have hr := rng_true.1 h
    obtain ⟨k, rfl⟩ : ∃ k : Nat, p = (k : Int) := ⟨p.toNat, by omega⟩
    have hk := List.all_eq_true.1 fd_all k (List.mem_range.2 (by omega))
    unfold fdCheck at hk
    have h2 : decide (k < 2) = false := dF (by omega)
    rw [h2, Bool.or_false] at hk
    have hk := of_decide_eq_true hk
    rw [← hk]
    cases hi : iterO (fdBody k) 10 2 with
    | none => rw [hi] at hk; cases hk
    | some t => exact sqW (whileO_iff.2 ⟨10, hi⟩) rfl
theorem isField_ (p : Int) : F_impl_isField p = some (fdB p) := by
  unfold F_impl_isField fdB
  cases h : rng p 2 97 with
  | false =>
    refine bnd (a := true) (stp ?_) (cTW rfl rfl)
    by_cases h1 : p < 2
    · exact cTW (dT h1) rfl
    · refine cFW (dF h1) (stp ?_)
      rw [dT]
      apply Classical.byContradiction
      intro h3
      have : rng p 2 97 = true := rng_true.2 ⟨by omega, by omega⟩
      rw [h] at this; cases this
  | true =>
    have hr := rng_true.1 h
    refine bnd (a := false) (stp (cFW (dF (by omega)) (stp (by rw [dF (by omega)])))) (cFW rfl (bnd (cI_of (by decide)) ?_))
    refine sqW (forO_all (fun q : Int => !(decide (p % q = 0) && !decide (p = q))) [2, 3, 5, 7] 0 ?_ (t := false)) ?_
    · intro j q hj
      have hq : q ∈ [(2 : Int), 3, 5, 7] := mem_of_get hj
      have hq1 : q ≠ 0 ∧ 0 < q := by simp at hq; omega
      rw [Nat.zero_add]
      refine bnd (idxO_of hj) ?_
      refine bnd (a := decide (p % q = 0) && !decide (p = q)) ?_ ?_
      · refine bnd (remO_of hq1.1) (stp ?_)
        rw [Int.tmod_eq_emod_of_nonneg (by omega)]
        by_cases h1 : p % q = 0
        · rw [dT h1]; rfl
        · rw [dF h1]; rfl
      · cases (decide (p % q = 0) && !decide (p = q)) <;> rfl
    · cases ([2, 3, 5, 7].all fun q : Int => !(decide (p % q = 0) && !decide (p = q))) <;> rfl
theorem fdB_rng {p : Int} (h : fdB p = true) : 2 ≤ p ∧ p ≤ 97 := by
  unfold fdB at h
  exact rng_true.1 (by revert h; cases rng p 2 97 <;> simp)

/-- numbers of a field -/
def inP (p : Int) (l : List Int) : Prop := ∀ x ∈ l, 0 ≤ x ∧ x < p
def inB (p : Int) (l : List Int) : Bool := l.all fun x => rng x 0 (p - 1)
theorem inB_true {p : Int} {l : List Int} : inB p l = true ↔ inP p l := by
  unfold inB inP
  rw [List.all_eq_true]
  constructor
  · intro h x hx; have := rng_true.1 (h x hx); omega
  · intro h x hx; have := h x hx; exact rng_true.2 (by omega)
theorem l1All (l : List Int) (lo hi : Int) : F_spec_l1All l lo hi = some (l.all fun x => rng x lo hi) := by
  refine sqW (forO_all (fun x => rng x lo hi) l 0 ?_ (t := false)) ?_
  · intro j x hj
    rw [Nat.zero_add]
    refine bnd (idxO_of hj) (bnd (l1In x lo hi) (stp ?_))
    cases rng x lo hi <;> rfl
  · cases (l.all fun x => rng x lo hi) <;> rfl
theorem fdIn {p : Int} (hp : 2 ≤ p ∧ p ≤ 97) (l : List Int) : F_spec_fdIn p l = some (inB p l) :=
  bnd (subO_of (by omega) (by omega)) (bnd (l1All l 0 (p - 1)) rfl)
def rowsB (p n : Int) (m : List (List Int)) : Bool := m.all fun r => decide ((r.length : Int) = n) && inB p r
def rowsP (p : Int) (n : Nat) (m : List (List Int)) : Prop := ∀ r ∈ m, r.length = n ∧ inP p r
theorem rowsB_true {p : Int} {n : Nat} {m : List (List Int)} : rowsB p n m = true ↔ rowsP p n m := by
  unfold rowsB rowsP
  rw [List.all_eq_true]
  constructor
  · intro h r hr
    have := h r hr
    rw [Bool.and_eq_true] at this
    exact ⟨by have := of_decide_eq_true this.1; omega, inB_true.1 this.2⟩
  · intro h r hr
    have := h r hr
    rw [Bool.and_eq_true]
    exact ⟨dT (by omega), inB_true.2 this.2⟩
theorem spRows {p : Int} (hp : 2 ≤ p ∧ p ≤ 97) (n : Int) (m : List (List Int)) : F_spec_spRows p n m = some (rowsB p n m) := by
  refine sqW (forO_all (fun r : List Int => decide ((r.length : Int) = n) && inB p r) m 0 ?_ (t := false)) ?_
  · intro j r hj
    rw [Nat.zero_add]
    refine bnd (idxO_of hj) ?_
    refine bnd (a := !(decide ((r.length : Int) = n) && inB p r)) (stp ?_) ?_
    · cases decide ((r.length : Int) = n) with
      | false => rfl
      | true => exact cFW rfl (bnd (fdIn hp r) rfl)
    · cases (decide ((r.length : Int) = n) && inB p r) <;> rfl
  · show _ = some (m.all _)
    cases (m.all fun r => decide ((r.length : Int) = n) && inB p r) <;> rfl
theorem isElement_ (p a : Int) : F_impl_isElement p a = some (rng a 0 (p - 1)) := by
  unfold F_impl_isElement rng
  by_cases h : 0 ≤ a
  · rw [dT h]; show some (decide (a < p)) = some (true && decide (a ≤ p - 1))
    rw [Bool.true_and, decide_eq_decide.2]; omega
  · rw [dF h]; rfl
theorem isVector_ (p n : Int) (v : List Int) : F_impl_isVector p v n = some (decide ((v.length : Int) = n) && inB p v) := by
  refine stp ?_
  cases decide ((v.length : Int) = n) with
  | false => rfl
  | true =>
    refine cFW rfl (sqW (forO_all (fun x => rng x 0 (p - 1)) v 0 ?_ (t := false)) ?_)
    · intro j x hj
      rw [Nat.zero_add]
      refine bnd (idxO_of hj) (bnd (isElement_ p x) (stp ?_))
      cases rng x 0 (p - 1) <;> rfl
    · show _ = some (true && v.all _)
      cases (v.all fun x => rng x 0 (p - 1)) <;> rfl
theorem areVectors_ (p n : Int) (m : List (List Int)) : F_impl_areVectors p m n = some (rowsB p n m) := by
  refine sqW (forO_all (fun r : List Int => decide ((r.length : Int) = n) && inB p r) m 0 ?_ (t := false)) ?_
  · intro j r hj
    rw [Nat.zero_add]
    refine bnd (idxO_of hj) (bnd (isVector_ p n r) (stp ?_))
    cases (decide ((r.length : Int) = n) && inB p r) <;> rfl
  · show _ = some (m.all _)
    cases (m.all fun r => decide ((r.length : Int) = n) && inB p r) <;> rfl
end Go.Proofs.YtnlbhdepagkjgaaDoor
namespace Go.Proofs.YtnlbhdepagkjgaaDoor

/-- a loop that changes each element of a list by the element of another list at the same place -/
theorem set_loop {α β : Type} (Pa : α → Prop) (Pb : β → Prop) (g : β → α → α) {f : Nat → List α → Option (List α)} (W : List β)
    (hf : ∀ (j : Nat) (b : β) (a : α) (s : List α), W[j]? = some b → s[j]? = some a → Pa a → Pb b → j < s.length → f j s = some (s.set j (g b a))) :
    ∀ (rest preW : List β) (pre rest' : List α), W = preW ++ rest → pre.length = preW.length → rest'.length = rest.length → (∀ b ∈ rest, Pb b) → (∀ a ∈ rest', Pa a) → forS f rest.length preW.length (pre ++ rest') = some (pre ++ List.zipWith g rest rest')
  | [], preW, pre, [], _, _, _, _, _ => by simp [forS]
  | [], _, _, _ :: _, _, _, h, _, _ => by simp at h
  | _ :: _, _, _, [], _, _, h, _, _ => by simp at h
  | b :: rest, preW, pre, a :: rest', hW, hp, hr, hb, ha => by
    have h1 := hf pre.length b a (pre ++ a :: rest') (by rw [hW, hp]; exact get_app _ _ _) (get_app _ _ _) (ha a (List.mem_cons_self ..)) (hb b (List.mem_cons_self ..)) (by simp)
    have ih := set_loop Pa Pb g W hf rest (preW ++ [b]) (pre ++ [g b a]) rest' (by rw [hW, app1]) (by simp [hp]) (by simpa using hr) (fun x hx => hb x (List.mem_cons_of_mem _ hx)) (fun x hx => ha x (List.mem_cons_of_mem _ hx))
    rw [set_app, app1 pre rest' (g b a)] at h1
    rw [hp] at h1
    show (f preW.length (pre ++ a :: rest')).bind _ = _
    rw [h1]
    show forS f rest.length (preW.length + 1) _ = _
    rw [show preW.length + 1 = (preW ++ [b]).length by simp, ih]
    simp

def fold2 {α β σ : Type} (g : σ → α → β → σ) : List α → List β → σ → σ
  | a :: l, b :: m, s => fold2 g l m (g s a b)
  | _, _, s => s
/-- a loop over two lists -/
theorem two_loop {α β σ : Type} (g : σ → α → β → σ) (I : σ → Prop) {f : Nat → σ → Option σ} (A : List α) (B : List β)
    (hf : ∀ (j : Nat) (a : α) (b : β) (s : σ), A[j]? = some a → B[j]? = some b → I s → f j s = some (g s a b) ∧ I (g s a b)) :
    ∀ (rest preA : List α) (rest' preB : List β) (s : σ), A = preA ++ rest → B = preB ++ rest' → preA.length = preB.length → rest.length ≤ rest'.length → I s → forS f rest.length preA.length s = some (fold2 g rest rest' s) ∧ I (fold2 g rest rest' s)
  | [], _, m, _, s, _, _, _, _, hI => by
    have : fold2 g [] m s = s := by cases m <;> rfl
    rw [this]; exact ⟨rfl, hI⟩
  | _ :: _, _, [], _, _, _, _, _, h, _ => by simp at h
  | a :: rest, preA, b :: rest', preB, s, hA, hB, hp, hr, hI => by
    obtain ⟨h1, h2⟩ := hf preA.length a b s (by rw [hA]; exact get_app _ _ _) (by rw [hB, hp]; exact get_app _ _ _) hI
    obtain ⟨h3, h4⟩ := two_loop g I A B hf rest (preA ++ [a]) rest' (preB ++ [b]) (g s a b) (by rw [hA, app1]) (by rw [hB, app1]) (by simp [hp]) (by simpa using hr) h2
    refine ⟨?_, h4⟩
    show (f preA.length s).bind _ = _
    rw [h1]
    show forS f rest.length (preA.length + 1) _ = _
    rw [show preA.length + 1 = (preA ++ [a]).length by simp, h3]
    rfl

theorem mul_lt {p c y : Int} (hp : 2 ≤ p ∧ p ≤ 97) (hc : 0 ≤ c ∧ c < p) (hy : 0 ≤ y ∧ y < p) : 0 ≤ c * y ∧ c * y ≤ 9409 := by
  refine ⟨Int.mul_nonneg hc.1 hy.1, ?_⟩
  calc c * y ≤ 97 * 97 := Int.mul_le_mul (by omega) (by omega) hy.1 (by omega)
    _ = 9409 := by decide
theorem emod_in {p x : Int} (hp : 2 ≤ p) : 0 ≤ x % p ∧ x % p < p := ⟨Int.emod_nonneg _ (by omega), Int.emod_lt_of_pos _ (by omega)⟩
/-- adds c times a row -/
def addR (p c : Int) (acc row : List Int) : List Int := List.zipWith (fun y x => (x + c * y) % p) row acc
theorem zip_in {p : Int} (hp : 2 ≤ p) (c : Int) : ∀ (row acc : List Int), inP p (addR p c acc row)
  | [], _ => by intro x hx; simp [addR] at hx
  | _ :: _, [] => by intro x hx; simp [addR] at hx
  | y :: row, x :: acc => by
    intro z hz
    have : z ∈ (x + c * y) % p :: addR p c acc row := hz
    cases this with
    | head => exact emod_in hp
    | tail _ h => exact zip_in hp c row acc z h
theorem addR_len {p c : Int} {acc row : List Int} (h : row.length = acc.length) : (addR p c acc row).length = acc.length := by simp [addR, h]
/-- the sum of rows with coefficients -/
def combR (p : Int) (n : Nat) (rows : List (List Int)) (cs : List Int) : List Int := fold2 (fun acc row c => addR p c acc row) rows cs (List.replicate n 0)
def okR (p : Int) (n : Nat) (l : List Int) : Prop := l.length = n ∧ inP p l
theorem okR_zero {p : Int} (hp : 2 ≤ p) (n : Nat) : okR p n (List.replicate n 0) := ⟨by simp, by intro x hx; have := List.eq_of_mem_replicate hx; omega⟩

theorem spSum_ {p : Int} {n : Nat} {rows : List (List Int)} {cs : List Int} (hp : 2 ≤ p ∧ p ≤ 97) (hn : n ≤ maxN) (hr : rowsP p n rows) (hc : inP p cs) (hl : rows.length ≤ cs.length) : F_spec_spSum p (n : Int) rows cs = some (combR p n rows cs) := by
  refine bnd (makeO_of _ hn) (bnd (two_loop (fun acc row c => addR p c acc row) (okR p n) rows cs ?_ rows [] cs [] _ rfl rfl rfl hl (okR_zero hp.1 n)).1 rfl)
  intro j row c s hrow hc' hs
  have h1 := hr row (mem_of_get hrow)
  have hcp := hc c (mem_of_get hc')
  refine ⟨bnd (idxO_of hrow) (bnd (set_loop (fun x => 0 ≤ x ∧ x < p) (fun x => 0 ≤ x ∧ x < p) (fun y x => (x + c * y) % p) row ?_ row [] [] s rfl rfl (by rw [h1.1, hs.1]) h1.2 hs.2) rfl), ?_, zip_in hp.1 c row s⟩
  · intro i y x t hy hx hxp hyp hi
    have := mul_lt hp hcp hyp
    refine bnd (idxO_of hy) (bnd (idxO_of hx) (bnd (idxO_of hc') (bnd (mulO_of (by omega) (by omega)) (bnd (addO_of (by omega) (by omega)) (bnd (remO_of (by omega)) ?_)))))
    rw [Int.tmod_eq_emod_of_nonneg (by omega)]
    exact bnd (setO_of _ hi) rfl
  · rw [addR_len (by rw [h1.1, hs.1]), hs.1]

theorem own_ {l : List Int} (h : l.length ≤ maxN) : F_spec_l1Own l = some l := bnd (appO_of (by simpa using h)) rfl
theorem clone_ {l : List Int} (h : l.length ≤ maxN) : F_impl_clone l = some l := bnd (appO_of (by simpa using h)) rfl
theorem clones_ {m : List (List Int)} (hl : m.length ≤ maxN) (h : ∀ r ∈ m, r.length ≤ maxN) : F_impl_clones m = some m := by
  refine bnd (makeCO_of0 _ hl) (bnd (a := m) ?_ rfl)
  refine (forS_map (fun r => r) m [] (by simpa using hl) ?_).trans (by simp)
  intro j x s hx hs
  have hj : j < m.length := (List.getElem?_eq_some_iff.1 hx).1
  exact bnd (idxO_of hx) (bnd (clone_ (h x (mem_of_get hx))) (bnd (appO_of (by simp at hs ⊢; omega)) rfl))
end Go.Proofs.YtnlbhdepagkjgaaDoor
namespace Go.Proofs.YtnlbhdepagkjgaaDoor

def powBody (p : Int) (s : Int × Int × Int) : Option ((Int × Int × Int) ⊕ Int) :=
      (some (decide ((0 : Int) < s.2.1))).bind fun a226 =>
      cond a226
      (((remO s.2.1 2).bind fun a247 =>
          (some (decide (a247 = 1))).bind fun a249 =>
          cond a249
          ((mulO s.2.2 s.1).bind fun a253 =>
            (remO a253 p).bind fun a255 =>
            some a255)
          (some s.2.2)).bind fun (s241 : Int) =>
        (mulO s.1 s.1).bind fun a259 =>
        (remO a259 p).bind fun a261 =>
        (quoO s.2.1 2).bind fun a263 =>
        some (.inl (a261, a263, s241)))
      (some (.inr s.2.2))
def invN (p x : Nat) : Option Int := iterO (powBody p) 9 ((x : Int), (p : Int) - 2 + (if p = 2 then 1 else 0), (1 : Int).tmod p)
def invOk (p x : Nat) : Bool := match invN p x with
  | some v => decide (((x : Int) * v) % p = 1) && decide (0 ≤ v) && decide (v < p)
  | none => false
theorem inv_all : ((List.range 98).all fun p => !fdB p || (List.range p).all fun x => decide (x = 0) || invOk p x) = true := by decide +kernel
def invF (p x : Int) : Int := (invN p.toNat x.toNat).getD 0
theorem inverse_ {p x : Int} (hf : fdB p = true) (hx : 0 < x ∧ x < p) : F_impl_inverse p x = some (invF p x) ∧ (x * invF p x) % p = 1 ∧ 0 ≤ invF p x ∧ invF p x < p := by
  have hp := fdB_rng hf
  obtain ⟨k, rfl⟩ : ∃ k : Nat, p = (k : Int) := ⟨p.toNat, by omega⟩
  obtain ⟨y, rfl⟩ : ∃ y : Nat, x = (y : Int) := ⟨x.toNat, by omega⟩
  have h1 := List.all_eq_true.1 inv_all k (List.mem_range.2 (by omega))
  rw [hf] at h1
  have h2 : ∀ x : Nat, x < k → x = 0 ∨ invOk k x = true := by simpa using h1
  have h3 : invOk k y = true := by
    rcases h2 y (by omega) with h2 | h2
    · omega
    · exact h2
  unfold invOk at h3
  unfold invF
  rw [Int.toNat_natCast, Int.toNat_natCast]
  cases hv : invN k y with
  | none => rw [hv] at h3; cases h3
  | some v =>
    rw [hv] at h3
    simp only [Bool.and_eq_true, decide_eq_true_eq] at h3
    refine ⟨?_, h3.1.1, h3.1.2, h3.2⟩
    refine bnd (subO_of (by omega) (by omega)) (stp (bnd (a := (if k = 2 then 1 else 0 : Int)) ?_ (bnd (addO_of (by split <;> omega) (by split <;> omega)) (bnd (a := v) ?_ rfl))))
    · by_cases h : k = 2
      · subst h; rfl
      · rw [dF (by omega), if_neg h]; rfl
    · refine bnd (remO_of (by omega)) (bnd ?_ rfl)
      exact whileO_iff.2 ⟨9, hv⟩
theorem inv_unique {p x s t : Int} (h1 : (x * s) % p = 1) (h2 : (x * t) % p = 1) (hs : 0 ≤ s ∧ s < p) (ht : 0 ≤ t ∧ t < p) : s = t := by
  have e1 : s % p = (s * ((x * t) % p)) % p := by rw [h2, Int.mul_one]
  have e2 : t % p = (t * ((x * s) % p)) % p := by rw [h1, Int.mul_one]
  rw [Int.mul_emod, Int.emod_emod_of_dvd _ (Int.dvd_refl p), ← Int.mul_emod] at e1 e2
  rw [show s * (x * t) = t * (x * s) by rw [Int.mul_left_comm, Int.mul_comm s t, Int.mul_left_comm]] at e1
  rw [← e2, Int.emod_eq_of_lt hs.1 hs.2, Int.emod_eq_of_lt ht.1 ht.2] at e1
  exact e1
theorem fdInv_ {p x : Int} (hf : fdB p = true) (hx : 0 < x ∧ x < p) : F_spec_fdInv p x = some (invF p x) := by
  have hp := fdB_rng hf
  obtain ⟨_, h1, h2, h3⟩ := inverse_ hf hx
  have h0 : invF p x ≠ 0 := by intro h; rw [h, Int.mul_zero, Int.zero_emod] at h1; cases h1
  obtain ⟨k, hk⟩ : ∃ k : Nat, invF p x = (k : Int) + 1 := ⟨(invF p x - 1).toNat, by omega⟩
  refine sqW (whileO_is (fun j => (j : Int) + 1) (t := .inr (invF p x)) k ?_ ?_) rfl
  · intro j hj
    have hm := mul_lt hp (by omega : 0 ≤ x ∧ x < p) (by omega : 0 ≤ (j : Int) + 1 ∧ (j : Int) + 1 < p)
    refine stp (cTW (dT (by omega)) (bnd (mulO_of (by omega) (by omega)) (bnd (remO_of (by omega)) (stp ?_))))
    rw [Int.tmod_eq_emod_of_nonneg hm.1]
    refine cFW (dF ?_) (bnd (addO_of (by omega) (by omega)) rfl)
    intro h
    have := inv_unique h h1 (by omega) (by omega)
    omega
  · have hm := mul_lt hp (by omega : 0 ≤ x ∧ x < p) (by omega : 0 ≤ (k : Int) + 1 ∧ (k : Int) + 1 < p)
    refine stp (cTW (dT (by omega)) (bnd (mulO_of (by omega) (by omega)) (bnd (remO_of (by omega)) (stp ?_))))
    rw [Int.tmod_eq_emod_of_nonneg hm.1, ← hk]
    exact cTW (dT h1) rfl

/-- the remainder that is not negative -/
theorem modG {p a : Int} (hp : 2 ≤ p ∧ p ≤ 97) (_ : -1000000 ≤ a ∧ a ≤ 1000000) : F_impl_mod p a = some (a % p) := by
  have h1 := Int.tmod_add_mul_tdiv a p
  have h2 := Int.tmod_lt_of_pos a (show 0 < p by omega)
  have h3 := Int.lt_tmod_of_pos a (show 0 < p by omega)
  have h4 : a % p = a.tmod p % p := by
    conv => lhs; rw [← h1]
    rw [Int.add_mul_emod_self_left]
  refine bnd (remO_of (by omega)) (stp ?_)
  by_cases h : a.tmod p < 0
  · refine cTW (dT h) (bnd (addO_of (by omega) (by omega)) ?_)
    rw [h4, ← Int.add_emod_right, Int.emod_eq_of_lt (by omega) (by omega)]
  · refine cFW (dF h) ?_
    rw [h4, Int.emod_eq_of_lt (by omega) (by omega)]

theorem sub_mod (v p t : Int) : (v + p - t % p) % p = (v - t) % p := by
  have h := Int.emod_add_mul_ediv t p
  have : v + p - t % p = (v - t) + p * (1 + t / p) := by rw [Int.mul_add, Int.mul_one]; omega
  rw [this, Int.add_mul_emod_self_left]
end Go.Proofs.YtnlbhdepagkjgaaDoor
namespace Go.Proofs.YtnlbhdepagkjgaaDoor

abbrev Rows := List (List Int)
def gr (m : Rows) (i : Nat) : List Int := m.getD i []
def el (r : List Int) (c : Nat) : Int := r.getD c 0
theorem gr_get {m : Rows} {i : Nat} (h : i < m.length) : m[i]? = some (gr m i) := by unfold gr; rw [List.getD_eq_getElem?_getD, List.getElem?_eq_getElem h]; rfl
theorem el_get {r : List Int} {c : Nat} (h : c < r.length) : r[c]? = some (el r c) := by unfold el; rw [List.getD_eq_getElem?_getD, List.getElem?_eq_getElem h]; rfl
theorem idx_gr {m : Rows} {i : Nat} (h : i < m.length) : idxO m (i : Int) = some (gr m i) := idxO_of (gr_get h)
theorem idx_el {r : List Int} {c : Nat} (h : c < r.length) : idxO r (c : Int) = some (el r c) := idxO_of (el_get h)
theorem gr_mem {m : Rows} {i : Nat} (h : i < m.length) : gr m i ∈ m := mem_of_get (gr_get h)
theorem el_mem {r : List Int} {c : Nat} (h : c < r.length) : el r c ∈ r := mem_of_get (el_get h)
theorem gr_set {m : Rows} {i j : Nat} {r : List Int} (h : i < m.length) : gr (m.set i r) j = if i = j then r else gr m j := by
  unfold gr
  rw [List.getD_eq_getElem?_getD, List.getD_eq_getElem?_getD, List.getElem?_set]
  split
  · rename_i e; subst e; simp
  · rfl
theorem set_gr {m : Rows} {i : Nat} (h : i < m.length) : m.set i (gr m i) = m := by
  have h2 : gr m i = m[i] := by have := gr_get h; rw [List.getElem?_eq_getElem h] at this; exact (Option.some.inj this).symm
  rw [h2, List.set_getElem_self]

/-- rows of n numbers of a field -/
def okM (p : Int) (n : Nat) (m : Rows) : Prop := rowsP p n m
theorem okM_gr {p : Int} {n : Nat} {m : Rows} (h : okM p n m) {i : Nat} (hi : i < m.length) : (gr m i).length = n ∧ inP p (gr m i) := h _ (gr_mem hi)
theorem okM_el {p : Int} {n : Nat} {m : Rows} (h : okM p n m) {i c : Nat} (hi : i < m.length) (hc : c < n) : 0 ≤ el (gr m i) c ∧ el (gr m i) c < p := by
  have h1 := okM_gr h hi
  exact h1.2 _ (el_mem (by omega))
theorem okM_set {p : Int} {n : Nat} {m : Rows} (h : okM p n m) {i : Nat} {r : List Int} (hr : r.length = n ∧ inP p r) : okM p n (m.set i r) := by
  intro x hx
  rcases List.mem_or_eq_of_mem_set hx with hx | rfl
  · exact h x hx
  · exact hr

/-! ### one row -/
def mapR (g : Nat → Int → Int) (r : List Int) : List Int := r.mapIdx g
theorem mapR_len (g : Nat → Int → Int) (r : List Int) : (mapR g r).length = r.length := by simp [mapR]
theorem mapR_in {p : Int} (hp : 2 ≤ p) {g : Nat → Int → Int} (hg : ∀ j x, ∃ y, g j x = y % p) (r : List Int) : inP p (mapR g r) := by
  intro x hx
  obtain ⟨j, hj, rfl⟩ := List.mem_iff_getElem.1 hx
  simp only [mapR, List.getElem_mapIdx]
  obtain ⟨y, hy⟩ := hg j (r[j]'(by simpa [mapR] using hj))
  rw [hy]; exact emod_in hp
def part (g : Nat → Int → Int) (r : List Int) (j : Nat) : List Int := (r.take j).mapIdx g ++ r.drop j
theorem part0 (g : Nat → Int → Int) (r : List Int) : part g r 0 = r := by simp [part]
theorem partN (g : Nat → Int → Int) (r : List Int) : part g r r.length = mapR g r := by simp [part, mapR]
theorem part_len (g : Nat → Int → Int) (r : List Int) (j : Nat) : (part g r j).length = r.length := by simp [part]; omega
theorem part_get (g : Nat → Int → Int) (r : List Int) {j : Nat} (h : j < r.length) : (part g r j)[j]? = some (el r j) := by
  unfold part
  rw [List.getElem?_append_right (by simp; omega)]
  have : j - ((r.take j).mapIdx g).length = 0 := by simp; omega
  rw [this, List.getElem?_drop, Nat.add_zero, el_get h]
theorem part_set (g : Nat → Int → Int) (r : List Int) {j : Nat} (h : j < r.length) : (part g r j).set j (g j (el r j)) = part g r (j + 1) := by
  have h2 : el r j = r[j] := by have := el_get h; rw [List.getElem?_eq_getElem h] at this; exact (Option.some.inj this).symm
  rw [h2]
  exact set_take r g j h
def scaleG (p k : Int) : Nat → Int → Int := fun _ a => (a * k) % p
def subG (p f : Int) (w : List Int) : Nat → Int → Int := fun j x => (x - f * el w j) % p

/-! ### the reference's and the program's steps -/
theorem swapO_ {m : Rows} {i j : Nat} (hi : i < m.length) (hj : j < m.length) : swapO m (i : Int) (j : Int) = some ((m.set i (gr m j)).set j (gr m i)) := by
  unfold swapO
  refine bnd (idx_gr hi) (bnd (idx_gr hj) (bnd (setO_of _ hi) (setO_of _ (by rw [List.length_set]; exact hj))))
def swapM (m : Rows) (i j : Nat) : Rows := (m.set i (gr m j)).set j (gr m i)
theorem swapM_self {m : Rows} {i : Nat} (h : i < m.length) : swapM m i i = m := by
  unfold swapM; rw [List.set_set, set_gr h]
theorem swapM_len (m : Rows) (i j : Nat) : (swapM m i j).length = m.length := by simp [swapM]
theorem swapM_ok {p : Int} {n : Nat} {m : Rows} (h : okM p n m) {i j : Nat} (hi : i < m.length) (hj : j < m.length) : okM p n (swapM m i j) :=
  okM_set (okM_set h (okM_gr h hj)) (okM_gr h hi)
theorem swapM_gr {m : Rows} {i j : Nat} (hi : i < m.length) (hj : j < m.length) : gr (swapM m i j) i = gr m j := by
  unfold swapM
  rw [gr_set (by rw [List.length_set]; exact hj)]
  split
  · rename_i e; subst e; rfl
  · rw [gr_set hi, if_pos rfl]
def scaleM (p k : Int) (m : Rows) (r : Nat) : Rows := m.set r (mapR (scaleG p k) (gr m r))
theorem scaleM_len (p k : Int) (m : Rows) (r : Nat) : (scaleM p k m r).length = m.length := by simp [scaleM]
theorem scaleM_ok {p k : Int} {n : Nat} {m : Rows} (hp : 2 ≤ p) (h : okM p n m) {r : Nat} (hr : r < m.length) : okM p n (scaleM p k m r) :=
  okM_set h ⟨by rw [mapR_len]; exact (okM_gr h hr).1, mapR_in hp (fun j x => ⟨_, rfl⟩) _⟩
theorem fdMul_ {p a b : Int} (hp : 2 ≤ p ∧ p ≤ 97) (ha : 0 ≤ a ∧ a < p) (hb : 0 ≤ b ∧ b < p) : F_spec_fdMul p a b = some ((a * b) % p) := by
  have hm := mul_lt hp ha hb
  refine bnd (mulO_of (by omega) (by omega)) (bnd (remO_of (by omega)) ?_)
  rw [Int.tmod_eq_emod_of_nonneg hm.1]
theorem fdSub_ {p a b : Int} (hp : 2 ≤ p ∧ p ≤ 97) (ha : 0 ≤ a ∧ a < p) (hb : 0 ≤ b ∧ b < p) : F_spec_fdSub p a b = some ((a + p - b) % p) := by
  refine bnd (addO_of (by omega) (by omega)) (bnd (subO_of (by omega) (by omega)) (bnd (remO_of (by omega)) ?_))
  rw [Int.tmod_eq_emod_of_nonneg (by omega)]
/-- the row r divided, in the reference -/
theorem specScale {p k : Int} {n : Nat} {m : Rows} {r : Nat} (hp : 2 ≤ p ∧ p ≤ 97) (h : okM p n m) (hr : r < m.length) (hk : 0 ≤ k ∧ k < p) :
    forS (fun (j : Nat) (s : List (List Int)) =>
                (idxO s (r : Int)).bind fun a26854 =>
                (idxO s (r : Int)).bind fun a26863 =>
                (idxO a26863 ((j : Nat) : Int)).bind fun a26872 =>
                (F_spec_fdMul p a26872 k).bind fun y26874 =>
                (setO a26854 ((j : Nat) : Int) y26874).bind fun a26884 =>
                (setO s (r : Int) a26884).bind fun a26887 =>
                some a26887) (gr m r).length 0 m = some (scaleM p k m r) := by
  have hrow := okM_gr h hr
  have := forS_is (n := (gr m r).length) (fun j => m.set r (part (scaleG p k) (gr m r) j)) (f := fun (j : Nat) (s : List (List Int)) =>
                (idxO s (r : Int)).bind fun a26854 =>
                (idxO s (r : Int)).bind fun a26863 =>
                (idxO a26863 ((j : Nat) : Int)).bind fun a26872 =>
                (F_spec_fdMul p a26872 k).bind fun y26874 =>
                (setO a26854 ((j : Nat) : Int) y26874).bind fun a26884 =>
                (setO s (r : Int) a26884).bind fun a26887 =>
                some a26887) (by
    intro j hj
    have hl : r < (m.set r (part (scaleG p k) (gr m r) j)).length := by rw [List.length_set]; exact hr
    have hg : gr (m.set r (part (scaleG p k) (gr m r) j)) r = part (scaleG p k) (gr m r) j := by rw [gr_set hr, if_pos rfl]
    have h1 := idx_gr hl
    rw [hg] at h1
    refine bnd h1 (bnd h1 (bnd (idxO_of (part_get _ _ hj)) (bnd (fdMul_ hp (hrow.2 _ (el_mem hj)) hk) (bnd (setO_of _ (by rw [part_len]; exact hj)) (bnd (setO_of _ hl) ?_)))))
    rw [List.set_set]
    congr 2
    exact part_set (scaleG p k) (gr m r) hj)
  rw [part0, set_gr hr, partN] at this
  exact this
/-- the row r divided, in the program -/
theorem implScale {p k : Int} {r : List Int} (hp : 2 ≤ p ∧ p ≤ 97) (h : inP p r) (hk : 0 ≤ k ∧ k < p) :
    forS (fun (j : Nat) (s : List Int) =>
          (idxO s ((j : Nat) : Int)).bind fun a137 =>
          (mulO a137 k).bind fun a140 =>
          (remO a140 p).bind fun a142 =>
          (setO s ((j : Nat) : Int) a142).bind fun a156 =>
          some a156) r.length 0 r = some (mapR (scaleG p k) r) := by
  have := forS_is (n := r.length) (fun j => part (scaleG p k) r j) (f := fun (j : Nat) (s : List Int) =>
          (idxO s ((j : Nat) : Int)).bind fun a137 =>
          (mulO a137 k).bind fun a140 =>
          (remO a140 p).bind fun a142 =>
          (setO s ((j : Nat) : Int) a142).bind fun a156 =>
          some a156) (by
    intro j hj
    have hm := mul_lt hp (h _ (el_mem hj)) hk
    refine bnd (idxO_of (part_get _ _ hj)) (bnd (mulO_of (by omega) (by omega)) (bnd (remO_of (by omega)) (bnd (setO_of _ (by rw [part_len]; exact hj)) ?_)))
    rw [Int.tmod_eq_emod_of_nonneg hm.1]
    exact congrArg some (part_set (scaleG p k) r hj))
  rw [part0, partN] at this
  exact this
/-- f times the row w taken from the row i, in the reference -/
theorem specSub {p f : Int} {n : Nat} {m : Rows} {r i : Nat} (hp : 2 ≤ p ∧ p ≤ 97) (h : okM p n m) (hr : r < m.length) (hi : i < m.length) (hri : i ≠ r) (hf : 0 ≤ f ∧ f < p) :
    forS (fun (j : Nat) (s : List (List Int)) =>
                        (idxO s ((i : Nat) : Int)).bind fun a28591 =>
                        (idxO s ((i : Nat) : Int)).bind fun a28600 =>
                        (idxO s (r : Int)).bind fun a28609 =>
                        (idxO a28600 ((j : Nat) : Int)).bind fun a28618 =>
                        (idxO a28609 ((j : Nat) : Int)).bind fun a28626 =>
                        (F_spec_fdMul p f a28626).bind fun y28628 =>
                        (F_spec_fdSub p a28618 y28628).bind fun y28631 =>
                        (setO a28591 ((j : Nat) : Int) y28631).bind fun a28641 =>
                        (setO s ((i : Nat) : Int) a28641).bind fun a28644 =>
                        some a28644) (gr m i).length 0 m = some (m.set i (mapR (subG p f (gr m r)) (gr m i))) := by
  have hrow := okM_gr h hi
  have hrr := okM_gr h hr
  have := forS_is (n := (gr m i).length) (fun j => m.set i (part (subG p f (gr m r)) (gr m i) j)) (f := fun (j : Nat) (s : List (List Int)) =>
                        (idxO s ((i : Nat) : Int)).bind fun a28591 =>
                        (idxO s ((i : Nat) : Int)).bind fun a28600 =>
                        (idxO s (r : Int)).bind fun a28609 =>
                        (idxO a28600 ((j : Nat) : Int)).bind fun a28618 =>
                        (idxO a28609 ((j : Nat) : Int)).bind fun a28626 =>
                        (F_spec_fdMul p f a28626).bind fun y28628 =>
                        (F_spec_fdSub p a28618 y28628).bind fun y28631 =>
                        (setO a28591 ((j : Nat) : Int) y28631).bind fun a28641 =>
                        (setO s ((i : Nat) : Int) a28641).bind fun a28644 =>
                        some a28644) (by
    intro j hj
    have hl : i < (m.set i (part (subG p f (gr m r)) (gr m i) j)).length := by rw [List.length_set]; exact hi
    have hl2 : r < (m.set i (part (subG p f (gr m r)) (gr m i) j)).length := by rw [List.length_set]; exact hr
    have hg : gr (m.set i (part (subG p f (gr m r)) (gr m i) j)) i = part (subG p f (gr m r)) (gr m i) j := by rw [gr_set hi, if_pos rfl]
    have hg2 : gr (m.set i (part (subG p f (gr m r)) (gr m i) j)) r = gr m r := by rw [gr_set hi, if_neg hri]
    have h1 := idx_gr hl
    have h2 := idx_gr hl2
    rw [hg] at h1
    rw [hg2] at h2
    have hjr : j < (gr m r).length := by omega
    have hm := emod_in (p := p) (x := f * el (gr m r) j) hp.1
    refine bnd h1 (bnd h1 (bnd h2 (bnd (idxO_of (part_get _ _ hj)) (bnd (idx_el hjr) (bnd (fdMul_ hp hf (hrr.2 _ (el_mem hjr))) (bnd (fdSub_ hp (hrow.2 _ (el_mem hj)) hm) (bnd (setO_of _ (by rw [part_len]; exact hj)) (bnd (setO_of _ hl) ?_))))))))
    rw [List.set_set, sub_mod]
    congr 2
    exact part_set (subG p f (gr m r)) (gr m i) hj)
  rw [part0, set_gr hi, partN] at this
  exact this
theorem implSub {p f : Int} {v w : List Int} (hp : 2 ≤ p ∧ p ≤ 97) (hv : inP p v) (hw : inP p w) (hl : v.length = w.length) (hf : 0 ≤ f ∧ f < p) : F_impl_addTimes p v (0 - f) w = some (mapR (subG p f w) v) := by
  have := forS_is (n := w.length) (fun j => part (subG p f w) v j) (f := fun (k3 : Nat) (s72 : List Int) =>
      (idxO w ((k3 : Nat) : Int)).bind fun a87 =>
      (idxO s72 ((k3 : Nat) : Int)).bind fun a95 =>
      (mulO (0 - f) a87).bind fun a97 =>
      (addO a95 a97).bind fun a99 =>
      (F_impl_mod p a99).bind fun y101 =>
      (setO s72 ((k3 : Nat) : Int) y101).bind fun a110 =>
      some a110) (by
    intro j hj
    have hjv : j < v.length := by omega
    have h1 := mul_lt hp hf (hw _ (el_mem hj))
    have h2 := hv _ (el_mem hjv)
    have h3 : (0 - f) * el w j = -(f * el w j) := by rw [Int.zero_sub, Int.neg_mul]
    refine bnd (idx_el hj) (bnd (idxO_of (part_get _ _ hjv)) (bnd (mulO_of (by omega) (by omega)) (bnd (addO_of (by omega) (by omega)) (bnd (modG hp (by omega)) (bnd (setO_of _ (by rw [part_len]; exact hjv)) ?_)))))
    rw [h3, ← Int.sub_eq_add_neg]
    exact congrArg some (part_set (subG p f w) v hjv))
  rw [part0, ← hl, partN] at this
  rw [hl] at this
  exact bnd this rfl
end Go.Proofs.YtnlbhdepagkjgaaDoor
namespace Go.Proofs.YtnlbhdepagkjgaaDoor

/-! ### lists changed at every place -/
def partG {α : Type} (g : Nat → α → α) (l : List α) (j : Nat) : List α := (l.take j).mapIdx g ++ l.drop j
theorem partG0 {α : Type} (g : Nat → α → α) (l : List α) : partG g l 0 = l := by simp [partG]
theorem partGN {α : Type} (g : Nat → α → α) (l : List α) : partG g l l.length = l.mapIdx g := by simp [partG]
theorem partG_len {α : Type} (g : Nat → α → α) (l : List α) (j : Nat) : (partG g l j).length = l.length := by simp [partG]; omega
theorem partG_get {α : Type} (g : Nat → α → α) (l : List α) (j k : Nat) : (partG g l j)[k]? = if k < j then l[k]?.map (g k) else l[k]? := by
  unfold partG
  by_cases h : k < ((l.take j).mapIdx g).length
  · rw [List.getElem?_append_left h]
    have h2 : k < j := by simp at h; omega
    rw [if_pos h2, List.getElem?_mapIdx, List.getElem?_take, if_pos h2]
  · rw [List.getElem?_append_right (by omega)]
    have h1 : ¬ k < min j l.length := by simpa using h
    by_cases h2 : k < j
    · rw [if_pos h2, List.getElem?_eq_none (by omega : l.length ≤ k)]
      rw [List.getElem?_drop, List.getElem?_eq_none (by simp; omega)]; rfl
    · rw [if_neg h2, List.getElem?_drop]
      by_cases h3 : l.length ≤ j
      · rw [List.getElem?_eq_none (by simp; omega), List.getElem?_eq_none (by omega)]
      · congr 1; simp; omega
theorem gr_part {g : Nat → List Int → List Int} {m : Rows} {j k : Nat} (hk : k < m.length) : gr (partG g m j) k = if k < j then g k (gr m k) else gr m k := by
  have h1 := gr_get (m := partG g m j) (i := k) (by rw [partG_len]; exact hk)
  rw [partG_get, gr_get hk] at h1
  split at h1
  · rename_i h; rw [if_pos h]; exact (Option.some.inj h1).symm
  · rename_i h; rw [if_neg h]; exact (Option.some.inj h1).symm
theorem part_setG {g : Nat → List Int → List Int} {m : Rows} {j : Nat} (hj : j < m.length) : (partG g m j).set j (g j (gr m j)) = partG g m (j + 1) := by
  have h2 : gr m j = m[j] := by have := gr_get hj; rw [List.getElem?_eq_getElem hj] at this; exact (Option.some.inj this).symm
  rw [h2]
  exact set_take m g j hj

/-! ### the steps -/
def scanN (m : Rows) (c : Nat) : Nat → Nat → Nat
  | 0, k => k
  | d + 1, k => if el (gr m k) c = 0 then scanN m c d (k + 1) else k
theorem scanN_spec (m : Rows) (c : Nat) : ∀ (d k : Nat), k + d = m.length → k ≤ scanN m c d k ∧ scanN m c d k ≤ m.length ∧ (scanN m c d k < m.length → el (gr m (scanN m c d k)) c ≠ 0)
  | 0, k, h => ⟨Nat.le_refl _, by simp only [scanN]; omega, fun h2 => by simp only [scanN] at h2; omega⟩
  | d + 1, k, h => by
    unfold scanN
    split
    · obtain ⟨h1, h2, h3⟩ := scanN_spec m c d (k + 1) (by omega)
      exact ⟨by omega, h2, h3⟩
    · rename_i hne
      exact ⟨Nat.le_refl _, by omega, fun _ => hne⟩
theorem scan_ {f : Int → Option (Int ⊕ Int)} {m : Rows} {c : Nat} (hf : ∀ k : Nat, k < m.length → f (k : Int) = some (if el (gr m k) c = 0 then .inl ((k : Int) + 1) else .inr (k : Int))) (he : f (m.length : Int) = some (.inr (m.length : Int))) :
    ∀ (d k : Nat), k + d = m.length → whileO f (k : Int) = some ((scanN m c d k : Nat) : Int)
  | 0, k, h => by
    have : k = m.length := by omega
    subst this
    rw [whileO_end he]; rfl
  | d + 1, k, h => by
    have h1 := hf k (by omega)
    unfold scanN
    by_cases h0 : el (gr m k) c = 0
    · rw [if_pos h0] at h1 ⊢
      rw [whileO_step h1]
      exact scan_ hf he d (k + 1) (by omega)
    · rw [if_neg h0] at h1 ⊢
      exact whileO_end h1
def elimG (p : Int) (c r : Nat) (m a : Rows) : Nat → List Int → List Int := fun i row => if i = r ∨ el (gr m i) c = 0 then row else mapR (subG p (el (gr m i) c) (gr a r)) row
def elimA (p : Int) (c r : Nat) (m a : Rows) : Rows := a.mapIdx (elimG p c r m a)
theorem elimA_len (p : Int) (c r : Nat) (m a : Rows) : (elimA p c r m a).length = a.length := by simp [elimA]
theorem elimA_gr {p : Int} {c r : Nat} {m a : Rows} {i : Nat} (h : i < a.length) : gr (elimA p c r m a) i = elimG p c r m a i (gr a i) := by
  have := gr_part (g := elimG p c r m a) (j := a.length) h
  rw [partGN, if_pos h] at this
  exact this
theorem elimG_ok {p : Int} {c r n : Nat} {m a : Rows} (hp : 2 ≤ p) {i : Nat} {row : List Int} (hr : row.length = n ∧ inP p row) : (elimG p c r m a i row).length = n ∧ inP p (elimG p c r m a i row) := by
  unfold elimG
  split
  · exact hr
  · exact ⟨by rw [mapR_len]; exact hr.1, mapR_in hp (fun j x => ⟨_, rfl⟩) _⟩
theorem elimA_ok {p : Int} {c r n : Nat} {m a : Rows} (hp : 2 ≤ p) (h : okM p n a) : okM p n (elimA p c r m a) := by
  intro x hx
  obtain ⟨i, hi, rfl⟩ := List.mem_iff_getElem.1 hx
  unfold elimA at hi ⊢
  rw [List.getElem_mapIdx]
  have hi' : i < a.length := by simpa using hi
  exact elimG_ok hp (h _ (List.getElem_mem hi'))
def pivA (p : Int) (c : Nat) (m a : Rows) (r k : Nat) : Rows := scaleM p (invF p (el (gr (swapM m r k) r) c)) (swapM a r k) r
def stepA (p : Int) (c : Nat) (m a : Rows) (r k : Nat) : Rows := elimA p c r (pivA p c m m r k) (pivA p c m a r k)
theorem pivA_len (p : Int) (c : Nat) (m a : Rows) (r k : Nat) : (pivA p c m a r k).length = a.length := by unfold pivA; rw [scaleM_len, swapM_len]
theorem stepA_len (p : Int) (c : Nat) (m a : Rows) (r k : Nat) : (stepA p c m a r k).length = a.length := by unfold stepA; rw [elimA_len, pivA_len]
theorem pivA_ok {p : Int} {c n : Nat} {m a : Rows} {r k : Nat} (hp : 2 ≤ p) (h : okM p n a) (hr : r < a.length) (hk : k < a.length) : okM p n (pivA p c m a r k) :=
  scaleM_ok hp (swapM_ok h hr hk) (by rw [swapM_len]; exact hr)
theorem stepA_ok {p : Int} {c n : Nat} {m a : Rows} {r k : Nat} (hp : 2 ≤ p) (h : okM p n a) (hr : r < a.length) (hk : k < a.length) : okM p n (stepA p c m a r k) := elimA_ok hp (pivA_ok hp h hr hk)
/-- the reduction of the columns c .. c + d - 1, from rank r on -/
def redLoop (p : Int) : Nat → Nat → Rows → Rows → Nat → Rows × Rows × Nat
  | 0, _, m, a, r => (m, a, r)
  | d + 1, c, m, a, r =>
    if r < m.length then
      if scanN m c (m.length - r) r = m.length then redLoop p d (c + 1) m a r
      else redLoop p d (c + 1) (stepA p c m m r (scanN m c (m.length - r) r)) (stepA p c m a r (scanN m c (m.length - r) r)) (r + 1)
    else (m, a, r)

/-! ### the reference -/
noncomputable def specBody (p n : Int) (st : Rows × Int × Int) : Option ((Rows × Int × Int) ⊕ (Rows × Int)) :=
      ((some (decide (st.2.2 < n))).bind fun a23919 =>
        cond a23919
        ((some (decide (st.2.1 < ((st.1.length : Nat) : Int)))).bind fun a23923 =>
          some a23923)
        (some false)).bind fun (s23913 : Bool) =>
      cond s23913
      (((whileO (fun (s26612 : Int) =>
              ((some (decide (s26612 < ((st.1.length : Nat) : Int)))).bind fun a26650 =>
                cond a26650
                ((idxO st.1 s26612).bind fun a26660 =>
                  (idxO a26660 st.2.2).bind fun a26669 =>
                  (some (decide (a26669 = 0))).bind fun a26671 =>
                  some a26671)
                (some false)).bind fun (s26644 : Bool) =>
              cond s26644
              ((addO s26612 1).bind fun a26678 =>
                some (.inl a26678))
              (some (.inr s26612))) st.2.1).bind fun (s26486 : Int) =>
          (some (decide (s26486 = ((st.1.length : Nat) : Int)))).bind fun a26682 =>
          cond a26682
          (some (st.1, st.2.1))
          ((idxO st.1 st.2.1).bind fun _ =>
            (idxO st.1 s26486).bind fun _ =>
            (swapO st.1 st.2.1 s26486).bind fun a26717 =>
            (idxO a26717 st.2.1).bind fun a26725 =>
            (idxO a26725 st.2.2).bind fun a26734 =>
            (F_spec_fdInv p a26734).bind fun y26736 =>
            (idxO a26717 st.2.1).bind fun a26745 =>
            (forS (fun (k26749 : Nat) (s26838 : List (List Int)) =>
                (idxO s26838 st.2.1).bind fun a26854 =>
                (idxO s26838 st.2.1).bind fun a26863 =>
                (idxO a26863 ((k26749 : Nat) : Int)).bind fun a26872 =>
                (F_spec_fdMul p a26872 y26736).bind fun y26874 =>
                (setO a26854 ((k26749 : Nat) : Int) y26874).bind fun a26884 =>
                (setO s26838 st.2.1 a26884).bind fun a26887 =>
                some a26887) a26745.length 0 a26717).bind fun (s26891 : List (List Int)) =>
            (forS (fun (k26893 : Nat) (s28062 : List (List Int)) =>
                (((some (decide (((k26893 : Nat) : Int) = st.2.1))).bind fun a28393 =>
                    cond a28393
                    (some true)
                    ((idxO s28062 ((k26893 : Nat) : Int)).bind fun a28402 =>
                      (idxO a28402 st.2.2).bind fun a28411 =>
                      (some (decide (a28411 = 0))).bind fun a28413 =>
                      some a28413)).bind fun (s28387 : Bool) =>
                  cond s28387
                  (some s28062)
                  ((idxO s28062 ((k26893 : Nat) : Int)).bind fun a28425 =>
                    (idxO a28425 st.2.2).bind fun a28434 =>
                    (idxO s28062 ((k26893 : Nat) : Int)).bind fun a28442 =>
                    (forS (fun (k28446 : Nat) (s28575 : List (List Int)) =>
                        (idxO s28575 ((k26893 : Nat) : Int)).bind fun a28591 =>
                        (idxO s28575 ((k26893 : Nat) : Int)).bind fun a28600 =>
                        (idxO s28575 st.2.1).bind fun a28609 =>
                        (idxO a28600 ((k28446 : Nat) : Int)).bind fun a28618 =>
                        (idxO a28609 ((k28446 : Nat) : Int)).bind fun a28626 =>
                        (F_spec_fdMul p a28434 a28626).bind fun y28628 =>
                        (F_spec_fdSub p a28618 y28628).bind fun y28631 =>
                        (setO a28591 ((k28446 : Nat) : Int) y28631).bind fun a28641 =>
                        (setO s28575 ((k26893 : Nat) : Int) a28641).bind fun a28644 =>
                        some a28644) a28442.length 0 s28062).bind fun (s28648 : List (List Int)) =>
                    some s28648)).bind fun (s28358 : List (List Int)) =>
                some s28358) s26891.length 0 s26891).bind fun (s28655 : List (List Int)) =>
            (addO st.2.1 1).bind fun a28657 =>
            some (s28655, a28657))).bind fun (s26292 : List (List Int) × Int) =>
        (addO st.2.2 1).bind fun a28662 =>
        some (.inl (s26292.1, s26292.2, a28662)))
      (some (.inr (st.1, st.2.1)))
theorem spec_step {p : Int} {n N c r : Nat} {m : Rows} (hf : fdB p = true) (h : okM p N m) (hn : n ≤ N) (hN : N ≤ 1048576) (hL : m.length ≤ 1048576) (hr : r < m.length) (hc : c < n) :
    specBody p (n : Int) (m, (r : Int), (c : Int)) = some (.inl (if scanN m c (m.length - r) r = m.length then (m, (r : Int), (c : Int) + 1) else (stepA p c m m r (scanN m c (m.length - r) r), (r : Int) + 1, (c : Int) + 1))) := by
  have hp := fdB_rng hf
  unfold specBody
  dsimp only
  refine bnd (a := true) (stp (cTW (dT (by omega)) (stp (by rw [dT (by omega)])))) (cTW rfl ?_)
  have hsc : ∀ {f : Int → Option (Int ⊕ Int)}, (∀ k : Nat, k < m.length → f (k : Int) = some (if el (gr m k) c = 0 then .inl ((k : Int) + 1) else .inr (k : Int))) → f (m.length : Int) = some (.inr (m.length : Int)) → whileO f (r : Int) = some ((scanN m c (m.length - r) r : Nat) : Int) := fun h1 h2 => scan_ h1 h2 _ _ (by omega)
  obtain ⟨s1, s2, s3⟩ := scanN_spec m c (m.length - r) r (by omega)
  generalize scanN m c (m.length - r) r = k at hsc s1 s2 s3 ⊢
  refine bnd (a := if k = m.length then (m, (r : Int)) else (stepA p c m m r k, (r : Int) + 1)) ?_ ?_
  · refine bnd (hsc ?_ ?_) (stp ?_)
    · intro i hi
      have hrow := okM_gr h hi
      refine bnd (a := decide (el (gr m i) c = 0)) (stp (cTW (dT (by omega)) (bnd (idx_gr hi) (bnd (idx_el (by omega)) rfl)))) ?_
      by_cases h0 : el (gr m i) c = 0
      · rw [if_pos h0]; exact cTW (dT h0) (bnd (addO_of (by omega) (by omega)) rfl)
      · rw [if_neg h0]; exact cFW (dF h0) rfl
    · exact bnd (a := false) (stp (cFW (dF (by omega)) rfl)) (cFW rfl rfl)
    · by_cases hk : k = m.length
      · rw [if_pos hk]; exact cTW (dT (by omega)) rfl
      · rw [if_neg hk]
        have hkl : k < m.length := by omega
        have hne := s3 hkl
        refine cFW (dF (by omega)) ?_
        refine bnd (idx_gr hr) (bnd (idx_gr hkl) (bnd (swapO_ hr hkl) ?_))
        have h1 : okM p N (swapM m r k) := swapM_ok h hr hkl
        have hr1 : r < (swapM m r k).length := by rw [swapM_len]; exact hr
        have hrow := okM_gr h1 hr1
        have hel := okM_el h1 hr1 (show c < N by omega)
        have hnz : el (gr (swapM m r k) r) c ≠ 0 := by rw [swapM_gr hr hkl]; exact hne
        obtain ⟨_, i1, i2, i3⟩ := inverse_ hf (x := el (gr (swapM m r k) r) c) ⟨by omega, hel.2⟩
        change (idxO (swapM m r k) (r : Int)).bind _ = _
        refine bnd (idx_gr hr1) (bnd (idx_el (by omega)) (bnd (fdInv_ hf ⟨by omega, hel.2⟩) (bnd (idx_gr hr1) ?_)))
        refine bnd (specScale hp h1 hr1 ⟨i2, i3⟩) ?_
        change (forS _ (pivA p c m m r k).length 0 (pivA p c m m r k)).bind _ = _
        have h2 : okM p N (pivA p c m m r k) := pivA_ok hp.1 h hr hkl
        have hl2 : (pivA p c m m r k).length = m.length := pivA_len p c m m r k
        have hr2 : r < (pivA p c m m r k).length := by omega
        have := forS_is (n := (pivA p c m m r k).length) (fun i => partG (elimG p c r (pivA p c m m r k) (pivA p c m m r k)) (pivA p c m m r k) i) (f := (fun (k26893 : Nat) (s28062 : List (List Int)) =>
                (((some (decide (((k26893 : Nat) : Int) = (r : Int)))).bind fun a28393 =>
                    cond a28393
                    (some true)
                    ((idxO s28062 ((k26893 : Nat) : Int)).bind fun a28402 =>
                      (idxO a28402 (c : Int)).bind fun a28411 =>
                      (some (decide (a28411 = 0))).bind fun a28413 =>
                      some a28413)).bind fun (s28387 : Bool) =>
                  cond s28387
                  (some s28062)
                  ((idxO s28062 ((k26893 : Nat) : Int)).bind fun a28425 =>
                    (idxO a28425 (c : Int)).bind fun a28434 =>
                    (idxO s28062 ((k26893 : Nat) : Int)).bind fun a28442 =>
                    (forS (fun (k28446 : Nat) (s28575 : List (List Int)) =>
                        (idxO s28575 ((k26893 : Nat) : Int)).bind fun a28591 =>
                        (idxO s28575 ((k26893 : Nat) : Int)).bind fun a28600 =>
                        (idxO s28575 (r : Int)).bind fun a28609 =>
                        (idxO a28600 ((k28446 : Nat) : Int)).bind fun a28618 =>
                        (idxO a28609 ((k28446 : Nat) : Int)).bind fun a28626 =>
                        (F_spec_fdMul p a28434 a28626).bind fun y28628 =>
                        (F_spec_fdSub p a28618 y28628).bind fun y28631 =>
                        (setO a28591 ((k28446 : Nat) : Int) y28631).bind fun a28641 =>
                        (setO s28575 ((k26893 : Nat) : Int) a28641).bind fun a28644 =>
                        some a28644) a28442.length 0 s28062).bind fun (s28648 : List (List Int)) =>
                    some s28648)).bind fun (s28358 : List (List Int)) =>
                some s28358)) ?_
        · rw [partG0, partGN] at this
          exact bnd this (bnd (addO_of (by omega) (by omega)) rfl)
        · generalize pivA p c m m r k = w at h2 hl2 hr2
          intro i hi
          have hg1 : gr (partG (elimG p c r w w) w i) i = gr w i := by rw [gr_part hi, if_neg (by omega)]
          have hg2 : gr (partG (elimG p c r w w) w i) r = gr w r := by
            rw [gr_part hr2]
            split
            · unfold elimG; rw [if_pos (Or.inl rfl)]
            · rfl
          have hrow2 := okM_gr h2 hi
          have hli : i < (partG (elimG p c r w w) w i).length := by rw [partG_len]; exact hi
          have hlr : r < (partG (elimG p c r w w) w i).length := by rw [partG_len]; exact hr2
          have hok : okM p N (partG (elimG p c r w w) w i) := by
            intro x hx
            obtain ⟨q, hq, rfl⟩ := List.mem_iff_getElem.1 hx
            have hq' : q < w.length := by rw [partG_len] at hq; exact hq
            have h5 := gr_get (m := partG (elimG p c r w w) w i) (i := q) hq
            rw [List.getElem?_eq_getElem hq] at h5
            rw [Option.some.inj h5, gr_part hq']
            split
            · exact elimG_ok hp.1 (okM_gr h2 hq')
            · exact okM_gr h2 hq'
          have hset := part_setG (g := elimG p c r w w) (m := w) hi
          have i1 := idx_gr hli
          rw [hg1] at i1
          by_cases hir : i = r
          · refine bnd (a := partG (elimG p c r w w) w (i + 1)) (bnd (a := true) (stp (cTW (dT (by omega)) rfl)) (cTW rfl ?_)) rfl
            rw [← hset]
            have : elimG p c r w w i (gr w i) = gr w i := by unfold elimG; rw [if_pos (Or.inl hir)]
            rw [this, ← hg1, set_gr hli]
          · by_cases h0 : el (gr w i) c = 0
            · refine bnd (a := partG (elimG p c r w w) w (i + 1)) (bnd (a := true) (stp (cFW (dF (by omega)) (bnd i1 (bnd (idx_el (by omega)) (stp (by rw [dT h0])))))) (cTW rfl ?_)) rfl
              rw [← hset]
              have : elimG p c r w w i (gr w i) = gr w i := by unfold elimG; rw [if_pos (Or.inr h0)]
              rw [this, ← hg1, set_gr hli]
            · refine bnd (a := partG (elimG p c r w w) w (i + 1)) (bnd (a := false) (stp (cFW (dF (by omega)) (bnd i1 (bnd (idx_el (by omega)) (stp (by rw [dF h0])))))) (cFW rfl ?_)) rfl
              refine bnd i1 (bnd (idx_el (by omega)) (bnd i1 ?_))
              have hfe := okM_el h2 hi (show c < N by omega)
              have := specSub (f := el (gr w i) c) hp hok hlr hli hir hfe
              rw [hg1, hg2] at this
              refine bnd this ?_
              rw [← hset]
              unfold elimG
              rw [if_neg (by intro h; rcases h with h | h; exact hir h; exact h0 h)]
  · by_cases hk : k = m.length
    · rw [if_pos hk, if_pos hk]; exact bnd (addO_of (by omega) (by omega)) rfl
    · rw [if_neg hk, if_neg hk]; exact bnd (addO_of (by omega) (by omega)) rfl
theorem spec_loop {p : Int} {n N : Nat} (hf : fdB p = true) (hn : n ≤ N) (hN : N ≤ 1048576) : ∀ (d c : Nat) (m a : Rows) (r : Nat), c + d = n → okM p N m → m.length ≤ 1048576 → r ≤ m.length → whileO (specBody p (n : Int)) (m, (r : Int), (c : Int)) = some ((redLoop p d c m a r).1, ((redLoop p d c m a r).2.2 : Int))
  | 0, c, m, a, r, hc, h, hL, hr => by
    refine whileO_end ?_
    unfold specBody
    exact bnd (a := false) (stp (cFW (dF (by dsimp only; omega)) rfl)) (cFW rfl rfl)
  | d + 1, c, m, a, r, hc, h, hL, hr => by
    unfold redLoop
    by_cases hrl : r < m.length
    · rw [if_pos hrl]
      have hs := spec_step hf h hn hN hL hrl (show c < n by omega)
      obtain ⟨s1, s2, s3⟩ := scanN_spec m c (m.length - r) r (by omega)
      split
      · rename_i hk
        rw [if_pos hk] at hs
        rw [whileO_step hs]
        exact spec_loop hf hn hN d (c + 1) m a r (by omega) h hL hr
      · rename_i hk
        rw [if_neg hk] at hs
        rw [whileO_step hs]
        have hkl : scanN m c (m.length - r) r < m.length := by omega
        exact spec_loop hf hn hN d (c + 1) _ _ (r + 1) (by omega) (stepA_ok (fdB_rng hf).1 h hrl hkl) (by rw [stepA_len]; exact hL) (by rw [stepA_len]; omega)
    · rw [if_neg hrl]
      refine whileO_end ?_
      unfold specBody
      exact bnd (a := false) (stp (cTW (dT (by dsimp only; omega)) (stp (by rw [dF (by dsimp only; omega)])))) (cFW rfl rfl)
end Go.Proofs.YtnlbhdepagkjgaaDoor
namespace Go.Proofs.YtnlbhdepagkjgaaDoor

theorem apply_exch {p : Int} {l : Rows} {r k : Nat} (hr : r < l.length) (hk : k < l.length) : F_impl_rowOperation_apply (0, (r : Int), (k : Int), 0) p l = some (swapM l r k) := by
  refine stp (cTW rfl ?_)
  exact bnd (idx_gr hk) (bnd (idx_gr hr) (bnd (swapO_ hr hk) rfl))
theorem apply_div {p x : Int} {n : Nat} {l : Rows} {r : Nat} (hf : fdB p = true) (h : okM p n l) (hr : r < l.length) (hx : 0 < x ∧ x < p) : F_impl_rowOperation_apply (1, (r : Int), 0, x) p l = some (scaleM p (invF p x) l r) := by
  have hp := fdB_rng hf
  obtain ⟨i0, _, i2, i3⟩ := inverse_ hf hx
  refine stp (cFW rfl (stp (cTW rfl ?_)))
  exact bnd i0 (bnd (idx_gr hr) (bnd (implScale hp (okM_gr h hr).2 ⟨i2, i3⟩) (bnd (setO_of _ hr) rfl)))
theorem apply_sub {p f : Int} {n : Nat} {l : Rows} {i r : Nat} (hp : 2 ≤ p ∧ p ≤ 97) (h : okM p n l) (hi : i < l.length) (hr : r < l.length) (hir : i ≠ r) (hf : 0 ≤ f ∧ f < p) : F_impl_rowOperation_apply (2, (i : Int), (r : Int), f) p l = some (l.set i (mapR (subG p f (gr l r)) (gr l i))) := by
  have h1 := okM_gr h hi
  have h2 := okM_gr h hr
  refine stp (cFW rfl (stp (cFW rfl (stp (cTW rfl ?_)))))
  refine bnd (idx_gr hi) (bnd (cI_of ⟨by dsimp only; omega, by dsimp only; omega⟩) (bnd (idx_gr hr) (bnd (implSub hp h1.2 h2.2 (by omega) hf) (bnd (a := ()) ?_ (bnd (setO_of _ hi) rfl)))))
  unfold neqO
  rw [if_neg (by dsimp only; omega)]
theorem red1_exch {p : Int} {m a : Rows} {r k : Nat} (hr : r < m.length) (hk : k < m.length) (hl : a.length = m.length) : F_impl_reduction_1 (0, (r : Int), (k : Int), 0) p m a = some (swapM m r k, swapM a r k) := by
  refine stp ?_
  by_cases h : k = r
  · subst h
    rw [swapM_self hr, swapM_self (by omega)]
    exact cTW (dT rfl) rfl
  · refine cFW (dF ?_) (bnd (apply_exch hr hk) (bnd (apply_exch (by omega) (by omega)) rfl))
    intro e
    simp only [List.cons.injEq] at e
    exact h (by have := e.2.2.1; omega)
theorem red1_div {p x : Int} {n q : Nat} {m a : Rows} {r : Nat} (hf : fdB p = true) (h : okM p n m) (ha : okM p q a) (hr : r < m.length) (hl : a.length = m.length) (hx : 0 < x ∧ x < p) : F_impl_reduction_1 (1, (r : Int), 0, x) p m a = some (scaleM p (invF p x) m r, scaleM p (invF p x) a r) := by
  refine stp (cFW (dF ?_) (bnd (apply_div hf h hr hx) (bnd (apply_div hf ha (by omega) hx) rfl)))
  intro e
  simp only [List.cons.injEq] at e
  have := e.1; omega
theorem red1_sub {p f : Int} {n q : Nat} {m a : Rows} {i r : Nat} (hp : 2 ≤ p ∧ p ≤ 97) (h : okM p n m) (ha : okM p q a) (hi : i < m.length) (hr : r < m.length) (hl : a.length = m.length) (hir : i ≠ r) (hf : 0 ≤ f ∧ f < p) :
    F_impl_reduction_1 (2, (i : Int), (r : Int), f) p m a = some (m.set i (mapR (subG p f (gr m r)) (gr m i)), a.set i (mapR (subG p f (gr a r)) (gr a i))) := by
  refine stp (cFW (dF ?_) (bnd (apply_sub hp h hi hr hir hf) (bnd (apply_sub hp ha (by omega) (by omega) hir hf) rfl)))
  intro e
  simp only [List.cons.injEq] at e
  have := e.1; omega
theorem part_ok {p : Int} {c r n : Nat} {m a : Rows} (hp : 2 ≤ p) (h : okM p n a) (i : Nat) : okM p n (partG (elimG p c r m a) a i) := by
  intro x hx
  obtain ⟨q, hq, rfl⟩ := List.mem_iff_getElem.1 hx
  have hq' : q < a.length := by rw [partG_len] at hq; exact hq
  have h5 := gr_get (m := partG (elimG p c r m a) a i) (i := q) hq
  rw [List.getElem?_eq_getElem hq] at h5
  rw [Option.some.inj h5, gr_part hq']
  split
  · exact elimG_ok hp (okM_gr h hq')
  · exact okM_gr h hq'
theorem part_self {p : Int} {c r : Nat} {m a : Rows} {i : Nat} (hi : i < a.length) : gr (partG (elimG p c r m a) a i) i = gr a i := by rw [gr_part hi, if_neg (by omega)]
theorem part_piv {p : Int} {c r : Nat} {m a : Rows} (i : Nat) (hr : r < a.length) : gr (partG (elimG p c r m a) a i) r = gr a r := by
  rw [gr_part hr]
  split
  · unfold elimG; rw [if_pos (Or.inl rfl)]
  · rfl
theorem part_skip {p : Int} {c r : Nat} {m a : Rows} {i : Nat} (hi : i < a.length) (h : i = r ∨ el (gr m i) c = 0) : partG (elimG p c r m a) a (i + 1) = partG (elimG p c r m a) a i := by
  rw [← part_setG hi]
  have h1 : elimG p c r m a i (gr a i) = gr a i := by unfold elimG; rw [if_pos h]
  rw [h1]
  have h2 := set_gr (m := partG (elimG p c r m a) a i) (i := i) (by rw [partG_len]; exact hi)
  rw [part_self hi] at h2
  exact h2
theorem part_sub {p : Int} {c r : Nat} {m a : Rows} {i : Nat} (hi : i < a.length) (hir : i ≠ r) (h0 : el (gr m i) c ≠ 0) : partG (elimG p c r m a) a (i + 1) = (partG (elimG p c r m a) a i).set i (mapR (subG p (el (gr m i) c) (gr a r)) (gr a i)) := by
  rw [← part_setG hi]
  have h1 : elimG p c r m a i (gr a i) = mapR (subG p (el (gr m i) c) (gr a r)) (gr a i) := by unfold elimG; rw [if_neg (by intro h; rcases h with h | h; exact hir h; exact h0 h)]
  rw [h1]

noncomputable def implBody (p n : Int) (st : Rows × Rows × Int × Int) : Option ((Rows × Rows × Int × Int) ⊕ (Rows × Rows × Int)) :=
      ((some (decide (st.2.2.1 < n))).bind fun a6807 =>
        cond a6807
        ((some (decide (st.2.2.2 < ((st.1.length : Nat) : Int)))).bind fun a6811 =>
          some a6811)
        (some false)).bind fun (s6801 : Bool) =>
      cond s6801
      (((whileO (fun (s7797 : Int) =>
              ((some (decide (s7797 < ((st.1.length : Nat) : Int)))).bind fun a7835 =>
                cond a7835
                ((idxO st.1 s7797).bind fun a7845 =>
                  (idxO a7845 st.2.2.1).bind fun a7854 =>
                  (some (decide (a7854 = 0))).bind fun a7856 =>
                  some a7856)
                (some false)).bind fun (s7829 : Bool) =>
              cond s7829
              ((addO s7797 1).bind fun a7863 =>
                some (.inl a7863))
              (some (.inr s7797))) st.2.2.2).bind fun (s7671 : Int) =>
          (some (decide (s7671 = ((st.1.length : Nat) : Int)))).bind fun a7867 =>
          cond a7867
          (some (st.1, st.2.1, st.2.2.2))
          ((F_impl_reduction_1 (0, st.2.2.2, s7671, 0) p st.1 st.2.1).bind fun y7870 =>
            (idxO y7870.1 st.2.2.2).bind fun a7879 =>
            (idxO a7879 st.2.2.1).bind fun a7888 =>
            (F_impl_reduction_1 (1, st.2.2.2, 0, a7888) p y7870.1 y7870.2).bind fun y7890 =>
            (forS (fun (k7893 : Nat) (s8050 : List (List Int) × List (List Int)) =>
                ((some (!decide (((k7893 : Nat) : Int) = st.2.2.2))).bind fun a8088 =>
                  cond a8088
                  ((idxO s8050.1 ((k7893 : Nat) : Int)).bind fun a8098 =>
                    (idxO a8098 st.2.2.1).bind fun a8107 =>
                    (some (!decide (a8107 = 0))).bind fun a8109 =>
                    some a8109)
                  (some false)).bind fun (s8082 : Bool) =>
                cond s8082
                ((idxO s8050.1 ((k7893 : Nat) : Int)).bind fun a8121 =>
                  (idxO a8121 st.2.2.1).bind fun a8130 =>
                  (F_impl_reduction_1 (2, ((k7893 : Nat) : Int), st.2.2.2, a8130) p s8050.1 s8050.2).bind fun y8132 =>
                  some (y8132.1, y8132.2))
                (some (s8050.1, s8050.2))) y7890.1.length 0 (y7890.1, y7890.2)).bind fun (s8137 : List (List Int) × List (List Int)) =>
            (addO st.2.2.2 1).bind fun a8139 =>
            some (s8137.1, s8137.2, a8139))).bind fun (s7477 : List (List Int) × List (List Int) × Int) =>
        (addO st.2.2.1 1).bind fun a8144 =>
        some (.inl (s7477.1, s7477.2.1, a8144, s7477.2.2)))
      (some (.inr (st.1, st.2.1, st.2.2.2)))
theorem impl_step {p : Int} {n N q c r : Nat} {m a : Rows} (hf : fdB p = true) (h : okM p N m) (ha : okM p q a) (hn : n ≤ N) (hN : N ≤ 1048576) (hL : m.length ≤ 1048576) (hl : a.length = m.length) (hr : r < m.length) (hc : c < n) :
    implBody p (n : Int) (m, a, (c : Int), (r : Int)) = some (.inl (if scanN m c (m.length - r) r = m.length then (m, a, (c : Int) + 1, (r : Int)) else (stepA p c m m r (scanN m c (m.length - r) r), stepA p c m a r (scanN m c (m.length - r) r), (c : Int) + 1, (r : Int) + 1))) := by
  have hp := fdB_rng hf
  unfold implBody
  dsimp only
  refine bnd (a := true) (stp (cTW (dT (by omega)) (stp (by rw [dT (by omega)])))) (cTW rfl ?_)
  have hsc : ∀ {f : Int → Option (Int ⊕ Int)}, (∀ k : Nat, k < m.length → f (k : Int) = some (if el (gr m k) c = 0 then .inl ((k : Int) + 1) else .inr (k : Int))) → f (m.length : Int) = some (.inr (m.length : Int)) → whileO f (r : Int) = some ((scanN m c (m.length - r) r : Nat) : Int) := fun h1 h2 => scan_ h1 h2 _ _ (by omega)
  obtain ⟨s1, s2, s3⟩ := scanN_spec m c (m.length - r) r (by omega)
  generalize scanN m c (m.length - r) r = k at hsc s1 s2 s3 ⊢
  refine bnd (a := if k = m.length then (m, a, (r : Int)) else (stepA p c m m r k, stepA p c m a r k, (r : Int) + 1)) ?_ ?_
  · refine bnd (hsc ?_ ?_) (stp ?_)
    · intro i hi
      have hrow := okM_gr h hi
      refine bnd (a := decide (el (gr m i) c = 0)) (stp (cTW (dT (by omega)) (bnd (idx_gr hi) (bnd (idx_el (by omega)) rfl)))) ?_
      by_cases h0 : el (gr m i) c = 0
      · rw [if_pos h0]; exact cTW (dT h0) (bnd (addO_of (by omega) (by omega)) rfl)
      · rw [if_neg h0]; exact cFW (dF h0) rfl
    · exact bnd (a := false) (stp (cFW (dF (by omega)) rfl)) (cFW rfl rfl)
    · by_cases hk : k = m.length
      · rw [if_pos hk]; exact cTW (dT (by omega)) rfl
      · rw [if_neg hk]
        have hkl : k < m.length := by omega
        have hne := s3 hkl
        refine cFW (dF (by omega)) ?_
        have h1 : okM p N (swapM m r k) := swapM_ok h hr hkl
        have h1a : okM p q (swapM a r k) := swapM_ok ha (by omega) (by omega)
        have hr1 : r < (swapM m r k).length := by rw [swapM_len]; exact hr
        have hrow := okM_gr h1 hr1
        have hel := okM_el h1 hr1 (show c < N by omega)
        have hnz : el (gr (swapM m r k) r) c ≠ 0 := by rw [swapM_gr hr hkl]; exact hne
        refine bnd (red1_exch hr hkl hl) ?_
        dsimp only
        refine bnd (idx_gr hr1) (bnd (idx_el (by omega)) (bnd (red1_div hf h1 h1a hr1 (by rw [swapM_len, swapM_len]; exact hl) ⟨by omega, hel.2⟩) ?_))
        change (forS _ (pivA p c m m r k).length 0 (pivA p c m m r k, pivA p c m a r k)).bind _ = _
        have h2 : okM p N (pivA p c m m r k) := pivA_ok hp.1 h hr hkl
        have h2a : okM p q (pivA p c m a r k) := pivA_ok hp.1 ha (by omega) (by omega)
        have hl2 : (pivA p c m m r k).length = m.length := pivA_len p c m m r k
        have hl2a : (pivA p c m a r k).length = m.length := by rw [pivA_len]; exact hl
        have hr2 : r < (pivA p c m m r k).length := by omega
        have := forS_is (n := (pivA p c m m r k).length) (fun i => (partG (elimG p c r (pivA p c m m r k) (pivA p c m m r k)) (pivA p c m m r k) i, partG (elimG p c r (pivA p c m m r k) (pivA p c m a r k)) (pivA p c m a r k) i)) (f := (fun (k7893 : Nat) (s8050 : List (List Int) × List (List Int)) =>
                ((some (!decide (((k7893 : Nat) : Int) = (r : Int)))).bind fun a8088 =>
                  cond a8088
                  ((idxO s8050.1 ((k7893 : Nat) : Int)).bind fun a8098 =>
                    (idxO a8098 (c : Int)).bind fun a8107 =>
                    (some (!decide (a8107 = 0))).bind fun a8109 =>
                    some a8109)
                  (some false)).bind fun (s8082 : Bool) =>
                cond s8082
                ((idxO s8050.1 ((k7893 : Nat) : Int)).bind fun a8121 =>
                  (idxO a8121 (c : Int)).bind fun a8130 =>
                  (F_impl_reduction_1 (2, ((k7893 : Nat) : Int), (r : Int), a8130) p s8050.1 s8050.2).bind fun y8132 =>
                  some (y8132.1, y8132.2))
                (some (s8050.1, s8050.2)))) ?_
        · have e1 : partG (elimG p c r (pivA p c m m r k) (pivA p c m m r k)) (pivA p c m m r k) (pivA p c m m r k).length = stepA p c m m r k := partGN _ _
          have e2 : partG (elimG p c r (pivA p c m m r k) (pivA p c m a r k)) (pivA p c m a r k) (pivA p c m m r k).length = stepA p c m a r k := by
            rw [hl2, ← hl2a, partGN]; rfl
          rw [partG0, partG0, e1, e2] at this
          exact bnd this (bnd (addO_of (by omega) (by omega)) rfl)
        · show ∀ i, i < (pivA p c m m r k).length → _
          unfold stepA at *
          generalize pivA p c m m r k = w at h2 hl2 hr2
          generalize pivA p c m a r k = b at h2a hl2a
          intro i hi
          have hib : i < b.length := by omega
          have hrb : r < b.length := by omega
          have hrow2 := okM_gr h2 hi
          have hli : i < (partG (elimG p c r w w) w i).length := by rw [partG_len]; exact hi
          have hlr : r < (partG (elimG p c r w w) w i).length := by rw [partG_len]; exact hr2
          have i1 := idx_gr hli
          rw [part_self hi] at i1
          by_cases hir : i = r
          · refine bnd (a := false) (stp (cFW (nT (dT (by omega))) rfl)) (cFW rfl ?_)
            rw [part_skip hi (Or.inl hir), part_skip hib (Or.inl hir)]
          · by_cases h0 : el (gr w i) c = 0
            · refine bnd (a := false) (stp (cTW (nF (dF (by omega))) (bnd i1 (bnd (idx_el (by omega)) (stp (by rw [dT h0]; rfl)))))) (cFW rfl ?_)
              rw [part_skip hi (Or.inr h0), part_skip hib (Or.inr h0)]
            · refine bnd (a := true) (stp (cTW (nF (dF (by omega))) (bnd i1 (bnd (idx_el (by omega)) (stp (by rw [dF h0]; rfl)))))) (cTW rfl ?_)
              refine bnd i1 (bnd (idx_el (by omega)) ?_)
              have hfe := okM_el h2 hi (show c < N by omega)
              have := red1_sub (f := el (gr w i) c) hp (part_ok (c := c) (r := r) (m := w) hp.1 h2 i) (part_ok (c := c) (r := r) (m := w) hp.1 h2a i) hli hlr (by rw [partG_len, partG_len]; omega) hir hfe
              rw [part_self hi, part_self hib, part_piv i hr2, part_piv i hrb] at this
              refine bnd this ?_
              rw [part_sub hi hir h0, part_sub hib hir h0]
  · by_cases hk : k = m.length
    · rw [if_pos hk, if_pos hk]; exact bnd (addO_of (by omega) (by omega)) rfl
    · rw [if_neg hk, if_neg hk]; exact bnd (addO_of (by omega) (by omega)) rfl
theorem impl_loop {p : Int} {n N q : Nat} (hf : fdB p = true) (hn : n ≤ N) (hN : N ≤ 1048576) : ∀ (d c : Nat) (m a : Rows) (r : Nat), c + d = n → okM p N m → okM p q a → m.length ≤ 1048576 → a.length = m.length → r ≤ m.length →
    whileO (implBody p (n : Int)) (m, a, (c : Int), (r : Int)) = some ((redLoop p d c m a r).1, (redLoop p d c m a r).2.1, ((redLoop p d c m a r).2.2 : Int))
  | 0, c, m, a, r, hc, h, ha, hL, hl, hr => by
    refine whileO_end ?_
    unfold implBody
    exact bnd (a := false) (stp (cFW (dF (by dsimp only; omega)) rfl)) (cFW rfl rfl)
  | d + 1, c, m, a, r, hc, h, ha, hL, hl, hr => by
    unfold redLoop
    by_cases hrl : r < m.length
    · rw [if_pos hrl]
      have hs := impl_step hf h ha hn hN hL hl hrl (show c < n by omega)
      obtain ⟨s1, s2, s3⟩ := scanN_spec m c (m.length - r) r (by omega)
      split
      · rename_i hk
        rw [if_pos hk] at hs
        rw [whileO_step hs]
        exact impl_loop hf hn hN d (c + 1) m a r (by omega) h ha hL hl hr
      · rename_i hk
        rw [if_neg hk] at hs
        rw [whileO_step hs]
        have hkl : scanN m c (m.length - r) r < m.length := by omega
        exact impl_loop hf hn hN d (c + 1) _ _ (r + 1) (by omega) (stepA_ok (fdB_rng hf).1 h hrl hkl) (stepA_ok (fdB_rng hf).1 ha (by omega) (by omega)) (by rw [stepA_len]; exact hL) (by rw [stepA_len, stepA_len]; exact hl) (by rw [stepA_len]; omega)
    · rw [if_neg hrl]
      refine whileO_end ?_
      unfold implBody
      exact bnd (a := false) (stp (cTW (dT (by dsimp only; omega)) (stp (by rw [dF (by dsimp only; omega)])))) (cFW rfl rfl)

/-! ### the whole -/
theorem redLoop_ok {p : Int} {N q : Nat} (hp : 2 ≤ p) : ∀ (d c : Nat) (m a : Rows) (r : Nat), okM p N m → okM p q a → a.length = m.length → r ≤ m.length →
    okM p N (redLoop p d c m a r).1 ∧ okM p q (redLoop p d c m a r).2.1 ∧ (redLoop p d c m a r).1.length = m.length ∧ (redLoop p d c m a r).2.1.length = m.length ∧ r ≤ (redLoop p d c m a r).2.2 ∧ (redLoop p d c m a r).2.2 ≤ m.length ∧ (redLoop p d c m a r).2.2 ≤ r + d
  | 0, c, m, a, r, h, ha, hl, hr => ⟨h, ha, rfl, hl, Nat.le_refl _, hr, by simp [redLoop]⟩
  | d + 1, c, m, a, r, h, ha, hl, hr => by
    unfold redLoop
    by_cases hrl : r < m.length
    · rw [if_pos hrl]
      obtain ⟨s1, s2, s3⟩ := scanN_spec m c (m.length - r) r (by omega)
      split
      · obtain ⟨k1, k2, k3, k4, k5, k6, k7⟩ := redLoop_ok hp d (c + 1) m a r h ha hl hr
        exact ⟨k1, k2, k3, k4, k5, k6, by omega⟩
      · have hkl : scanN m c (m.length - r) r < m.length := by omega
        obtain ⟨k1, k2, k3, k4, k5, k6, k7⟩ := redLoop_ok hp d (c + 1) (stepA p c m m r (scanN m c (m.length - r) r)) (stepA p c m a r (scanN m c (m.length - r) r)) (r + 1) (stepA_ok hp h hrl hkl) (stepA_ok hp ha (by omega) (by omega)) (by rw [stepA_len, stepA_len]; exact hl) (by rw [stepA_len]; omega)
        rw [stepA_len] at k3 k4 k6
        exact ⟨k1, k2, k3, k4, by omega, k6, by omega⟩
    · rw [if_neg hrl]; exact ⟨h, ha, rfl, hl, Nat.le_refl _, hr, Nat.le_add_right _ _⟩
/-- the reduced rows -/
def redM (p : Int) (n : Nat) (m : Rows) : Rows := (redLoop p n 0 m m 0).1.take (redLoop p n 0 m m 0).2.2
theorem redLoop_any (p : Int) : ∀ (d c : Nat) (m a b : Rows) (r : Nat), (redLoop p d c m a r).1 = (redLoop p d c m b r).1 ∧ (redLoop p d c m a r).2.2 = (redLoop p d c m b r).2.2
  | 0, _, _, _, _, _ => ⟨rfl, rfl⟩
  | d + 1, c, m, a, b, r => by
    unfold redLoop
    split
    · split
      · exact redLoop_any p d (c + 1) m a b r
      · exact redLoop_any p d (c + 1) _ _ _ (r + 1)
    · exact ⟨rfl, rfl⟩
theorem reduction_ {p : Int} {n N q : Nat} {m a : Rows} (hf : fdB p = true) (hn : n ≤ N) (hN : N ≤ 1048576) (h : okM p N m) (ha : okM p q a) (hL : m.length ≤ 1048576) (hl : a.length = m.length) :
    F_impl_reduction p m (n : Int) a = some ((redLoop p n 0 m a 0).1, (redLoop p n 0 m a 0).2.1, ((redLoop p n 0 m a 0).2.2 : Int)) :=
  bnd (impl_loop hf hn hN n 0 m a 0 (by omega) h ha hL hl (by omega)) rfl
theorem slice0 {α : Type} {l : List α} {k : Nat} (h : k ≤ l.length) : sliceO l 0 (k : Int) = some (l.take k) := by
  unfold sliceO
  rw [if_pos (by omega)]
  simp
theorem reduced_ {p : Int} {n N : Nat} {m : Rows} (hf : fdB p = true) (hn : n ≤ N) (hN : N ≤ 1048576) (h : okM p N m) (hL : m.length ≤ 1048576) : F_impl_reduced p m (n : Int) = some (redM p n m) := by
  have hm : maxN = 1099511627776 := rfl
  have ha : okM p 0 (List.replicate m.length ([] : List Int)) := by
    intro x hx
    rw [List.eq_of_mem_replicate hx]
    exact ⟨rfl, fun y hy => by cases hy⟩
  obtain ⟨k1, _, k3, _, _, k6, _⟩ := redLoop_ok (fdB_rng hf).1 n 0 m (List.replicate m.length []) 0 h ha (by simp) (by omega)
  obtain ⟨e1, e2⟩ := redLoop_any p n 0 m (List.replicate m.length []) m 0
  refine bnd (clones_ (by omega) (fun r hr => by have := (h r hr).1; omega)) (bnd (makeO_of _ (by omega)) (bnd (reduction_ hf hn hN h ha hL (by simp)) ?_))
  unfold redM
  rw [← e1, ← e2]
  exact bnd (slice0 (by dsimp only; omega)) rfl
theorem spReduce_ {p : Int} {n N : Nat} {m : Rows} (hf : fdB p = true) (hn : n ≤ N) (hN : N ≤ 1048576) (h : okM p N m) (hL : m.length ≤ 1048576) : F_spec_spReduce p (n : Int) m = some (redM p n m) := by
  have hm : maxN = 1099511627776 := rfl
  obtain ⟨k1, _, k3, _, _, k6, _⟩ := redLoop_ok (fdB_rng hf).1 n 0 m m 0 h h rfl (by omega)
  have hcopy : forS (fun (k2 : Nat) (s55 : List (List Int)) =>
      (idxO m ((k2 : Nat) : Int)).bind fun a72 =>
      (F_spec_l1Own a72).bind fun y76 =>
      (appO s55 [y76]).bind fun a84 =>
      some a84) m.length 0 [] = some m := by
    refine (forS_map (fun r => r) m [] (by simp; omega) ?_).trans (by simp)
    intro j x s hx hs
    have hj : j < m.length := (List.getElem?_eq_some_iff.1 hx).1
    have h1 := (h x (mem_of_get hx)).1
    exact bnd (idxO_of hx) (bnd (own_ (by omega)) (bnd (appO_of (by simp at hs ⊢; omega)) rfl))
  refine bnd hcopy (bnd (spec_loop hf hn hN n 0 m m 0 (by omega) h hL (by omega)) ?_)
  exact bnd (slice0 (by dsimp only; omega)) rfl
theorem redM_ok {p : Int} {n N : Nat} {m : Rows} (hp : 2 ≤ p) (h : okM p N m) : okM p N (redM p n m) ∧ (redM p n m).length ≤ m.length ∧ (redM p n m).length ≤ n := by
  obtain ⟨k1, _, k3, _, _, k6, k7⟩ := redLoop_ok hp n 0 m m 0 h h rfl (by omega)
  unfold redM
  refine ⟨fun r hr => k1 r (List.mem_of_mem_take hr), ?_, ?_⟩
  · rw [List.length_take]; omega
  · rw [List.length_take]; omega
end Go.Proofs.YtnlbhdepagkjgaaDoor
namespace Go.Proofs.YtnlbhdepagkjgaaDoor
theorem forO_eq {α τ : Type} [DecidableEq α] {f : Nat → Unit → Option (Unit ⊕ τ)} {t : τ} : ∀ (l m : List α) (k : Nat), l.length = m.length → (∀ j a b, l[j]? = some a → m[j]? = some b → f (k + j) () = some (if a = b then .inl () else .inr t)) → forO f l.length k () = some (if l = m then .inl () else .inr t)
  | [], [], k, _, _ => rfl
  | [], _ :: _, _, h, _ => by simp at h
  | _ :: _, [], _, h, _ => by simp at h
  | a :: l, b :: m, k, hl, h => by
    show (f k ()).bind _ = _
    have h0 : f k () = _ := h 0 a b rfl rfl
    rw [h0]
    by_cases hab : a = b
    · rw [if_pos hab]
      have := forO_eq l m (k + 1) (by simpa using hl) (fun j x y hx hy => by
        have := h (j + 1) x y (by simpa using hx) (by simpa using hy)
        rw [show k + 1 + j = k + (j + 1) by omega]; exact this)
      show forO f l.length (k + 1) () = _
      rw [this]
      by_cases h2 : l = m
      · rw [if_pos h2, if_pos (by rw [hab, h2])]
      · rw [if_neg h2, if_neg (by intro h3; exact h2 (List.cons.inj h3).2)]
    · rw [if_neg hab, if_neg (by intro h3; exact hab (List.cons.inj h3).1)]; rfl
theorem l1Same_ (a b : List Int) : F_spec_l1Same a b = some (decide (a = b)) := by
  refine stp ?_
  by_cases h : a.length = b.length
  · refine cFW (nT (dT (by omega))) (sqW (forO_eq a b 0 h ?_ (t := false)) ?_)
    · intro j x y hx hy
      rw [Nat.zero_add]
      refine bnd (idxO_of hx) (bnd (idxO_of hy) (stp ?_))
      by_cases h2 : x = y
      · rw [if_pos h2]; exact cFW (nT (dT h2)) rfl
      · rw [if_neg h2]; exact cTW (nF (dF h2)) rfl
    · by_cases h2 : a = b
      · rw [if_pos h2, dT h2]; rfl
      · rw [if_neg h2, dF h2]; rfl
  · rw [show decide (a = b) = false from dF (fun h2 => h (by rw [h2]))]; exact cTW (nF (dF (by omega))) rfl
end Go.Proofs.YtnlbhdepagkjgaaDoor
namespace Go.Proofs.YtnlbhdepagkjgaaDoor

/-! ### leads -/
def leadN : List Int → Nat
  | [] => 0
  | x :: xs => if x = 0 then leadN xs + 1 else 0
theorem leadN_le : ∀ r : List Int, leadN r ≤ r.length
  | [] => Nat.le_refl _
  | x :: xs => by
    unfold leadN; have := leadN_le xs
    split
    · simp only [List.length_cons]; omega
    · omega
theorem el_zero (x : Int) (xs : List Int) : el (x :: xs) 0 = x := by unfold el; simp
theorem el_succ (x : Int) (xs : List Int) (j : Nat) : el (x :: xs) (j + 1) = el xs j := by unfold el; simp
theorem el_out {r : List Int} {j : Nat} (h : r.length ≤ j) : el r j = 0 := by unfold el; rw [List.getD_eq_getElem?_getD, List.getElem?_eq_none h]; rfl
theorem leadN_z : ∀ (r : List Int) (j : Nat), j < leadN r → el r j = 0
  | [], j, h => by simp [leadN] at h
  | x :: xs, j, h => by
    unfold leadN at h
    split at h
    · rename_i h0
      cases j with
      | zero => rw [el_zero]; exact h0
      | succ j => rw [el_succ]; exact leadN_z xs j (by omega)
    · omega
theorem leadN_nz : ∀ (r : List Int), leadN r < r.length → el r (leadN r) ≠ 0
  | [], h => by simp at h
  | x :: xs, h => by
    unfold leadN at h ⊢
    split at h
    · rename_i h0
      rw [if_pos h0, el_succ]
      exact leadN_nz xs (by simpa using h)
    · rename_i h0
      rw [if_neg h0, el_zero]; exact h0
theorem leadN_eq {r : List Int} {k : Nat} (hz : ∀ j, j < k → el r j = 0) (hk : el r k ≠ 0) : leadN r = k := by
  rcases Nat.lt_trichotomy (leadN r) k with h | h | h
  · have h1 := hz _ h
    rcases Nat.lt_or_ge (leadN r) r.length with h2 | h2
    · exact absurd h1 (leadN_nz r h2)
    · have : el r k = 0 := el_out (by omega)
      exact absurd this hk
  · exact h
  · exact absurd (leadN_z r k h) hk
theorem leadN_full {r : List Int} (h : ∀ j, j < r.length → el r j = 0) : leadN r = r.length := by
  rcases Nat.lt_or_ge (leadN r) r.length with h2 | h2
  · exact absurd (h _ h2) (leadN_nz r h2)
  · have := leadN_le r; omega
theorem implLead_at {f : Nat → Unit → Option (Unit ⊕ Int)} : ∀ (r : List Int) (k : Nat), (∀ j a, r[j]? = some a → f (k + j) () = some (if a = 0 then .inl () else .inr ((k + j : Nat) : Int))) → forO f r.length k () = some (if leadN r = r.length then .inl () else .inr ((k + leadN r : Nat) : Int))
  | [], k, _ => rfl
  | x :: xs, k, h => by
    show (f k ()).bind _ = _
    have h0 := h 0 x rfl
    rw [Nat.add_zero] at h0
    rw [h0]
    have hl : leadN (x :: xs) = if x = 0 then leadN xs + 1 else 0 := rfl
    rw [hl]
    by_cases hx : x = 0
    · rw [if_pos hx, if_pos hx]
      have := implLead_at xs (k + 1) (fun j a hj => by
        have := h (j + 1) a (by simpa using hj)
        rw [show k + 1 + j = k + (j + 1) by omega]; exact this)
      show forO f xs.length (k + 1) () = _
      rw [this, List.length_cons]
      by_cases h2 : leadN xs = xs.length
      · rw [if_pos h2, if_pos (by omega)]
      · rw [if_neg h2, if_neg (by omega), show k + 1 + leadN xs = k + (leadN xs + 1) by omega]
    · rw [if_neg hx, if_neg hx, if_neg (by simp)]; rfl
theorem lead_ (r : List Int) : F_impl_lead r = some (leadN r : Int) := by
  refine sqW (implLead_at r 0 ?_) ?_
  · intro j a hj
    rw [Nat.zero_add]
    refine bnd (idxO_of hj) (stp ?_)
    by_cases h : a = 0
    · rw [if_pos h]; exact cFW (nT (dT h)) rfl
    · rw [if_neg h]; exact cTW (nF (dF h)) rfl
  · have := leadN_le r
    by_cases h : leadN r = r.length
    · rw [if_pos h, h]; rfl
    · rw [if_neg h, Nat.zero_add]; rfl
theorem spLead_ {r : List Int} (hr : r.length ≤ 9223372036854775806) : F_spec_spLead r = some (leadN r : Int) := by
  have hle := leadN_le r
  refine bnd (whileO_is (fun j => (j : Int)) (t := (leadN r : Int)) (leadN r) ?_ ?_) rfl
  · intro j hj
    have hjl : j < r.length := by omega
    refine bnd (a := true) (stp (cTW (dT (by omega)) (bnd (idx_el hjl) (stp (by rw [leadN_z r j hj]; rfl))))) (cTW rfl (bnd (addO_of (by omega) (by omega)) rfl))
  · by_cases h : leadN r < r.length
    · refine bnd (a := false) (stp (cTW (dT (by omega)) (bnd (idx_el h) (stp (by rw [dF (leadN_nz r h)]))))) (cFW rfl rfl)
    · exact bnd (a := false) (stp (cFW (dF (by omega)) rfl)) (cFW rfl rfl)
theorem isZero_ (r : List Int) : F_impl_isZero r = some (decide (leadN r = r.length)) :=
  bnd (lead_ r) (stp (by rw [decide_eq_decide.2]; omega))

/-! ### rows by their elements -/
theorem ext_el {a b : List Int} (hl : a.length = b.length) (h : ∀ j, j < a.length → el a j = el b j) : a = b := by
  apply List.ext_getElem?
  intro j
  by_cases hj : j < a.length
  · rw [el_get hj, el_get (by omega), h j hj]
  · rw [List.getElem?_eq_none (by omega), List.getElem?_eq_none (by omega)]
theorem el_mapR {g : Nat → Int → Int} {r : List Int} {j : Nat} (h : j < r.length) : el (mapR g r) j = g j (el r j) := by
  have h1 := el_get (r := mapR g r) (c := j) (by rw [mapR_len]; exact h)
  unfold mapR at h1
  rw [List.getElem?_mapIdx, el_get h] at h1
  exact (Option.some.inj h1).symm
theorem swapM_gr2 {m : Rows} {r k i : Nat} (hr : r < m.length) (hk : k < m.length) : gr (swapM m r k) i = if i = k then gr m r else if i = r then gr m k else gr m i := by
  unfold swapM
  rw [gr_set (by rw [List.length_set]; exact hk)]
  by_cases h : k = i
  · rw [if_pos h, if_pos h.symm]
  · rw [if_neg h, if_neg (Ne.symm h), gr_set hr]
    by_cases h2 : r = i
    · rw [if_pos h2, if_pos h2.symm]
    · rw [if_neg h2, if_neg (Ne.symm h2)]
theorem pivA_gr {p : Int} {c : Nat} {m a : Rows} {r k i : Nat} (hr : r < a.length) : gr (pivA p c m a r k) i = if i = r then mapR (scaleG p (invF p (el (gr (swapM m r k) r) c))) (gr (swapM a r k) r) else gr (swapM a r k) i := by
  unfold pivA scaleM
  rw [gr_set (by rw [swapM_len]; exact hr)]
  by_cases h : r = i
  · rw [if_pos h, if_pos h.symm]
  · rw [if_neg h, if_neg (Ne.symm h)]

/-! ### reduced lists -/
/-- the first r rows are reduced up to column c; the others are zero up to it -/
structure RedI (c r : Nat) (m : Rows) : Prop where
  le : r ≤ m.length
  lt : ∀ i, i < r → leadN (gr m i) < c
  one : ∀ i, i < r → el (gr m i) (leadN (gr m i)) = 1
  zero : ∀ i j, i < r → j < m.length → i ≠ j → el (gr m j) (leadN (gr m i)) = 0
  inc : ∀ i j, i < j → j < r → leadN (gr m i) < leadN (gr m j)
  rest : ∀ i, r ≤ i → i < m.length → ∀ q, q < c → el (gr m i) q = 0
theorem RedI.start (m : Rows) : RedI 0 0 m := ⟨Nat.zero_le _, fun _ h => by omega, fun _ h => by omega, fun _ _ h => by omega, fun _ _ _ h => by omega, fun _ _ _ _ h => by omega⟩
theorem RedI.skip {c r : Nat} {m : Rows} (h : RedI c r m) (hz : ∀ i, r ≤ i → i < m.length → el (gr m i) c = 0) : RedI (c + 1) r m :=
  ⟨h.le, fun i hi => by have := h.lt i hi; omega, h.one, h.zero, h.inc, fun i h1 h2 q hq => by
    rcases Nat.lt_or_ge q c with h3 | h3
    · exact h.rest i h1 h2 q h3
    · rw [show q = c by omega]; exact hz i h1 h2⟩
theorem scanN_zero (m : Rows) (c : Nat) : ∀ (d k : Nat), ∀ i, k ≤ i → i < scanN m c d k → el (gr m i) c = 0
  | 0, k, i, h1, h2 => by simp only [scanN] at h2; omega
  | d + 1, k, i, h1, h2 => by
    unfold scanN at h2
    split at h2
    · rename_i h0
      rcases Nat.lt_or_ge k i with h3 | h3
      · exact scanN_zero m c d (k + 1) i h3 h2
      · rw [show i = k by omega]; exact h0
    · omega
theorem emod_sm {p x : Int} (h : 0 ≤ x ∧ x < p) : x % p = x := Int.emod_eq_of_lt h.1 h.2
theorem step_el {p : Int} {c r k N : Nat} {m : Rows} (hf : fdB p = true) (h : okM p N m) (hr : r < m.length) (hk : k < m.length) (hc : c < N) (hne : el (gr m k) c ≠ 0) :
    let s := swapM m r k
    let iv := invF p (el (gr m k) c)
    (∀ q, q < N → el (gr (stepA p c m m r k) r) q = (el (gr m k) q * iv) % p) ∧ (el (gr m k) c * iv) % p = 1 ∧
    ∀ i, i < m.length → i ≠ r → ∀ q, q < N → el (gr (stepA p c m m r k) i) q = (el (gr s i) q - el (gr s i) c * ((el (gr m k) q * iv) % p)) % p := by
  intro s iv
  have hp := fdB_rng hf
  have hel := okM_el h hk hc
  obtain ⟨_, i1, i2, i3⟩ := inverse_ hf (x := el (gr m k) c) ⟨by omega, hel.2⟩
  have hsr : gr s r = gr m k := swapM_gr hr hk
  have hsl : s.length = m.length := swapM_len m r k
  have hso : okM p N s := swapM_ok h hr hk
  have hpl : (pivA p c m m r k).length = m.length := pivA_len p c m m r k
  have hpr : gr (pivA p c m m r k) r = mapR (scaleG p iv) (gr m k) := by
    rw [pivA_gr hr, if_pos rfl]
    show mapR (scaleG p (invF p (el (gr s r) c))) (gr s r) = _
    rw [hsr]
  have hrow := okM_gr h hk
  have hpe : ∀ q, q < N → el (gr (pivA p c m m r k) r) q = (el (gr m k) q * iv) % p := fun q hq => by
    rw [hpr, el_mapR (by omega)]; rfl
  have hst : ∀ i, i < m.length → gr (stepA p c m m r k) i = elimG p c r (pivA p c m m r k) (pivA p c m m r k) i (gr (pivA p c m m r k) i) := fun i hi => elimA_gr (by rw [hpl]; exact hi)
  refine ⟨fun q hq => ?_, i1, fun i hi hir q hq => ?_⟩
  · rw [hst r hr]
    unfold elimG
    rw [if_pos (.inl rfl)]
    exact hpe q hq
  · rw [hst i hi]
    have hpi : gr (pivA p c m m r k) i = gr s i := by rw [pivA_gr hr, if_neg hir]
    have hsi := okM_gr hso (i := i) (by rw [hsl]; exact hi)
    have hb := okM_el hso (i := i) (by rw [hsl]; exact hi) hq
    unfold elimG
    by_cases h0 : el (gr (pivA p c m m r k) i) c = 0
    · rw [if_pos (.inr h0), hpi]
      rw [hpi] at h0
      rw [h0, Int.zero_mul, Int.sub_zero, emod_sm hb]
    · rw [if_neg (by intro h1; rcases h1 with h1 | h1; exact hir h1; exact h0 h1)]
      rw [el_mapR (by rw [hpi]; omega)]
      unfold subG
      rw [hpi, hpe q hq]
theorem RedI.step {p : Int} {c r N : Nat} {m : Rows} (hf : fdB p = true) (ho : okM p N m) (h : RedI c r m) (hr : r < m.length) (hc : c < N) (hk : scanN m c (m.length - r) r ≠ m.length) :
    RedI (c + 1) (r + 1) (stepA p c m m r (scanN m c (m.length - r) r)) := by
  obtain ⟨s1, s2, s3⟩ := scanN_spec m c (m.length - r) r (by omega)
  have hp := fdB_rng hf
  generalize scanN m c (m.length - r) r = k at s1 s2 s3 hk ⊢
  have hkl : k < m.length := by omega
  have hne := s3 hkl
  obtain ⟨e1, e2, e3⟩ := step_el hf ho hr hkl hc hne
  have hsl : (stepA p c m m r k).length = m.length := stepA_len p c m m r k
  -- the pivot row before column c
  have hz : ∀ q, q < c → (el (gr m k) q * invF p (el (gr m k) c)) % p = 0 := fun q hq => by
    rw [h.rest k (by omega) hkl q hq, Int.zero_mul]; exact Int.zero_emod p
  have hswap : ∀ i, i < r → gr (swapM m r k) i = gr m i := fun i hi => by
    rw [swapM_gr2 hr hkl, if_neg (by omega), if_neg (by omega)]
  -- rows before r, columns before c
  have hrow : ∀ i, i < r → ∀ q, q < c → el (gr (stepA p c m m r k) i) q = el (gr m i) q := fun i hi q hq => by
    have hb := okM_el ho (i := i) (by omega) (c := q) (by omega)
    rw [e3 i (by omega) (by omega) q (by omega), hswap i hi, hz q hq, Int.mul_zero, Int.sub_zero, emod_sm hb]
  have hlead : ∀ i, i < r → leadN (gr (stepA p c m m r k) i) = leadN (gr m i) := fun i hi => by
    have hl := h.lt i hi
    refine leadN_eq (fun j hj => ?_) ?_
    · rw [hrow i hi j (by omega)]; exact leadN_z _ j hj
    · rw [hrow i hi _ hl, h.one i hi]; omega
  have hnew : leadN (gr (stepA p c m m r k) r) = c := by
    refine leadN_eq (fun j hj => ?_) ?_
    · rw [e1 j (by omega)]; exact hz j hj
    · rw [e1 c hc, e2]; omega
  refine ⟨by omega, fun i hi => ?_, fun i hi => ?_, fun i j hi hj hij => ?_, fun i j hij hj => ?_, fun i h1 h2 q hq => ?_⟩
  · rcases Nat.lt_or_ge i r with h1 | h1
    · rw [hlead i h1]; have := h.lt i h1; omega
    · rw [show i = r by omega, hnew]; omega
  · rcases Nat.lt_or_ge i r with h1 | h1
    · rw [hlead i h1, hrow i h1 _ (h.lt i h1)]; exact h.one i h1
    · rw [show i = r by omega, hnew, e1 c hc, e2]
  · rw [hsl] at hj
    rcases Nat.lt_or_ge i r with h1 | h1
    · have hl := h.lt i h1
      rw [hlead i h1]
      by_cases hjr : j = r
      · rw [hjr, e1 _ (by omega)]; exact hz _ hl
      · rw [e3 j hj hjr _ (by omega), hz _ hl, Int.mul_zero, Int.sub_zero]
        have hs : el (gr (swapM m r k) j) (leadN (gr m i)) = 0 := by
          rw [swapM_gr2 hr hkl]
          by_cases hjk : j = k
          · rw [if_pos hjk]; exact h.zero i r h1 hr (by omega)
          · rw [if_neg hjk, if_neg hjr]; exact h.zero i j h1 hj hij
        rw [hs]; exact Int.zero_emod p
    · have hi2 : i = r := by omega
      subst hi2
      rw [hnew, e3 j hj (Ne.symm hij) c hc, e2, Int.mul_one, Int.sub_self]; exact Int.zero_emod p
  · rcases Nat.lt_or_ge j r with h1 | h1
    · rw [hlead i (by omega), hlead j h1]; exact h.inc i j hij h1
    · rw [show j = r by omega, hnew, hlead i (by omega)]; exact h.lt i (by omega)
  · rw [hsl] at h2
    rw [e3 i h2 (by omega) q (by omega)]
    rcases Nat.lt_or_ge q c with h3 | h3
    · rw [hz q h3, Int.mul_zero, Int.sub_zero]
      have hs : el (gr (swapM m r k) i) q = 0 := by
        rw [swapM_gr2 hr hkl]
        split
        · exact h.rest r (Nat.le_refl _) hr q h3
        · split
          · exact h.rest k s1 hkl q h3
          · exact h.rest i (by omega) h2 q h3
      rw [hs]; exact Int.zero_emod p
    · rw [show q = c by omega, e2, Int.mul_one, Int.sub_self]; exact Int.zero_emod p
theorem redLoop_red {p : Int} {N : Nat} (hf : fdB p = true) : ∀ (d c : Nat) (m : Rows) (r : Nat), c + d ≤ N → okM p N m → RedI c r m → RedI (c + d) (redLoop p d c m m r).2.2 (redLoop p d c m m r).1
  | 0, c, m, r, _, _, h => h
  | d + 1, c, m, r, hN, ho, h => by
    unfold redLoop
    by_cases hr : r < m.length
    · rw [if_pos hr]
      obtain ⟨s1, s2, s3⟩ := scanN_spec m c (m.length - r) r (by omega)
      split
      · rename_i hk
        have := redLoop_red hf d (c + 1) m r (by omega) ho (h.skip (fun i h1 h2 => scanN_zero m c (m.length - r) r i h1 (by omega)))
        rw [show c + (d + 1) = c + 1 + d by omega]; exact this
      · rename_i hk
        have := redLoop_red hf d (c + 1) _ (r + 1) (by omega) (stepA_ok (fdB_rng hf).1 ho hr (by omega)) (h.step hf ho hr (by omega) hk)
        rw [show c + (d + 1) = c + 1 + d by omega]; exact this
    · rw [if_neg hr]
      exact (⟨h.le, fun i hi => by have := h.lt i hi; omega, h.one, h.zero, h.inc, fun i h1 h2 => by have := h.le; omega⟩ : RedI (c + (d + 1)) r m)
/-- a reduced list of rows -/
structure Red (p : Int) (n : Nat) (b : Rows) : Prop where
  ok : okM p n b
  lt : ∀ i, i < b.length → leadN (gr b i) < n
  one : ∀ i, i < b.length → el (gr b i) (leadN (gr b i)) = 1
  zero : ∀ i j, i < b.length → j < b.length → i ≠ j → el (gr b j) (leadN (gr b i)) = 0
  inc : ∀ i j, i < j → j < b.length → leadN (gr b i) < leadN (gr b j)
theorem gr_take {m : Rows} {k i : Nat} (h : i < k) : gr (m.take k) i = gr m i := by
  unfold gr; rw [List.getD_eq_getElem?_getD, List.getD_eq_getElem?_getD, List.getElem?_take, if_pos h]
theorem redM_red {p : Int} {n : Nat} {m : Rows} (hf : fdB p = true) (h : okM p n m) : Red p n (redM p n m) := by
  have h1 := redLoop_red hf n 0 m 0 (by omega) h (RedI.start m)
  have h2 := (redM_ok (n := n) (fdB_rng hf).1 h).1
  rw [Nat.zero_add] at h1
  unfold redM at h2 ⊢
  generalize redLoop p n 0 m m 0 = t at h1 h2
  have hl : (t.1.take t.2.2).length = t.2.2 := by rw [List.length_take]; have := h1.le; omega
  refine ⟨h2, fun i hi => ?_, fun i hi => ?_, fun i j hi hj hij => ?_, fun i j hij hj => ?_⟩
  · rw [hl] at hi; rw [gr_take hi]; exact h1.lt i hi
  · rw [hl] at hi; rw [gr_take hi]; exact h1.one i hi
  · rw [hl] at hi hj; rw [gr_take hi, gr_take hj]; exact h1.zero i j hi (by have := h1.le; omega) hij
  · rw [hl] at hj; rw [gr_take hj, gr_take (by omega)]; exact h1.inc i j hij hj

/-! ### valid spaces -/
def redB (p : Int) (n : Int) (m : Rows) : Bool := decide ((m.length : Int) ≤ n) && (rowsB p n m && decide (redM p n.toNat m = m))
theorem spSame_ (a b : Rows) : F_spec_spSame a b = some (decide (a = b)) := by
  refine stp ?_
  by_cases h : a.length = b.length
  · refine cFW (nT (dT (by omega))) (sqW (forO_eq a b 0 h ?_ (t := false)) ?_)
    · intro j x y hx hy
      rw [Nat.zero_add]
      refine bnd (idxO_of hx) (bnd (idxO_of hy) (bnd (l1Same_ x y) (stp ?_)))
      by_cases h2 : x = y
      · rw [if_pos h2]; exact cFW (nT (dT h2)) rfl
      · rw [if_neg h2]; exact cTW (nF (dF h2)) rfl
    · by_cases h2 : a = b
      · rw [if_pos h2, dT h2]; rfl
      · rw [if_neg h2, dF h2]; rfl
  · rw [show decide (a = b) = false from dF (fun h2 => h (by rw [h2]))]; exact cTW (nF (dF (by omega))) rfl
theorem pad_inj {a b : List Int} {n : Nat} (ha : a.length = n) (hb : b.length = n) (hn : n ≤ 48) : ((a ++ List.replicate 48 0).take 48 = (b ++ List.replicate 48 0).take 48) ↔ a = b := by
  constructor
  · intro h
    have := congrArg (List.take n) h
    rw [List.take_take, List.take_take, Nat.min_eq_left hn, List.take_append_of_le_length (by omega), List.take_append_of_le_length (by omega), List.take_of_length_le (by omega), List.take_of_length_le (by omega)] at this
    exact this
  · intro h; rw [h]
theorem forO_pre {α τ : Type} [DecidableEq α] {f : Nat → Unit → Option (Unit ⊕ τ)} {t : τ} : ∀ (l m : List α) (k : Nat), l.length ≤ m.length → (∀ j a b, l[j]? = some a → m[j]? = some b → f (k + j) () = some (if a = b then .inl () else .inr t)) → forO f l.length k () = some (if l = m.take l.length then .inl () else .inr t)
  | [], m, k, _, _ => by simp [forO]
  | _ :: _, [], _, h, _ => by simp at h
  | a :: l, b :: m, k, hl, h => by
    show (f k ()).bind _ = _
    have h0 : f k () = _ := h 0 a b rfl rfl
    rw [h0]
    by_cases hab : a = b
    · rw [if_pos hab]
      have := forO_pre l m (k + 1) (by simpa using hl) (fun j x y hx hy => by
        have := h (j + 1) x y (by simpa using hx) (by simpa using hy)
        rw [show k + 1 + j = k + (j + 1) by omega]; exact this)
      show forO f l.length (k + 1) () = _
      rw [this, List.length_cons, List.take_succ_cons]
      by_cases h2 : l = m.take l.length
      · rw [if_pos h2, if_pos (by rw [hab, ← h2])]
      · rw [if_neg h2, if_neg (by intro h3; exact h2 (List.cons.inj h3).2)]
    · rw [if_neg hab, List.length_cons, List.take_succ_cons, if_neg (by intro h3; exact hab (List.cons.inj h3).1)]; rfl
theorem isReduced_ {p : Int} {n : Nat} {m : Rows} (hf : fdB p = true) (hn : n ≤ 24) : F_impl_isReduced p m (n : Int) = some (redB p n m) := by
  unfold redB
  rw [Int.toNat_natCast]
  refine bnd (a := !(decide ((m.length : Int) ≤ n) && rowsB p n m)) (stp ?_) ?_
  · by_cases h : (m.length : Int) ≤ n
    · rw [dT h]; exact cFW (dF (by omega)) (bnd (areVectors_ p n m) rfl)
    · rw [dF h]; exact cTW (dT (by omega)) rfl
  · by_cases h : (m.length : Int) ≤ n
    · rw [dT h, Bool.true_and, Bool.true_and]
      cases hr : rowsB p n m with
      | false => rfl
      | true =>
        have ho : okM p n m := rowsB_true.1 hr
        refine cFW rfl (bnd (reduced_ hf (Nat.le_refl n) (by omega) ho (by omega)) ?_)
        obtain ⟨k1, k2, k3⟩ := redM_ok (n := n) (fdB_rng hf).1 ho
        refine sqW (forO_pre (redM p n m) m 0 k2 ?_ (t := false)) ?_
        · intro j a b ha hb
          rw [Nat.zero_add]
          have la := (k1 a (mem_of_get ha)).1
          have lb := (ho b (mem_of_get hb)).1
          refine bnd (idxO_of ha) (bnd (idxO_of hb) (stp (stp ?_)))
          refine bnd (a := !decide (a = b)) ?_ ?_
          · unfold neqArO
            rw [if_pos ⟨by simp, by simp⟩]
            congr 2
            rw [decide_eq_decide]
            exact pad_inj la lb (by omega)
          · by_cases hab : a = b
            · rw [if_pos hab]; exact cFW (nT (dT hab)) rfl
            · rw [if_neg hab]; exact cTW (nF (dF hab)) rfl
        · by_cases he : redM p n m = m.take (redM p n m).length
          · rw [if_pos he, seqO_l]
            refine bnd (reduced_ hf (Nat.le_refl n) (by omega) ho (by omega)) (stp ?_)
            show some (decide _) = _
            congr 1
            rw [Bool.true_and, decide_eq_decide]
            constructor
            · intro h2
              rw [List.take_of_length_le (by omega)] at he; exact he
            · intro h2; rw [h2]
          · rw [if_neg he, Bool.true_and, show decide (redM p n m = m) = false from dF (fun h2 => he (by rw [h2, List.take_of_length_le (Nat.le_refl _)]))]; rfl
    · rw [dF h]; rfl
abbrev Spa := Int × Rows
def spB (p : Int) (s : Spa) : Bool := fdB p && (rng s.1 0 24 && redB p s.1 s.2)
theorem spGood_ (p : Int) (s : Spa) : F_spec_spGood p s = some (spB p s) := by
  refine bnd (a := spB p s) ?_ rfl
  unfold spB
  cases hf : fdB p with
  | false => exact bnd (fdGood p) (by rw [hf]; rfl)
  | true =>
    refine bnd (fdGood p) (cTW hf (bnd (l1In _ _ _) ?_))
    cases hr : rng s.1 0 24 with
    | false => rfl
    | true =>
      have := rng_true.1 hr
      obtain ⟨n, hn⟩ : ∃ n : Nat, s.1 = (n : Int) := ⟨s.1.toNat, by omega⟩
      refine cTW rfl (stp ?_)
      unfold redB
      rw [hn, Int.toNat_natCast]
      cases hl : decide ((s.2.length : Int) ≤ n) with
      | false => rfl
      | true =>
        have hl := of_decide_eq_true hl
        refine cTW rfl (bnd (spRows (fdB_rng hf) _ _) ?_)
        cases hb : rowsB p n s.2 with
        | false => rfl
        | true =>
          have ho : okM p n s.2 := rowsB_true.1 hb
          exact cTW rfl (bnd (spReduce_ hf (Nat.le_refl n) (by omega) ho (by omega)) (bnd (spSame_ _ _) rfl))
theorem redB_ok {p : Int} {n : Nat} {m : Rows} (hf : fdB p = true) (h : redB p n m = true) : Red p n m ∧ m.length ≤ n := by
  unfold redB at h
  simp only [Bool.and_eq_true, decide_eq_true_eq, Int.toNat_natCast] at h
  obtain ⟨h1, h2, h3⟩ := h
  have := redM_red hf (rowsB_true.1 h2)
  rw [h3] at this
  exact ⟨this, by omega⟩
end Go.Proofs.YtnlbhdepagkjgaaDoor
