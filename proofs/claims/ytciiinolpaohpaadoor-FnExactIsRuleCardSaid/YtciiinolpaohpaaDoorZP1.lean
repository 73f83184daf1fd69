/-
  Plain laws of the partial functions: loops whose states are known, lists read and written. No program in sight. No condition.
-/
import Derived.Test.YtciiinolpaohpaaDoorZF
namespace Go.Proofs.YtciiinolpaohpaaDoor

/-- numbers of Go, lists of lengths of Go -/
class Nice (α : Type) where
  ok : α → Prop
instance : Nice Int := ⟨inI⟩
instance : Nice Bool := ⟨fun _ => True⟩
instance {α : Type} [Nice α] : Nice (List α) := ⟨fun l => (l.length : Int) ≤ 9223372036854775807 ∧ ∀ x ∈ l, Nice.ok x⟩
instance {α β : Type} [Nice α] [Nice β] : Nice (α × β) := ⟨fun x => Nice.ok x.1 ∧ Nice.ok x.2⟩
/-- steps of a partial function -/
theorem stp {α β : Type} {a : α} {k : α → Option β} {y : Option β} (h : k a = y) : (some a).bind k = y := h
theorem bnd {α β : Type} {m : Option α} {a : α} {k : α → Option β} {y : Option β} (h : m = some a) (h2 : k a = y) : m.bind k = y := by rw [h]; exact h2
theorem sqW {σ τ : Type} {m r : Option (σ ⊕ τ)} {k : σ → Option τ} {y : Option τ} (h : m = r) (h2 : seqO r k = y) : seqO m k = y := by rw [h]; exact h2
theorem bndW {α β : Type} {m r : Option α} {k : α → Option β} {y : Option β} (h : m = r) (h2 : r.bind k = y) : m.bind k = y := by rw [h]; exact h2
theorem cTW {α : Type} {c : Bool} {a b y : α} (h : c = true) (h2 : a = y) : cond c a b = y := by rw [h]; exact h2
theorem cFW {α : Type} {c : Bool} {a b y : α} (h : c = false) (h2 : b = y) : cond c a b = y := by rw [h]; exact h2
theorem dT {P : Prop} [Decidable P] (h : P) : decide P = true := decide_eq_true h
theorem dF {P : Prop} [Decidable P] (h : ¬ P) : decide P = false := decide_eq_false h
theorem nT {b : Bool} (h : b = true) : (!b) = false := by rw [h]; rfl
theorem nF {b : Bool} (h : b = false) : (!b) = true := by rw [h]; rfl
theorem cI_of {x : Int} (h : inI x) : cI x = some x := if_pos h
theorem addO_of {a b : Int} (h1 : -9223372036854775808 ≤ a + b) (h2 : a + b ≤ 9223372036854775807) : addO a b = some (a + b) := cI_of ⟨h1, h2⟩
theorem subO_of {a b : Int} (h1 : -9223372036854775808 ≤ a - b) (h2 : a - b ≤ 9223372036854775807) : subO a b = some (a - b) := cI_of ⟨h1, h2⟩
theorem remO_of {a b : Int} (h : b ≠ 0) : remO a b = some (a.tmod b) := if_neg h
theorem idxO_nat {α : Type} (xs : List α) (k : Nat) : idxO xs (k : Int) = xs[k]? := by
  unfold idxO; rw [if_pos (by omega)]; rfl
theorem idxO_of {α : Type} {xs : List α} {k : Nat} {a : α} (h : xs[k]? = some a) : idxO xs (k : Int) = some a := by rw [idxO_nat, h]
theorem setO_of {α : Type} {xs : List α} {k : Nat} (a : α) (h : k < xs.length) : setO xs (k : Int) a = some (xs.set k a) := by
  unfold setO; rw [if_pos (by omega)]; rfl
theorem appO_of {α : Type} {xs ys : List α} (h : xs.length + ys.length ≤ maxN) : appO xs ys = some (xs ++ ys) := if_pos h
theorem makeO_of {α : Type} {n : Nat} (z : α) (h : n ≤ maxN) : makeO (n : Int) z = some (List.replicate n z) := by
  unfold makeO; rw [if_pos (by omega)]; rfl
theorem makeCO_of0 {α : Type} {n : Nat} (z : α) (h : n ≤ maxN) : makeCO 0 (n : Int) z = some [] := by
  unfold makeCO; rw [if_pos (by omega)]; rfl

theorem forS_at {σ : Type} {f : Nat → σ → Option σ} (v : Nat → σ) : ∀ (n k : Nat), (∀ j, k ≤ j → j < k + n → f j (v j) = some (v (j + 1))) → forS f n k (v k) = some (v (k + n))
  | 0, k, _ => rfl
  | n + 1, k, h => by
    show (f k (v k)).bind _ = _
    rw [h k (Nat.le_refl _) (by omega)]
    show forS f n (k + 1) (v (k + 1)) = _
    rw [forS_at v n (k + 1) (fun j h1 h2 => h j (by omega) (by omega))]
    rw [show k + 1 + n = k + (n + 1) by omega]
/-- a loop whose states are known -/
theorem forS_is {σ : Type} {f : Nat → σ → Option σ} {n : Nat} (v : Nat → σ) (h : ∀ j, j < n → f j (v j) = some (v (j + 1))) : forS f n 0 (v 0) = some (v n) := by
  have := forS_at v n 0 (fun j _ h2 => h j (by omega))
  simpa using this
/-- a loop that tests all of a list -/
theorem forO_all {α τ : Type} {f : Nat → Unit → Option (Unit ⊕ τ)} {t : τ} (P : α → Bool) : ∀ (l : List α) (k : Nat), (∀ j a, l[j]? = some a → f (k + j) () = some (if P a then .inl () else .inr t)) → forO f l.length k () = some (if l.all P then .inl () else .inr t)
  | [], k, _ => rfl
  | a :: l, k, h => by
    show (f k ()).bind _ = _
    have h0 : f k () = _ := h 0 a rfl
    rw [h0]
    cases hP : P a with
    | false => simp [hP]
    | true =>
      have := forO_all P l (k + 1) (fun j b hb => by
        have := h (j + 1) b (by simpa using hb)
        rw [show k + 1 + j = k + (j + 1) by omega]; exact this)
      simp only [hP, List.all_cons, Bool.true_and, if_true]
      exact this
theorem whileO_at {σ τ : Type} {f : σ → Option (σ ⊕ τ)} (v : Nat → σ) {t : τ} : ∀ (n k : Nat), (∀ j, k ≤ j → j < k + n → f (v j) = some (.inl (v (j + 1)))) → f (v (k + n)) = some (.inr t) → whileO f (v k) = some t
  | 0, k, _, he => whileO_end he
  | n + 1, k, h, he => by
    rw [whileO_step (h k (Nat.le_refl _) (by omega))]
    refine whileO_at v n (k + 1) (fun j h1 h2 => h j (by omega) (by omega)) ?_
    rw [show k + 1 + n = k + (n + 1) by omega]; exact he
theorem whileO_is {σ τ : Type} {f : σ → Option (σ ⊕ τ)} (v : Nat → σ) {t : τ} (n : Nat) (h : ∀ j, j < n → f (v j) = some (.inl (v (j + 1)))) (he : f (v n) = some (.inr t)) : whileO f (v 0) = some t :=
  whileO_at v n 0 (fun j _ h2 => h j (by omega)) (by simpa using he)

/-- the map of a list: the loop that appends what it makes of each element -/
theorem forS_map {α β : Type} {f : Nat → List β → Option (List β)} (g : α → β) (l : List α) (s : List β) (hb : s.length + l.length ≤ maxN) (h : ∀ j a s', l[j]? = some a → s'.length = s.length + j → f j s' = some (s' ++ [g a])) : forS f l.length 0 s = some (s ++ l.map g) := by
  have := forS_is (f := f) (n := l.length) (fun j => s ++ (l.take j).map g) (fun j hj => by
    rw [h j l[j] _ (List.getElem?_eq_getElem hj) (by simp; omega)]
    simp only [List.append_assoc]
    rw [List.take_add_one, List.getElem?_eq_getElem hj]
    simp only [List.map_append, Option.toList_some, List.map_cons, List.map_nil])
  simpa using this
end Go.Proofs.YtciiinolpaohpaaDoor
