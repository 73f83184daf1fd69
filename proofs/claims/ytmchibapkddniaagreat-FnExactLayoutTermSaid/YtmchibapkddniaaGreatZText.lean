/-
  Plain laws of the partial functions: loops whose states are known, lists read and written. No program in sight. No condition.
-/
import Derived.Test.YtmchibapkddniaaGreatZF
import Derived.Test.YtmchibapkddniaaGreatZFn
namespace Go.Proofs.YtmchibapkddniaaGreat

/-- numbers of Go, lists of lengths of Go -/
class Nice (α : Type) where
  ok : α → Prop
instance : Nice Int := ⟨inI⟩
instance : Nice Bool := ⟨fun _ => True⟩
instance {α : Type} [Nice α] : Nice (List α) := ⟨fun l => (l.length : Int) ≤ 9223372036854775807 ∧ ∀ x ∈ l, Nice.ok x⟩
instance {α β : Type} [Nice α] [Nice β] : Nice (α × β) := ⟨fun x => Nice.ok x.1 ∧ Nice.ok x.2⟩
/-- steps of a partial function -/
theorem stp {α β : Type} {a : α} {k : α → Option β} {y : Option β} (h : k a = y) : (some a).bind k = y := h
theorem bnd {α β : Type} {m : Option α} {a : α} {k : α → Option β} {y : Option β} (h : m = some a) (h2 : k a = y) : m.bind k = y := by rw [h]; exact h2
theorem sqW {σ τ : Type} {m r : Option (σ ⊕ τ)} {k : σ → Option τ} {y : Option τ} (h : m = r) (h2 : seqO r k = y) : seqO m k = y := by rw [h]; exact h2
theorem bndW {α β : Type} {m r : Option α} {k : α → Option β} {y : Option β} (h : m = r) (h2 : r.bind k = y) : m.bind k = y := by rw [h]; exact h2
theorem cTW {α : Type} {c : Bool} {a b y : α} (h : c = true) (h2 : a = y) : cond c a b = y := by rw [h]; exact h2
theorem cFW {α : Type} {c : Bool} {a b y : α} (h : c = false) (h2 : b = y) : cond c a b = y := by rw [h]; exact h2
theorem dT {P : Prop} [Decidable P] (h : P) : decide P = true := decide_eq_true h
theorem dF {P : Prop} [Decidable P] (h : ¬ P) : decide P = false := decide_eq_false h
theorem nT {b : Bool} (h : b = true) : (!b) = false := by rw [h]; rfl
theorem nF {b : Bool} (h : b = false) : (!b) = true := by rw [h]; rfl
theorem cI_of {x : Int} (h : inI x) : cI x = some x := if_pos h
theorem addO_of {a b : Int} (h1 : -9223372036854775808 ≤ a + b) (h2 : a + b ≤ 9223372036854775807) : addO a b = some (a + b) := cI_of ⟨h1, h2⟩
theorem subO_of {a b : Int} (h1 : -9223372036854775808 ≤ a - b) (h2 : a - b ≤ 9223372036854775807) : subO a b = some (a - b) := cI_of ⟨h1, h2⟩
theorem remO_of {a b : Int} (h : b ≠ 0) : remO a b = some (a.tmod b) := if_neg h
theorem idxO_nat {α : Type} (xs : List α) (k : Nat) : idxO xs (k : Int) = xs[k]? := by
  unfold idxO; rw [if_pos (by omega)]; rfl
theorem idxO_of {α : Type} {xs : List α} {k : Nat} {a : α} (h : xs[k]? = some a) : idxO xs (k : Int) = some a := by rw [idxO_nat, h]
theorem setO_of {α : Type} {xs : List α} {k : Nat} (a : α) (h : k < xs.length) : setO xs (k : Int) a = some (xs.set k a) := by
  unfold setO; rw [if_pos (by omega)]; rfl
theorem appO_of {α : Type} {xs ys : List α} (h : xs.length + ys.length ≤ maxN) : appO xs ys = some (xs ++ ys) := if_pos h
theorem makeO_of {α : Type} {n : Nat} (z : α) (h : n ≤ maxN) : makeO (n : Int) z = some (List.replicate n z) := by
  unfold makeO; rw [if_pos (by omega)]; rfl
theorem makeCO_of0 {α : Type} {n : Nat} (z : α) (h : n ≤ maxN) : makeCO 0 (n : Int) z = some [] := by
  unfold makeCO; rw [if_pos (by omega)]; rfl

theorem forS_at {σ : Type} {f : Nat → σ → Option σ} (v : Nat → σ) : ∀ (n k : Nat), (∀ j, k ≤ j → j < k + n → f j (v j) = some (v (j + 1))) → forS f n k (v k) = some (v (k + n))
  | 0, k, _ => rfl
  | n + 1, k, h => by
    show (f k (v k)).bind _ = _
    rw [h k (Nat.le_refl _) (by omega)]
    show forS f n (k + 1) (v (k + 1)) = _
    rw [forS_at v n (k + 1) (fun j h1 h2 => h j (by omega) (by omega))]
    rw [show k + 1 + n = k + (n + 1) by omega]
/-- a loop whose states are known -/
theorem forS_is {σ : Type} {f : Nat → σ → Option σ} {n : Nat} (v : Nat → σ) (h : ∀ j, j < n → f j (v j) = some (v (j + 1))) : forS f n 0 (v 0) = some (v n) := by
  have := forS_at v n 0 (fun j _ h2 => h j (by omega))
  simpa using this
theorem forO_at {σ τ : Type} {f : Nat → σ → Option (σ ⊕ τ)} (v : Nat → σ) : ∀ (n k : Nat), (∀ j, k ≤ j → j < k + n → f j (v j) = some (.inl (v (j + 1)))) → forO f n k (v k) = some (.inl (v (k + n)))
  | 0, k, _ => rfl
  | n + 1, k, h => by
    show (f k (v k)).bind _ = _
    rw [h k (Nat.le_refl _) (by omega)]
    show forO f n (k + 1) (v (k + 1)) = _
    rw [forO_at v n (k + 1) (fun j h1 h2 => h j (by omega) (by omega))]
    rw [show k + 1 + n = k + (n + 1) by omega]
theorem forO_is {σ τ : Type} {f : Nat → σ → Option (σ ⊕ τ)} {n : Nat} (v : Nat → σ) (h : ∀ j, j < n → f j (v j) = some (.inl (v (j + 1)))) : forO f n 0 (v 0) = some (.inl (v n)) := by
  have := forO_at v n 0 (fun j _ h2 => h j (by omega))
  simpa using this
theorem forO_app {σ τ : Type} {f : Nat → σ → Option (σ ⊕ τ)} (v : Nat → σ) {t : τ} : ∀ (m k n : Nat), m < n → (∀ j, k ≤ j → j < k + m → f j (v j) = some (.inl (v (j + 1)))) → f (k + m) (v (k + m)) = some (.inr t) → forO f n k (v k) = some (.inr t)
  | _, _, 0, hm, _, _ => by omega
  | 0, k, n + 1, _, _, he => by
    show (f k (v k)).bind _ = _
    have he' : f k (v k) = some (.inr t) := he
    rw [he']; rfl
  | m + 1, k, n + 1, hm, h, he => by
    show (f k (v k)).bind _ = _
    rw [h k (Nat.le_refl _) (by omega)]
    show forO f n (k + 1) (v (k + 1)) = _
    refine forO_app v m (k + 1) n (by omega) (fun j h1 h2 => h j (by omega) (by omega)) ?_
    rw [show k + 1 + m = k + (m + 1) by omega]; exact he
/-- a loop that ends in round m -/
theorem forO_stop {σ τ : Type} {f : Nat → σ → Option (σ ⊕ τ)} {n : Nat} (v : Nat → σ) {t : τ} (m : Nat) (hm : m < n) (h : ∀ j, j < m → f j (v j) = some (.inl (v (j + 1)))) (he : f m (v m) = some (.inr t)) : forO f n 0 (v 0) = some (.inr t) :=
  forO_app v m 0 n hm (fun j _ h2 => h j (by omega)) (by simpa using he)
/-- a loop that tests all of a list -/
theorem forO_all {α τ : Type} {f : Nat → Unit → Option (Unit ⊕ τ)} {t : τ} (P : α → Bool) : ∀ (l : List α) (k : Nat), (∀ j a, l[j]? = some a → f (k + j) () = some (if P a then .inl () else .inr t)) → forO f l.length k () = some (if l.all P then .inl () else .inr t)
  | [], k, _ => rfl
  | a :: l, k, h => by
    show (f k ()).bind _ = _
    have h0 : f k () = _ := h 0 a rfl
    rw [h0]
    cases hP : P a with
    | false => simp [hP]
    | true =>
      have := forO_all P l (k + 1) (fun j b hb => by
        have := h (j + 1) b (by simpa using hb)
        rw [show k + 1 + j = k + (j + 1) by omega]; exact this)
      simp only [hP, List.all_cons, Bool.true_and, if_true]
      exact this
theorem whileO_at {σ τ : Type} {f : σ → Option (σ ⊕ τ)} (v : Nat → σ) {t : τ} : ∀ (n k : Nat), (∀ j, k ≤ j → j < k + n → f (v j) = some (.inl (v (j + 1)))) → f (v (k + n)) = some (.inr t) → whileO f (v k) = some t
  | 0, k, _, he => whileO_end he
  | n + 1, k, h, he => by
    rw [whileO_step (h k (Nat.le_refl _) (by omega))]
    refine whileO_at v n (k + 1) (fun j h1 h2 => h j (by omega) (by omega)) ?_
    rw [show k + 1 + n = k + (n + 1) by omega]; exact he
theorem whileO_is {σ τ : Type} {f : σ → Option (σ ⊕ τ)} (v : Nat → σ) {t : τ} (n : Nat) (h : ∀ j, j < n → f (v j) = some (.inl (v (j + 1)))) (he : f (v n) = some (.inr t)) : whileO f (v 0) = some t :=
  whileO_at v n 0 (fun j _ h2 => h j (by omega)) (by simpa using he)

/-- the map of a list: the loop that appends what it makes of each element -/
theorem forS_map {α β : Type} {f : Nat → List β → Option (List β)} (g : α → β) (l : List α) (s : List β) (hb : s.length + l.length ≤ maxN) (h : ∀ j a s', l[j]? = some a → s'.length = s.length + j → f j s' = some (s' ++ [g a])) : forS f l.length 0 s = some (s ++ l.map g) := by
  have := forS_is (f := f) (n := l.length) (fun j => s ++ (l.take j).map g) (fun j hj => by
    rw [h j l[j] _ (List.getElem?_eq_getElem hj) (by simp; omega)]
    simp only [List.append_assoc]
    rw [List.take_add_one, List.getElem?_eq_getElem hj]
    simp only [List.map_append, Option.toList_some, List.map_cons, List.map_nil])
  simpa using this
end Go.Proofs.YtmchibapkddniaaGreat
namespace Go.Proofs.YtmchibapkddniaaGreat

def tot {α : Type} (n : α → Nat) (l : List α) : Nat := (l.map n).sum
theorem tot_nil {α : Type} (n : α → Nat) : tot n [] = 0 := rfl
theorem tot_cons {α : Type} (n : α → Nat) (a : α) (l : List α) : tot n (a :: l) = n a + tot n l := by simp [tot]
theorem get_app {α : Type} (pre rest : List α) (a : α) : (pre ++ a :: rest)[pre.length]? = some a := by simp
theorem set_app {α : Type} (pre rest : List α) (a b : α) : (pre ++ a :: rest).set pre.length b = pre ++ b :: rest := by simp
theorem app1 {α : Type} (pre rest : List α) (a : α) : pre ++ a :: rest = (pre ++ [a]) ++ rest := by simp
theorem len1 {α : Type} (pre : List α) (a : α) : (((pre ++ [a]).length : Nat) : Int) = (pre.length : Int) + 1 := by simp

def bigN : Int := 4611686018427387904

theorem sz_loop {α : Type} (n : α → Nat) {f : Int × Int → Option ((Int × Int) ⊕ (Int ⊕ Int))} (L : List α) (B : Int)
    (hf : ∀ (j : Nat) (a : α) (s : Int), L[j]? = some a → j < L.length → 0 ≤ s → s ≤ B → f (s, (j : Int)) = some (if (n a : Int) ≤ s then .inl (s - n a, (j : Int) + 1) else .inr (.inr (-1))))
    (he : ∀ s : Int, f (s, (L.length : Int)) = some (.inr (.inl s))) : ∀ (rest pre : List α) (s : Int), L = pre ++ rest → 0 ≤ s → s ≤ B → whileO f (s, (pre.length : Int)) = some (if (tot n rest : Int) ≤ s then .inl (s - tot n rest) else .inr (-1))
  | [], pre, s, hL, h0, _ => by
    have := he s
    rw [hL, List.append_nil] at this
    rw [whileO_end this, tot_nil, if_pos (by omega)]; simp
  | a :: rest, pre, s, hL, h0, hB => by
    have h1 := hf pre.length a s (by rw [hL]; exact get_app _ _ _) (by rw [hL]; simp) h0 hB
    by_cases h : (n a : Int) ≤ s
    · rw [if_pos h] at h1
      have ih := sz_loop n L B hf he rest (pre ++ [a]) (s - n a) (by rw [hL, app1]) (by omega) (by omega)
      rw [len1] at ih
      rw [whileO_step h1, ih, tot_cons]
      by_cases h2 : (tot n rest : Int) ≤ s - n a
      · rw [if_pos h2, if_pos (by omega)]; congr 2; omega
      · rw [if_neg h2, if_neg (by omega)]
    · rw [if_neg h] at h1
      rw [whileO_end h1, tot_cons, if_neg (by omega)]

theorem to_loop {α : Type} (z : α) {f : List α × Int → Option ((List α × Int) ⊕ List α)} (L : List α)
    (hf : ∀ (j : Nat) (a : α) (s : List α), L[j]? = some a → j < L.length → s.length = L.length → f (s, (j : Int)) = some (.inl (s.set j a, (j : Int) + 1)))
    (he : ∀ s : List α, s.length = L.length → f (s, (L.length : Int)) = some (.inr s)) : ∀ (rest pre : List α), L = pre ++ rest → whileO f (pre ++ List.replicate rest.length z, (pre.length : Int)) = some L
  | [], pre, hL => by
    rw [List.append_nil] at hL
    have := he pre (by rw [hL])
    rw [hL] at this
    have h2 : pre ++ List.replicate ([] : List α).length z = pre := by simp
    rw [h2, hL, whileO_end this]
  | a :: rest, pre, hL => by
    have h1 := hf pre.length a (pre ++ z :: List.replicate rest.length z) (by rw [hL]; exact get_app _ _ _) (by rw [hL]; simp) (by rw [hL]; simp)
    have ih := to_loop z L hf he rest (pre ++ [a]) (by rw [hL, app1])
    rw [set_app, app1 pre _ a, ← len1 pre a] at h1
    rw [List.length_cons, List.replicate_succ]
    rw [whileO_step h1, ih]

def mkL {α : Type} (mk : α → Int → α × Int) : List α → Int → List α × Int
  | [], k => ([], k)
  | a :: l, k => ((mk a k).1 :: (mkL mk l (mk a k).2).1, (mkL mk l (mk a k).2).2)
theorem mkL_len {α : Type} (mk : α → Int → α × Int) : ∀ (l : List α) (k : Int), (mkL mk l k).1.length = l.length
  | [], _ => rfl
  | a :: l, k => by show (mkL mk l _).1.length + 1 = l.length + 1; rw [mkL_len mk l]
theorem mkL_snd {α : Type} (mk : α → Int → α × Int) (n : α → Nat) (hmk : ∀ a k, (mk a k).2 = k + n a) : ∀ (l : List α) (k : Int), (mkL mk l k).2 = k + tot n l
  | [], k => by simp [mkL, tot]
  | a :: l, k => by
    show (mkL mk l (mk a k).2).2 = _
    rw [mkL_snd mk n hmk l, hmk, tot_cons]; omega

end Go.Proofs.YtmchibapkddniaaGreat
namespace Go.Proofs.YtmchibapkddniaaGreat

theorem tot_mem {α : Type} {n : α → Nat} {l : List α} {a : α} (h : a ∈ l) : n a ≤ tot n l := by
  induction l with
  | nil => cases h
  | cons b l ih =>
    rw [tot_cons]
    cases h with
    | head => omega
    | tail _ h => have := ih h; omega
theorem mem_of_get {α : Type} {l : List α} {j : Nat} {a : α} (h : l[j]? = some a) : a ∈ l := List.mem_of_getElem? h

/-- the length of a list is a number of Go -/
def lenOk {α : Type} (l : List α) : Prop := (l.length : Int) ≤ 9223372036854775807

end Go.Proofs.YtmchibapkddniaaGreat
namespace Go.Proofs.YtmchibapkddniaaGreat

end Go.Proofs.YtmchibapkddniaaGreat
namespace Go.Proofs.YtmchibapkddniaaGreat

def rng (n lo hi : Int) : Bool := decide (lo ≤ n) && decide (n ≤ hi)
theorem rng_true {n lo hi : Int} : rng n lo hi = true ↔ lo ≤ n ∧ n ≤ hi := by unfold rng; simp
theorem l1In (n lo hi : Int) : F_spec_l1In n lo hi = some (rng n lo hi) := by
  unfold F_spec_l1In rng
  by_cases h : lo ≤ n
  · rw [dT h]; rfl
  · rw [dF h]; rfl
theorem within_ (n lo hi : Int) : F_impl_within n lo hi = some (rng n lo hi) := by
  unfold F_impl_within rng
  by_cases h : lo ≤ n
  · rw [dT h]; rfl
  · rw [dF h]; rfl

theorem l1All (l : List Int) (lo hi : Int) : F_spec_l1All l lo hi = some (l.all fun x => rng x lo hi) := by
  refine sqW (forO_all (fun x => rng x lo hi) l 0 ?_ (t := false)) ?_
  · intro j x hj
    rw [Nat.zero_add]
    refine bnd (idxO_of hj) (bnd (l1In x lo hi) (stp ?_))
    cases rng x lo hi <;> rfl
  · cases (l.all fun x => rng x lo hi) <;> rfl
end Go.Proofs.YtmchibapkddniaaGreat
namespace Go.Proofs.YtmchibapkddniaaGreat

theorem zeros_ {n : Nat} (h : n ≤ maxN) : F_impl_zeros (n : Int) = some (List.replicate n 0) := bnd (makeO_of _ h) rfl

theorem own_ {l : List Int} (h : l.length ≤ maxN) : F_spec_l1Own l = some l := bnd (appO_of (by simpa using h)) rfl
theorem clone_ {l : List Int} (h : l.length ≤ maxN) : F_impl_clone l = some l := bnd (appO_of (by simpa using h)) rfl
end Go.Proofs.YtmchibapkddniaaGreat
namespace Go.Proofs.YtmchibapkddniaaGreat
theorem index_ {l : List Int} {v : Int} : F_slices_Index_int_int l v = some (match l.findIdx? (fun a => decide (v = a)) with | some k => (k : Int) | none => -1) := by
  have key : ∀ (l : List Int) (k : Nat) {f : Nat → Unit → Option (Unit ⊕ Int)}, (∀ j a, l[j]? = some a → f (k + j) () = some (if v = a then .inr ((k + j : Nat) : Int) else .inl ())) →
      forO f l.length k () = some (match l.findIdx? (fun a => decide (v = a)) with | some q => .inr ((k + q : Nat) : Int) | none => .inl ()) := by
    intro l
    induction l with
    | nil => intro k f _; rfl
    | cons a l ih =>
      intro k f h
      show (f k ()).bind _ = _
      have h0 := h 0 a rfl
      rw [Nat.add_zero] at h0
      rw [h0, List.findIdx?_cons]
      by_cases hv : v = a
      · rw [if_pos hv, dT hv]; rfl
      · rw [if_neg hv, dF hv]
        have := ih (k + 1) (f := f) (fun j b hb => by
          have := h (j + 1) b (by simpa using hb)
          rw [show k + 1 + j = k + (j + 1) by omega]; exact this)
        show forO f l.length (k + 1) () = _
        rw [this]
        cases l.findIdx? (fun a => decide (v = a)) with
        | none => rfl
        | some q => simp only [Bool.false_eq_true, if_false, Option.map_some]; rw [show k + 1 + q = k + (q + 1) by omega]
  refine sqW (key l 0 ?_) ?_
  · intro j a hj
    rw [Nat.zero_add]
    refine bnd (idxO_of hj) (stp ?_)
    by_cases hv : v = a
    · rw [if_pos hv]; exact cTW (dT hv) rfl
    · rw [if_neg hv]; exact cFW (dF hv) rfl
  · cases l.findIdx? (fun a => decide (v = a)) with
    | none => rfl
    | some q => show some (((0 + q : Nat)) : Int) = some (q : Int); rw [Nat.zero_add]
theorem findIdx_mem {l : List Int} {v : Int} : (l.findIdx? (fun a => decide (v = a))).isSome = decide (v ∈ l) := by
  induction l with
  | nil => simp
  | cons a l ih =>
    rw [List.findIdx?_cons]
    by_cases h : v = a
    · simp [h]
    · simp only [dF h, Bool.false_eq_true, if_false, Option.isSome_map, ih]
      rw [decide_eq_decide]; simp [h]
theorem contains_ (l : List Int) (v : Int) : F_slices_Contains_int_int l v = some (decide (v ∈ l)) := by
  refine bnd index_ ?_
  rw [← findIdx_mem]
  cases l.findIdx? (fun a => decide (v = a)) with
  | none => rfl
  | some k =>
    show ((some (decide ((0 : Int) ≤ (k : Int)))).bind fun a5 => some a5) = some true
    rw [dT (by omega)]; rfl
theorem l1Has_ (l : List Int) (v : Int) : F_spec_l1Has l v = some (decide (v ∈ l)) := by
  refine sqW (forO_all (fun a => !decide (a = v)) l 0 ?_ (t := true)) ?_
  · intro j a hj
    rw [Nat.zero_add]
    refine bnd (idxO_of hj) (stp ?_)
    by_cases h : a = v
    · rw [dT h]; rfl
    · rw [dF h]; rfl
  · have : (l.all fun a => !decide (a = v)) = !decide (v ∈ l) := by
      rw [Bool.eq_iff_iff, List.all_eq_true]
      constructor
      · intro h
        simp only [Bool.not_eq_true', decide_eq_false_iff_not]
        intro hv
        have := h v hv
        simp at this
      · intro h a ha
        simp only [Bool.not_eq_true', decide_eq_false_iff_not] at h ⊢
        rintro rfl; exact h ha
    rw [this]
    cases decide (v ∈ l) <;> rfl
theorem forO_eq {α τ : Type} [DecidableEq α] {f : Nat → Unit → Option (Unit ⊕ τ)} {t : τ} : ∀ (l m : List α) (k : Nat), l.length = m.length → (∀ j a b, l[j]? = some a → m[j]? = some b → f (k + j) () = some (if a = b then .inl () else .inr t)) → forO f l.length k () = some (if l = m then .inl () else .inr t)
  | [], [], k, _, _ => rfl
  | [], _ :: _, _, h, _ => by simp at h
  | _ :: _, [], _, h, _ => by simp at h
  | a :: l, b :: m, k, hl, h => by
    show (f k ()).bind _ = _
    have h0 : f k () = _ := h 0 a b rfl rfl
    rw [h0]
    by_cases hab : a = b
    · rw [if_pos hab]
      have := forO_eq l m (k + 1) (by simpa using hl) (fun j x y hx hy => by
        have := h (j + 1) x y (by simpa using hx) (by simpa using hy)
        rw [show k + 1 + j = k + (j + 1) by omega]; exact this)
      show forO f l.length (k + 1) () = _
      rw [this]
      by_cases h2 : l = m
      · rw [if_pos h2, if_pos (by rw [hab, h2])]
      · rw [if_neg h2, if_neg (by intro h3; exact h2 (List.cons.inj h3).2)]
    · rw [if_neg hab, if_neg (by intro h3; exact hab (List.cons.inj h3).1)]; rfl
theorem l1Same_ (a b : List Int) : F_spec_l1Same a b = some (decide (a = b)) := by
  refine stp ?_
  by_cases h : a.length = b.length
  · refine cFW (nT (dT (by omega))) (sqW (forO_eq a b 0 h ?_ (t := false)) ?_)
    · intro j x y hx hy
      rw [Nat.zero_add]
      refine bnd (idxO_of hx) (bnd (idxO_of hy) (stp ?_))
      by_cases h2 : x = y
      · rw [if_pos h2]; exact cFW (nT (dT h2)) rfl
      · rw [if_neg h2]; exact cTW (nF (dF h2)) rfl
    · by_cases h2 : a = b
      · rw [if_pos h2, dT h2]; rfl
      · rw [if_neg h2, dF h2]; rfl
  · rw [show decide (a = b) = false from dF (fun h2 => h (by rw [h2]))]; exact cTW (nF (dF (by omega))) rfl
end Go.Proofs.YtmchibapkddniaaGreat
namespace Go.Proofs.YtmchibapkddniaaGreat

abbrev Edg := Int × Int × List Int × List Int
abbrev Gra := Int × List Edg × List Int × List Int

/-! ### tables -/
def tabl {α : Type} (n : Nat) (f : Nat → α) : List α := (List.range n).map f
theorem tabl_len {α : Type} (n : Nat) (f : Nat → α) : (tabl n f).length = n := by simp [tabl]
theorem tabl_get {α : Type} {n k : Nat} (f : Nat → α) (h : k < n) : (tabl n f)[k]? = some (f k) := by
  unfold tabl; rw [List.getElem?_map, List.getElem?_range h]; rfl
theorem tabl_idx {α : Type} {n k : Nat} (f : Nat → α) (h : k < n) : idxO (tabl n f) (k : Int) = some (f k) := idxO_of (tabl_get f h)
theorem tabl_ext {α : Type} {n : Nat} {f g : Nat → α} (h : ∀ k, k < n → f k = g k) : tabl n f = tabl n g := by
  unfold tabl; exact List.map_congr_left fun k hk => h k (List.mem_range.1 hk)
theorem tabl_set {α : Type} {n m : Nat} (f : Nat → α) (v : α) : (tabl n f).set m v = tabl n (fun k => if k = m then v else f k) := by
  apply List.ext_getElem?
  intro j
  rw [List.getElem?_set]
  by_cases hj : j < n
  · rw [tabl_get _ hj, tabl_get _ hj]
    by_cases hm : m = j
    · rw [if_pos hm, if_pos hm.symm, if_pos (by rw [tabl_len]; omega)]
    · rw [if_neg hm, if_neg (fun h => hm h.symm)]
  · rw [List.getElem?_eq_none (by rw [tabl_len]; omega), List.getElem?_eq_none (by rw [tabl_len]; omega)]
    split <;> simp [tabl_len] <;> omega
theorem tabl_setO {α : Type} {n m : Nat} (f : Nat → α) (v : α) (h : m < n) : setO (tabl n f) (m : Int) v = some (tabl n (fun k => if k = m then v else f k)) := by
  rw [setO_of _ (by rw [tabl_len]; exact h), tabl_set]
theorem tabl_rep {α : Type} (n : Nat) (z : α) : List.replicate n z = tabl n (fun _ => z) := by
  apply List.ext_getElem?
  intro j
  by_cases hj : j < n
  · rw [tabl_get _ hj, List.getElem?_replicate, if_pos hj]
  · rw [List.getElem?_replicate, if_neg hj, List.getElem?_eq_none (by rw [tabl_len]; omega)]
theorem tabl_make {α : Type} {n : Nat} (z : α) (h : n ≤ maxN) : makeO (n : Int) z = some (tabl n fun _ => z) := by rw [makeO_of z h, tabl_rep]

/-! ### edges -/
def genB (k v : Int) : Bool := rng k 3 14 && (if k = 7 ∨ k = 13 then rng v 0 96 else decide (v = 0))
def kd (k : Int) : Int × Int := if k = 2 then (2, 2) else if k = 3 ∨ k = 11 then (1, 2) else if k = 4 ∨ k = 12 then (1, 0) else if k = 5 ∨ k = 9 then (2, 1) else if k = 6 ∨ k = 10 then (0, 1) else (1, 1)
def arB (e : Edg) : Bool := genB e.1 e.2.1 && (decide ((e.2.2.1.length : Int) = (kd e.1).1) && decide ((e.2.2.2.length : Int) = (kd e.1).2))
def wOk (n : Int) (l : List Int) : Bool := l.all fun x => rng x 0 (n - 1)

theorem tmKind_ (k : Int) : F_spec_tmKind k = some (kd k) := by
  unfold F_spec_tmKind kd
  by_cases h2 : k = 2
  · simp [h2]
  by_cases h3 : k = 3 ∨ k = 11
  · rcases h3 with h3 | h3 <;> simp [h3]
  by_cases h4 : k = 4 ∨ k = 12
  · rcases h4 with h3 | h3 <;> simp [h3]
  by_cases h5 : k = 5 ∨ k = 9
  · rcases h5 with h3 | h3 <;> simp [h3]
  by_cases h6 : k = 6 ∨ k = 10
  · rcases h6 with h3 | h3 <;> simp [h3]
  rw [if_neg h2, if_neg h3, if_neg h4, if_neg h5, if_neg h6]
  simp only [not_or] at *
  simp [*]
theorem tmLeaf_gen {k v : Int} (hk : rng k 3 14 = true) : F_spec_tmLeaf (k, v, .empty) = some (genB k v) := by
  have hr := rng_true.1 hk
  unfold F_spec_tmLeaf genB
  have h1 : rng k 1 14 = true := rng_true.2 (by omega)
  by_cases h7 : k = 7
  · subst h7; simp [l1In, h1, hk]
  by_cases h13 : k = 13
  · subst h13; simp [l1In, h1, hk]
  have h0 : ¬ k = 1 := by omega
  simp [l1In, h1, hk, h7, h13, h0]
theorem hgEdge_ (e : Edg) {n : Int} (h0 : 0 ≤ n) (h1 : n ≤ 100) : F_spec_hgEdge e n = some (arB e && (wOk n e.2.2.1 && wOk n e.2.2.2)) := by
  obtain ⟨k, v, a, b⟩ := e
  unfold F_spec_hgEdge arB
  have hs : subO n 1 = some (n - 1) := subO_of (by omega) (by omega)
  cases hk : rng k 3 14 with
  | false =>
    have : genB k v = false := by unfold genB; rw [hk]; rfl
    simp [l1In, hk, this]
  | true =>
    cases hg : genB k v with
    | false => simp [l1In, hk, tmLeaf_gen hk, hg]
    | true =>
      by_cases ha : (a.length : Int) = (kd k).1
      · by_cases hb : (b.length : Int) = (kd k).2
        · cases hw : wOk n a with
          | false => unfold wOk at hw; simp [l1In, hk, tmLeaf_gen hk, hg, tmKind_, ha, hb, hs, l1All, hw]
          | true => unfold wOk at hw; simp [l1In, hk, tmLeaf_gen hk, hg, tmKind_, ha, hb, hs, l1All, hw, wOk]
        · simp [l1In, hk, tmLeaf_gen hk, hg, tmKind_, ha, hb]
      · simp [l1In, hk, tmLeaf_gen hk, hg, tmKind_, ha]
theorem isGeneratorValue_ {k v : Int} (hk : rng k 3 14 = true) : F_impl_isGeneratorValue k v = some (genB k v) := by
  unfold F_impl_isGeneratorValue F_impl_hasValue genB
  by_cases h7 : k = 7
  · subst h7; simp [within_, hk]
  by_cases h13 : k = 13
  · subst h13; simp [within_, hk]
  simp [hk, h7, h13]
theorem generatorWires_ {k : Int} (hk : rng k 3 14 = true) : F_impl_generatorWires k = some (kd k) := by
  have hr := rng_true.1 hk
  have : k = 3 ∨ k = 4 ∨ k = 5 ∨ k = 6 ∨ k = 7 ∨ k = 8 ∨ k = 9 ∨ k = 10 ∨ k = 11 ∨ k = 12 ∨ k = 13 ∨ k = 14 := by omega
  rcases this with rfl | rfl | rfl | rfl | rfl | rfl | rfl | rfl | rfl | rfl | rfl | rfl <;> rfl
theorem isEdge_ (e : Edg) : F_impl_Edge_isEdge e = some (arB e) := by
  obtain ⟨k, v, a, b⟩ := e
  unfold F_impl_Edge_isEdge arB F_impl_isGenerator
  cases hk : rng k 3 14 with
  | false =>
    have : genB k v = false := by unfold genB; rw [hk]; rfl
    simp [within_, hk, this]
  | true =>
    cases hg : genB k v with
    | false => simp [within_, hk, isGeneratorValue_ hk, hg]
    | true =>
      simp only [within_, hk, isGeneratorValue_ hk, hg, generatorWires_ hk, Option.bind_some, Bool.not_true, cond_false, Bool.true_and]
      congr 1
      rw [← Bool.decide_and]
      refine decide_eq_decide.2 ?_
      simp only [List.cons.injEq, and_true]
      exact ⟨fun ⟨x, y⟩ => ⟨x.symm, y.symm⟩, fun ⟨x, y⟩ => ⟨x.symm, y.symm⟩⟩

/-! ### how often a wire occurs -/
def edI (e : Edg) : List Int := e.2.2.1
def edO (e : Edg) : List Int := e.2.2.2
/-- the wires of a list counted -/
theorem cnt_loop {n : Nat} (l : List Int) (f : Nat → Int) (hl : ∀ x ∈ l, 0 ≤ x ∧ x < (n : Int)) (B : Int) (hf : ∀ k, k < n → 0 ≤ f k ∧ f k + l.length ≤ B) (hB : B ≤ 4611686018427387904) {g : Nat → List Int → Option (List Int)}
    (hg : ∀ k s, g k s = ((idxO l (k : Int)).bind fun a => (idxO s a).bind fun b => (addO b 1).bind fun c => (setO s a c).bind fun t => some t)) :
    forS g l.length 0 (tabl n f) = some (tabl n fun k => f k + (l.count (k : Int) : Nat)) := by
  have := forS_is (f := g) (n := l.length) (fun j => tabl n fun k => f k + ((l.take j).count (k : Int) : Nat)) (fun j hj => by
    rw [hg]
    have hm := hl l[j] (List.getElem_mem hj)
    obtain ⟨m, hme⟩ : ∃ m : Nat, l[j] = (m : Int) := ⟨l[j].toNat, by omega⟩
    have hmn : m < n := by omega
    refine bnd (idxO_of (List.getElem?_eq_getElem hj)) ?_
    rw [hme]
    have hb := hf m hmn
    have hc : ((l.take j).count (m : Int)) ≤ j := Nat.le_trans List.count_le_length (by simp; omega)
    refine bnd (tabl_idx _ hmn) (bnd (addO_of (by omega) (by omega)) (bnd (tabl_setO _ _ hmn) (congrArg some (tabl_ext fun k hk => ?_))))
    rw [List.take_add_one, List.getElem?_eq_getElem hj, List.count_append, hme]
    by_cases h : k = m
    · subst h; simp; omega
    · rw [if_neg h]
      have : ¬ (m : Int) = (k : Int) := by omega
      simp [this])
  have e0 : (fun k => f k + (((l.take 0).count ((k : Nat) : Int) : Nat) : Int)) = f := by funext k; simp
  rw [List.take_length] at this
  rw [← this]
  congr 2
  exact e0.symm
def cntE (E : List Edg) (s : Edg → List Int) (k : Nat) : Nat := ((E.map s).flatten).count (k : Int)
def totE (E : List Edg) (s : Edg → List Int) : Nat := ((E.map s).flatten).length
theorem inW_rng {n : Nat} {l : List Int} (h : wOk n l = true) : ∀ x ∈ l, 0 ≤ x ∧ x < (n : Int) := by
  intro x hx
  have := rng_true.1 (List.all_eq_true.1 h x hx)
  omega
/-- the wires of a graph, in the order of its lists -/
def allW (g : Gra) : List Int := g.2.2.1 ++ g.2.2.2 ++ (g.2.1.map fun e => edI e ++ edO e).flatten
def edW (n : Int) (e : Edg) : Bool := arB e && (wOk n (edI e) && wOk n (edO e))
def gOk (g : Gra) : Bool := rng g.1 0 100 && (decide (g.2.1.length ≤ 60) && (decide (g.2.2.1.length ≤ 12) && (decide (g.2.2.2.length ≤ 12) && (wOk g.1 g.2.2.1 && (wOk g.1 g.2.2.2 && (g.2.1.all (edW g.1) && (List.range g.1.toNat).all fun k : Nat => decide ((k : Int) ∈ allW g)))))))
theorem kd_le (k : Int) : 0 ≤ (kd k).1 ∧ (kd k).1 ≤ 2 ∧ 0 ≤ (kd k).2 ∧ (kd k).2 ≤ 2 := by
  unfold kd
  split <;> first | (refine ⟨?_, ?_, ?_, ?_⟩ <;> decide) | skip
  split <;> first | (refine ⟨?_, ?_, ?_, ?_⟩ <;> decide) | skip
  split <;> first | (refine ⟨?_, ?_, ?_, ?_⟩ <;> decide) | skip
  split <;> first | (refine ⟨?_, ?_, ?_, ?_⟩ <;> decide) | skip
  split <;> (refine ⟨?_, ?_, ?_, ?_⟩ <;> decide)
theorem arB_len {e : Edg} (h : arB e = true) : (edI e).length ≤ 2 ∧ (edO e).length ≤ 2 := by
  unfold arB at h
  simp only [Bool.and_eq_true, decide_eq_true_eq] at h
  have := kd_le e.1
  unfold edI edO
  omega
/-- the counts of a graph whose wires are in range -/
theorem hgCounts_ {n : Nat} {E : List Edg} {I O : List Int} (hn : n ≤ 1048576) (hI : ∀ x ∈ I, 0 ≤ x ∧ x < (n : Int)) (hO : ∀ x ∈ O, 0 ≤ x ∧ x < (n : Int)) (hE : ∀ e ∈ E, (∀ x ∈ edI e, 0 ≤ x ∧ x < (n : Int)) ∧ (∀ x ∈ edO e, 0 ≤ x ∧ x < (n : Int)))
    (hB : I.length + O.length + totE E edI + totE E edO ≤ 1099511627776) :
    F_spec_hgCounts ((n : Int), E, I, O) = some (tabl n (fun k => ((I.count (k : Int) + cntE E edO k : Nat) : Int)), tabl n (fun k => ((O.count (k : Int) + cntE E edI k : Nat) : Int))) := by
  have hm : maxN = 1099511627776 := rfl
  refine bnd (tabl_make _ (by omega)) (bnd (tabl_make _ (by omega)) ?_)
  have hc : ∀ (l : List Int) (k : Nat), l.count (k : Int) ≤ l.length := fun l k => List.count_le_length
  refine bnd (cnt_loop I (fun _ => 0) hI 1099511627776 (fun k _ => by omega) (by omega) (fun _ _ => rfl)) ?_
  refine bnd (cnt_loop O (fun _ => 0) hO 1099511627776 (fun k _ => by omega) (by omega) (fun _ _ => rfl)) ?_
  have key := forS_is (n := E.length) (fun j => (tabl n (fun k => ((I.count (k : Int) + cntE (E.take j) edO k : Nat) : Int)), tabl n (fun k => ((O.count (k : Int) + cntE (E.take j) edI k : Nat) : Int)))) (f := fun (k215 : Nat) (s652 : List Int × List Int) =>
      (idxO E ((k215 : Nat) : Int)).bind fun a667 =>
      (forS (fun (k679 : Nat) (s738 : List Int) =>
          (idxO a667.2.2.2 ((k679 : Nat) : Int)).bind fun a753 =>
          (idxO s738 a753).bind fun a761 =>
          (addO a761 1).bind fun a763 =>
          (setO s738 a753 a763).bind fun a771 =>
          some a771) a667.2.2.2.length 0 s652.1).bind fun (s776 : List Int) =>
      (forS (fun (k778 : Nat) (s837 : List Int) =>
          (idxO a667.2.2.1 ((k778 : Nat) : Int)).bind fun a852 =>
          (idxO s837 a852).bind fun a860 =>
          (addO a860 1).bind fun a862 =>
          (setO s837 a852 a862).bind fun a870 =>
          some a870) a667.2.2.1.length 0 s652.2).bind fun (s875 : List Int) =>
      some (s776, s875)) (fun j hj => by
    have he := hE _ (List.getElem_mem hj)
    have hsum : ∀ s : Edg → List Int, totE (E.take (j + 1)) s = totE (E.take j) s + (s E[j]).length := fun s => by
      unfold totE; rw [List.take_add_one, List.getElem?_eq_getElem hj, List.map_append, List.flatten_append, List.length_append]; simp only [Option.toList_some, List.map_cons, List.map_nil, List.flatten_cons, List.flatten_nil, List.append_nil]
    have hle : ∀ s : Edg → List Int, totE (E.take (j + 1)) s ≤ totE E s := fun s => by
      unfold totE
      have : E = E.take (j + 1) ++ E.drop (j + 1) := (List.take_append_drop _ _).symm
      conv => rhs; rw [this]
      rw [List.map_append, List.flatten_append, List.length_append]; omega
    have hct : ∀ (s : Edg → List Int) (k : Nat), cntE (E.take j) s k ≤ totE (E.take j) s := fun s k => List.count_le_length
    have hcs : ∀ (s : Edg → List Int) (k : Nat), cntE (E.take (j + 1)) s k = cntE (E.take j) s k + (s E[j]).count (k : Int) := fun s k => by
      unfold cntE; rw [List.take_add_one, List.getElem?_eq_getElem hj, List.map_append, List.flatten_append, List.count_append]; simp only [Option.toList_some, List.map_cons, List.map_nil, List.flatten_cons, List.flatten_nil, List.append_nil]
    have h1 := hsum edI; have h2 := hsum edO; have h3 := hle edI; have h4 := hle edO
    refine bnd (idxO_of (List.getElem?_eq_getElem hj)) ?_
    refine bnd (cnt_loop (edO E[j]) _ he.2 1099511627776 (fun k _ => by have := hct edO k; have := hc I k; omega) (by omega) (fun _ _ => rfl)) ?_
    refine bnd (cnt_loop (edI E[j]) _ he.1 1099511627776 (fun k _ => by have := hct edI k; have := hc O k; omega) (by omega) (fun _ _ => rfl)) ?_
    refine congrArg some (Prod.ext (tabl_ext fun k hk => ?_) (tabl_ext fun k hk => ?_))
    · rw [hcs]; push_cast; omega
    · rw [hcs]; push_cast; omega)
  have e1 : ∀ (l : List Int) (s : Edg → List Int), tabl n (fun k => (0 : Int) + (l.count (k : Int) : Nat)) = tabl n (fun k => ((l.count (k : Int) + cntE (E.take 0) s k : Nat) : Int)) := fun l s => tabl_ext fun k hk => by
    unfold cntE; simp
  rw [e1 I edO, e1 O edI]
  refine bnd key ?_
  rw [List.take_length]

/-! ### valid graphs -/
theorem all_app (n : Int) (a b : List Int) : wOk n (a ++ b) = (wOk n a && wOk n b) := by unfold wOk; rw [List.all_append]
theorem edW_arB {n : Int} {E : List Edg} (h : E.all (edW n) = true) : E.all arB = true := by
  rw [List.all_eq_true] at h ⊢
  intro e he
  have := h e he
  unfold edW at this
  simp only [Bool.and_eq_true] at this
  exact this.1
theorem totE_le {E : List Edg} (h : E.all arB = true) : totE E edI ≤ 2 * E.length ∧ totE E edO ≤ 2 * E.length := by
  induction E with
  | nil => exact ⟨Nat.le_refl _, Nat.le_refl _⟩
  | cons e E ih =>
    simp only [List.all_cons, Bool.and_eq_true] at h
    have h1 := arB_len h.1
    have h2 := ih h.2
    unfold totE at h2 ⊢
    simp only [List.map_cons, List.flatten_cons, List.length_append, List.length_cons]
    omega
theorem mem_cnt {E : List Edg} {s : Edg → List Int} {k : Nat} : cntE E s k = 0 ↔ ¬ ∃ e ∈ E, (k : Int) ∈ s e := by
  unfold cntE
  rw [List.count_eq_zero, List.mem_flatten]
  constructor
  · rintro h ⟨e, he, hk⟩; exact h ⟨s e, List.mem_map.2 ⟨e, he, rfl⟩, hk⟩
  · rintro h ⟨l, hl, hk⟩
    obtain ⟨e, he, rfl⟩ := List.mem_map.1 hl
    exact h ⟨e, he, hk⟩
theorem mem_allW {g : Gra} {k : Int} : k ∈ allW g ↔ k ∈ g.2.2.1 ∨ k ∈ g.2.2.2 ∨ ∃ e ∈ g.2.1, k ∈ edI e ∨ k ∈ edO e := by
  unfold allW
  rw [List.mem_append, List.mem_append, List.mem_flatten]
  constructor
  · rintro ((h | h) | ⟨l, hl, h⟩)
    · exact .inl h
    · exact .inr (.inl h)
    · obtain ⟨e, he, rfl⟩ := List.mem_map.1 hl
      exact .inr (.inr ⟨e, he, List.mem_append.1 h⟩)
  · rintro (h | h | ⟨e, he, h⟩)
    · exact .inl (.inl h)
    · exact .inl (.inr h)
    · exact .inr ⟨_, List.mem_map.2 ⟨e, he, rfl⟩, List.mem_append.2 h⟩
theorem edW_rng {n : Nat} {E : List Edg} (h : E.all (edW n) = true) : ∀ e ∈ E, (∀ x ∈ edI e, 0 ≤ x ∧ x < (n : Int)) ∧ (∀ x ∈ edO e, 0 ≤ x ∧ x < (n : Int)) := by
  intro e he
  have := List.all_eq_true.1 h e he
  unfold edW at this
  simp only [Bool.and_eq_true] at this
  exact ⟨inW_rng this.2.1, inW_rng this.2.2⟩
theorem hgValid_ (g : Gra) : F_spec_hgValid g = some (gOk g) := by
  obtain ⟨n, E, I, O⟩ := g
  unfold F_spec_hgValid gOk
  cases hr : rng n 0 100 with
  | false => simp [l1In, hr]
  | true =>
    have hn := rng_true.1 hr
    have hs : subO n 1 = some (n - 1) := subO_of (by omega) (by omega)
    by_cases hE : E.length ≤ 60
    case neg =>
      have : (60 : Int) < (E.length : Int) := by omega
      simp [l1In, hr, hE, this]
    have hE' : ¬ (60 : Int) < (E.length : Int) := by omega
    by_cases hI : I.length ≤ 12
    case neg =>
      have : (12 : Int) < (I.length : Int) := by omega
      simp [l1In, hr, hE, hE', hI, this]
    have hI' : ¬ (12 : Int) < (I.length : Int) := by omega
    by_cases hO : O.length ≤ 12
    case neg =>
      have : (12 : Int) < (O.length : Int) := by omega
      simp [l1In, hr, hE, hE', hI, hI', hO, this]
    have hO' : ¬ (12 : Int) < (O.length : Int) := by omega
    cases hwI : wOk n I with
    | false => unfold wOk at hwI; simp [l1In, hr, hE, hE', hI, hI', hO, hO', hs, l1All, hwI]
    | true =>
    cases hwO : wOk n O with
    | false => unfold wOk at hwI hwO; simp [l1In, hr, hE, hE', hI, hI', hO, hO', hs, l1All, hwO]
    | true =>
    have hl1 : F_spec_l1All I 0 (n - 1) = some true := by rw [l1All]; exact congrArg some hwI
    have hl2 : F_spec_l1All O 0 (n - 1) = some true := by rw [l1All]; exact congrArg some hwO
    simp only [l1In, hr, dF hE', dF hI', dF hO', dT hE, dT hI, dT hO, hs, hl1, hl2, Option.bind_some, Bool.not_true, cond_false, Bool.true_and]
    refine sqW (forO_all (edW n) E 0 ?_ (t := false)) ?_
    · intro j e hj
      rw [Nat.zero_add]
      refine bnd (idxO_of hj) (bnd (hgEdge_ e hn.1 hn.2) (stp ?_))
      have : (arB e && (wOk n e.2.2.1 && wOk n e.2.2.2)) = edW n e := rfl
      rw [this]
      cases edW n e <;> rfl
    · cases hall : E.all (edW n) with
      | false => rfl
      | true =>
        rw [if_pos rfl, seqO_l]
        obtain ⟨m, rfl⟩ : ∃ m : Nat, n = (m : Int) := ⟨n.toNat, by omega⟩
        have h2 := totE_le (edW_arB hall)
        refine bnd (hgCounts_ (by omega) (inW_rng hwI) (inW_rng hwO) (edW_rng hall) (by omega)) ?_
        dsimp only
        have hlen : ∀ f : Nat → Int, (tabl m f).length = (List.range m).length := fun f => by rw [tabl_len, List.length_range]
        rw [hlen]
        refine sqW (forO_all (fun k : Nat => decide ((k : Int) ∈ allW ((m : Int), E, I, O))) (List.range m) 0 ?_ (t := false)) ?_
        · intro j k hj
          obtain ⟨hjm, hje⟩ := List.getElem?_eq_some_iff.1 hj
          rw [List.getElem_range] at hje
          subst hje
          rw [List.length_range] at hjm
          rw [Nat.zero_add]
          have c1 : I.count (j : Int) ≤ I.length := List.count_le_length
          have c2 : O.count (j : Int) ≤ O.length := List.count_le_length
          have c3 : cntE E edI j ≤ totE E edI := List.count_le_length
          have c4 : cntE E edO j ≤ totE E edO := List.count_le_length
          refine bnd (tabl_idx _ hjm) (bnd (tabl_idx _ hjm) (bnd (addO_of (by omega) (by omega)) (stp ?_)))
          have hiff : (j : Int) ∈ allW ((m : Int), E, I, O) ↔ ¬ (((I.count (j : Int) + cntE E edO j : Nat) : Int) + ((O.count (j : Int) + cntE E edI j : Nat) : Int) = 0) := by
            rw [mem_allW]
            dsimp only
            have z1 : I.count (j : Int) = 0 ↔ ¬ (j : Int) ∈ I := List.count_eq_zero
            have z2 : O.count (j : Int) = 0 ↔ ¬ (j : Int) ∈ O := List.count_eq_zero
            have z3 := mem_cnt (E := E) (s := edI) (k := j)
            have z4 := mem_cnt (E := E) (s := edO) (k := j)
            constructor
            · intro h h0
              have y1 := z1.1 (by omega); have y2 := z2.1 (by omega); have y3 := z3.1 (by omega); have y4 := z4.1 (by omega)
              rcases h with h | h | ⟨e, he, h | h⟩
              · exact y1 h
              · exact y2 h
              · exact y3 ⟨e, he, h⟩
              · exact y4 ⟨e, he, h⟩
            · intro h
              refine Decidable.byContradiction fun hc => h ?_
              simp only [not_or] at hc
              have y1 := z1.2 hc.1; have y2 := z2.2 hc.2.1
              have y3 := z3.2 (fun ⟨e, he, hk⟩ => hc.2.2 ⟨e, he, .inl hk⟩)
              have y4 := z4.2 (fun ⟨e, he, hk⟩ => hc.2.2 ⟨e, he, .inr hk⟩)
              omega
          by_cases hk : (j : Int) ∈ allW ((m : Int), E, I, O)
          · rw [dT hk, dF (hiff.1 hk)]; rfl
          · rw [dF hk, dT (Decidable.byContradiction fun hc => hk (hiff.2 hc))]; rfl
        · rw [Int.toNat_natCast]
          cases (List.range m).all fun k : Nat => decide ((k : Int) ∈ allW ((m : Int), E, I, O)) <;> rfl

/-! ### the program's test -/
def seenT (n : Nat) (d : List Int) : List Bool := tabl n fun k => decide ((k : Int) ∈ d)
def seenN (n : Nat) (d : List Int) : Nat := (List.range n).countP fun k : Nat => decide ((k : Int) ∈ d)
theorem seenN_le (n : Nat) (d : List Int) : seenN n d ≤ n := by
  have := List.countP_le_length (p := fun k : Nat => decide ((k : Int) ∈ d)) (l := List.range n)
  rwa [List.length_range] at this
theorem countP_add {n m : Nat} (h : m < n) (P : Nat → Bool) (hP : P m = false) : (List.range n).countP (fun k => decide (k = m) || P k) = (List.range n).countP P + 1 := by
  induction n with
  | zero => omega
  | succ n ih =>
    rw [List.range_succ, List.countP_append, List.countP_append]
    by_cases hm : m = n
    · subst hm
      have : (List.range m).countP (fun k => decide (k = m) || P k) = (List.range m).countP P := by
        refine List.countP_congr fun k hk => ?_
        have : ¬ k = m := by have := List.mem_range.1 hk; omega
        simp [this]
      rw [this]
      simp [hP]
    · rw [ih (by omega)]
      have : ¬ n = m := by omega
      simp [this]; omega
theorem seen_step (n : Nat) (d : List Int) (m : Nat) (hm : m < n) (h : ¬ (m : Int) ∈ d) : seenN n (d ++ [(m : Int)]) = seenN n d + 1 ∧ (tabl n fun k => if k = m then true else decide ((k : Int) ∈ d)) = seenT n (d ++ [(m : Int)]) := by
  constructor
  · unfold seenN
    rw [← countP_add hm (fun k : Nat => decide ((k : Int) ∈ d)) (dF h)]
    refine List.countP_congr fun k _ => ?_
    simp only [List.mem_append, List.mem_singleton, decide_eq_true_eq, Bool.or_eq_true]
    constructor
    · rintro (h | h)
      · exact .inr h
      · exact .inl (by omega)
    · rintro (h | h)
      · exact .inr (by omega)
      · exact .inl h
  · refine tabl_ext fun k _ => ?_
    by_cases hk : k = m
    · rw [if_pos hk, dT]; simp [hk]
    · rw [if_neg hk, decide_eq_decide]
      have : ¬ (k : Int) = (m : Int) := by omega
      simp [this]
theorem seen_same (n : Nat) (d : List Int) (x : Int) (h : x ∈ d ∨ rng x 0 ((n : Int) - 1) = false) : seenN n (d ++ [x]) = seenN n d ∧ seenT n (d ++ [x]) = seenT n d := by
  have : ∀ k, k < n → decide ((k : Int) ∈ d ++ [x]) = decide ((k : Int) ∈ d) := fun k hk => by
    rw [decide_eq_decide, List.mem_append, List.mem_singleton]
    constructor
    · rintro (h1 | h1)
      · exact h1
      · rcases h with h | h
        · rw [h1]; exact h
        · have : rng x 0 ((n : Int) - 1) = true := rng_true.2 (by omega)
          rw [this] at h; cases h
    · exact .inl
  exact ⟨List.countP_congr fun k hk => by rw [this k (List.mem_range.1 hk)], tabl_ext this⟩
/-- one list of a graph -/
theorem isGraph1_ {n : Nat} (hn : n ≤ 100) (E : List Edg) (I O l d : List Int) : F_impl_Graph_isGraph_1 l ((n : Int), E, I, O) (wOk n d) (seenT n d) ((seenN n d : Nat) : Int) = some (wOk n (d ++ l), seenT n (d ++ l), ((seenN n (d ++ l) : Nat) : Int)) := by
  unfold F_impl_Graph_isGraph_1
  have := forS_is (n := l.length) (fun j => (wOk n (d ++ l.take j), ((seenN n (d ++ l.take j) : Nat) : Int), seenT n (d ++ l.take j))) (f := fun (k10 : Nat) (s199 : Bool × Int × List Bool) =>
      ((idxO l ((k10 : Nat) : Int)).bind fun a262 =>
        (subO (n : Int) 1).bind fun a264 =>
        (F_impl_within a262 0 a264).bind fun y266 =>
        (some (!y266)).bind fun a269 =>
        cond a269
        (some (false, s199.2.1, s199.2.2))
        ((idxO s199.2.2 a262).bind fun a278 =>
          (some (!a278)).bind fun a280 =>
          cond a280
          ((setO s199.2.2 a262 true).bind fun a290 =>
            (addO s199.2.1 1).bind fun a293 =>
            some (s199.1, a293, a290))
          (some (s199.1, s199.2.1, s199.2.2)))).bind fun (s250 : Bool × Int × List Bool) =>
      some (s250.1, s250.2.1, s250.2.2)) (fun j hj => by
    have hlen := seenN_le n (d ++ l.take j)
    have e1 : d ++ l.take (j + 1) = (d ++ l.take j) ++ [l[j]] := by rw [List.take_add_one, List.getElem?_eq_getElem hj]; simp
    have e2 : wOk n (d ++ l.take (j + 1)) = (wOk n (d ++ l.take j) && rng l[j] 0 (n - 1)) := by rw [e1, all_app]; congr 1; unfold wOk; simp
    refine bndW (bnd (idxO_of (List.getElem?_eq_getElem hj)) (bnd (subO_of (by omega) (by omega)) (bnd (within_ _ _ _) (stp rfl)))) ?_
    cases hr : rng l[j] 0 ((n : Int) - 1) with
    | false =>
      have h3 := seen_same n (d ++ l.take j) l[j] (.inr hr)
      rw [← e1] at h3
      rw [e2, hr, h3.1, h3.2, Bool.and_false]; rfl
    | true =>
      have hx := rng_true.1 hr
      obtain ⟨m, hme⟩ : ∃ m : Nat, l[j] = (m : Int) := ⟨l[j].toNat, by omega⟩
      rw [e2, hr, Bool.and_true, hme]
      refine bndW (bnd (tabl_idx _ (by omega)) (stp rfl)) ?_
      by_cases hm : (m : Int) ∈ d ++ l.take j
      · have h3 := seen_same n (d ++ l.take j) l[j] (.inl (by rw [hme]; exact hm))
        rw [← e1] at h3
        rw [dT hm, h3.1, h3.2]; rfl
      · have h3 := seen_step n (d ++ l.take j) m (by omega) hm
        rw [← hme, ← e1] at h3
        rw [dF hm]
        refine bndW (bnd (tabl_setO _ _ (by omega)) (bnd (addO_of (by dsimp only; omega) (by dsimp only; omega)) rfl)) ?_
        rw [h3.1]
        show some _ = some _
        refine congrArg some (Prod.ext rfl (Prod.ext ?_ ?_))
        · dsimp only; push_cast; rfl
        · dsimp only; rw [← h3.2])
  simp only [List.take_zero, List.append_nil, List.take_length] at this
  rw [this]; rfl
theorem isGraphL_ {n : Nat} (hn : n ≤ 100) (E : List Edg) (I O : List Int) : F_impl_Graph_lists_impl_Graph_isGraph_1 ((n : Int), E, I, O) ((n : Int), E, I, O) true (tabl n fun _ => false) 0 = some (wOk n (allW ((n : Int), E, I, O)), seenT n (allW ((n : Int), E, I, O)), ((seenN n (allW ((n : Int), E, I, O)) : Nat) : Int)) := by
  unfold F_impl_Graph_lists_impl_Graph_isGraph_1
  have h0 : (tabl n fun _ => false) = seenT n [] := by unfold seenT; simp
  have h1 : (0 : Int) = ((seenN n [] : Nat) : Int) := by unfold seenN; simp
  have h2 : true = wOk n [] := rfl
  rw [h0, h1, h2]
  refine bnd (isGraph1_ hn E I O I []) (bnd (isGraph1_ hn E I O O ([] ++ I)) ?_)
  have := forS_is (n := E.length) (fun j => (((seenN n ([] ++ I ++ O ++ ((E.take j).map fun e => edI e ++ edO e).flatten) : Nat) : Int), wOk n ([] ++ I ++ O ++ ((E.take j).map fun e => edI e ++ edO e).flatten), seenT n ([] ++ I ++ O ++ ((E.take j).map fun e => edI e ++ edO e).flatten))) (f := fun (k21 : Nat) (s74 : Int × Bool × List Bool) =>
      (idxO E ((k21 : Nat) : Int)).bind fun a89 =>
      (F_impl_Graph_isGraph_1 a89.2.2.1 ((n : Int), E, I, O) s74.2.1 s74.2.2 s74.1).bind fun y101 =>
      (F_impl_Graph_isGraph_1 a89.2.2.2 ((n : Int), E, I, O) y101.1 y101.2.1 y101.2.2).bind fun y104 =>
      some (y104.2.2, y104.1, y104.2.1)) (fun j hj => by
    have e1 : [] ++ I ++ O ++ ((E.take (j + 1)).map fun e => edI e ++ edO e).flatten = [] ++ I ++ O ++ ((E.take j).map fun e => edI e ++ edO e).flatten ++ edI E[j] ++ edO E[j] := by
      rw [List.take_add_one, List.getElem?_eq_getElem hj, List.map_append, List.flatten_append]
      simp only [Option.toList_some, List.map_cons, List.map_nil, List.flatten_cons, List.flatten_nil, List.append_nil, List.append_assoc]
    rw [e1]
    exact bnd (idxO_of (List.getElem?_eq_getElem hj)) (bnd (isGraph1_ hn E I O (edI E[j]) _) (bnd (isGraph1_ hn E I O (edO E[j]) _) rfl)))
  simp only [List.take_zero, List.take_length, List.map_nil, List.flatten_nil, List.append_nil] at this
  refine bnd this ?_
  unfold allW
  simp only [List.nil_append]
theorem wOk_allW {n : Int} {E : List Edg} {I O : List Int} (h : E.all arB = true) : wOk n (allW (n, E, I, O)) = (wOk n I && (wOk n O && E.all (edW n))) := by
  unfold allW
  rw [all_app, all_app, Bool.and_assoc]
  congr 2
  show wOk n (E.map fun e => edI e ++ edO e).flatten = E.all (edW n)
  clear I O
  induction E with
  | nil => rfl
  | cons e E ih =>
    simp only [List.all_cons, Bool.and_eq_true] at h
    rw [List.map_cons, List.flatten_cons, all_app, all_app, List.all_cons]
    rw [ih h.2]
    unfold edW
    rw [h.1, Bool.true_and]
theorem isGraph_ (g : Gra) : F_impl_Graph_isGraph g = some (gOk g) := by
  obtain ⟨n, E, I, O⟩ := g
  unfold F_impl_Graph_isGraph gOk
  cases hr : rng n 0 100 with
  | false => simp [within_, hr]
  | true =>
    have hn := rng_true.1 hr
    by_cases hE : E.length ≤ 60
    case neg =>
      have : (60 : Int) < (E.length : Int) := by omega
      simp [within_, hr, hE, this]
    have hE' : ¬ (60 : Int) < (E.length : Int) := by omega
    by_cases hI : I.length ≤ 12
    case neg =>
      have : (12 : Int) < (I.length : Int) := by omega
      simp [within_, hr, hE, hE', hI, this]
    have hI' : ¬ (12 : Int) < (I.length : Int) := by omega
    by_cases hO : O.length ≤ 12
    case neg =>
      have : (12 : Int) < (O.length : Int) := by omega
      simp [within_, hr, hE, hE', hI, hI', hO, this]
    have hO' : ¬ (12 : Int) < (O.length : Int) := by omega
    simp only [within_, hr, dF hE', dF hI', dF hO', dT hE, dT hI, dT hO, Option.bind_some, Bool.not_true, cond_false, Bool.true_and]
    obtain ⟨m, rfl⟩ : ∃ m : Nat, n = (m : Int) := ⟨n.toNat, by omega⟩
    refine sqW (forO_all arB E 0 ?_ (t := false)) ?_
    · intro j e hj
      rw [Nat.zero_add]
      refine bnd (idxO_of hj) (bnd (isEdge_ e) (stp ?_))
      cases arB e <;> rfl
    · cases hall : E.all arB with
      | false =>
        have : E.all (edW (m : Int)) = false := by
          cases h : E.all (edW (m : Int)) with
          | false => rfl
          | true => rw [edW_arB h] at hall; cases hall
        rw [this]
        simp [seqO]
      | true =>
        rw [if_pos rfl, seqO_l]
        refine bnd (tabl_make _ (by unfold maxN; omega)) (bnd (isGraphL_ (by omega) E I O) ?_)
        dsimp only
        rw [wOk_allW hall]
        have hcov : decide (((seenN m (allW ((m : Int), E, I, O)) : Nat) : Int) = (m : Int)) = (List.range m).all fun k : Nat => decide ((k : Int) ∈ allW ((m : Int), E, I, O)) := by
          rw [Bool.eq_iff_iff, decide_eq_true_eq, List.all_eq_true]
          have : seenN m (allW ((m : Int), E, I, O)) = (List.range m).length ↔ _ := List.countP_eq_length
          rw [List.length_range] at this
          rw [← this]; omega
        rw [hcov, Int.toNat_natCast]
        cases wOk (m : Int) I <;> cases wOk (m : Int) O <;> cases E.all (edW (m : Int)) <;> rfl
end Go.Proofs.YtmchibapkddniaaGreat
namespace Go.Proofs.YtmchibapkddniaaGreat

/-! ### loops by what holds in them -/
theorem whileO_rel {σ τ : Type} {f : σ → Option (σ ⊕ τ)} (I : σ → Prop) (Q : τ → Prop) (μ : σ → Nat) (h : ∀ s, I s → (∃ s', f s = some (.inl s') ∧ I s' ∧ μ s' < μ s) ∨ (∃ t, f s = some (.inr t) ∧ Q t)) {s : σ} (hs : I s) : ∃ t, whileO f s = some t ∧ Q t := by
  have key : ∀ n s, μ s ≤ n → I s → ∃ t, whileO f s = some t ∧ Q t := by
    intro n
    induction n with
    | zero =>
      intro s hn hs
      rcases h s hs with ⟨s', _, _, hl⟩ | ⟨t, ht, hq⟩
      · omega
      · exact ⟨t, whileO_end ht, hq⟩
    | succ n ih =>
      intro s hn hs
      rcases h s hs with ⟨s', h1, h2, hl⟩ | ⟨t, ht, hq⟩
      · obtain ⟨t, h3, h4⟩ := ih s' (by omega) h2
        exact ⟨t, by rw [whileO_step h1]; exact h3, h4⟩
      · exact ⟨t, whileO_end ht, hq⟩
  exact key _ s (Nat.le_refl _) hs
theorem forS_inv {σ : Type} {f : Nat → σ → Option σ} (I : Nat → σ → Prop) : ∀ (n k : Nat) (s : σ), I k s → (∀ j s, k ≤ j → j < k + n → I j s → ∃ s', f j s = some s' ∧ I (j + 1) s') → ∃ r, forS f n k s = some r ∧ I (k + n) r
  | 0, k, s, h0, _ => ⟨s, rfl, h0⟩
  | n + 1, k, s, h0, h => by
    obtain ⟨s', h1, h2⟩ := h k s (Nat.le_refl _) (by omega) h0
    obtain ⟨r, h3, h4⟩ := forS_inv I n (k + 1) s' h2 (fun j s hj hl hi => h j s (by omega) (by omega) hi)
    refine ⟨r, ?_, by rwa [show k + 1 + n = k + (n + 1) by omega] at h4⟩
    show (f k s).bind _ = _
    rw [h1]; exact h3
theorem forS_rel {σ : Type} {f : Nat → σ → Option σ} {n : Nat} {s : σ} (I : Nat → σ → Prop) (h0 : I 0 s) (h : ∀ j s, j < n → I j s → ∃ s', f j s = some s' ∧ I (j + 1) s') : ∃ r, forS f n 0 s = some r ∧ I n r := by
  obtain ⟨r, h1, h2⟩ := forS_inv (f := f) I n 0 s h0 (fun j s _ hl hi => h j s (by omega) hi)
  exact ⟨r, h1, by rwa [Nat.zero_add] at h2⟩
theorem forO_inv {σ τ : Type} {f : Nat → σ → Option (σ ⊕ τ)} (I : Nat → σ → Prop) (Q : τ → Prop) : ∀ (n k : Nat) (s : σ), I k s → (∀ j s, k ≤ j → j < k + n → I j s → (∃ s', f j s = some (.inl s') ∧ I (j + 1) s') ∨ (∃ t, f j s = some (.inr t) ∧ Q t)) → (∃ r, forO f n k s = some (.inl r) ∧ I (k + n) r) ∨ (∃ t, forO f n k s = some (.inr t) ∧ Q t)
  | 0, k, s, h0, _ => .inl ⟨s, rfl, h0⟩
  | n + 1, k, s, h0, h => by
    rcases h k s (Nat.le_refl _) (by omega) h0 with ⟨s', h1, h2⟩ | ⟨t, h1, h2⟩
    · rcases forO_inv I Q n (k + 1) s' h2 (fun j s hj hl hi => h j s (by omega) (by omega) hi) with ⟨r, h3, h4⟩ | ⟨t, h3, h4⟩
      · refine .inl ⟨r, ?_, by rwa [show k + 1 + n = k + (n + 1) by omega] at h4⟩
        show (f k s).bind _ = _
        rw [h1]; exact h3
      · refine .inr ⟨t, ?_, h4⟩
        show (f k s).bind _ = _
        rw [h1]; exact h3
    · refine .inr ⟨t, ?_, h2⟩
      show (f k s).bind _ = _
      rw [h1]; rfl
theorem forO_rel {σ τ : Type} {f : Nat → σ → Option (σ ⊕ τ)} {n : Nat} {s : σ} (I : Nat → σ → Prop) (Q : τ → Prop) (h0 : I 0 s) (h : ∀ j s, j < n → I j s → (∃ s', f j s = some (.inl s') ∧ I (j + 1) s') ∨ (∃ t, f j s = some (.inr t) ∧ Q t)) : (∃ r, forO f n 0 s = some (.inl r) ∧ I n r) ∨ (∃ t, forO f n 0 s = some (.inr t) ∧ Q t) := by
  rcases forO_inv (f := f) I Q n 0 s h0 (fun j s _ hl hi => h j s (by omega) hi) with ⟨r, h1, h2⟩ | h
  · exact .inl ⟨r, h1, by rwa [Nat.zero_add] at h2⟩
  · exact .inr h

/-! ### tables of marks -/

/-! ### what can be reached -/
def inRg (n : Nat) (l : List Int) : Prop := ∀ x ∈ l, 0 ≤ x ∧ x < (n : Int)
def edRg (n : Nat) (E : List Edg) : Prop := ∀ e ∈ E, inRg n (edI e) ∧ inRg n (edO e)

/-! ### the reference's search -/

/-! ### the program's search -/
end Go.Proofs.YtmchibapkddniaaGreat
namespace Go.Proofs.YtmchibapkddniaaGreat
end Go.Proofs.YtmchibapkddniaaGreat
namespace Go.Proofs.YtmchibapkddniaaGreat

end Go.Proofs.YtmchibapkddniaaGreat
namespace Go.Proofs.YtmchibapkddniaaGreat
set_option linter.unusedVariables false

theorem nE_sum {α : Type} (f : α → Nat) (l : List α) : tot (fun x => 8 * (1 + f x)) l = 8 * (l.length + tot f l) := by
  induction l with
  | nil => rfl
  | cons a l ih => rw [tot_cons, tot_cons, ih, List.length_cons]; omega
theorem totLe2 {α : Type} {f g : α → Nat} (h : ∀ a, f a ≤ g a) (l : List α) : tot f l ≤ tot g l := by
  induction l with
  | nil => exact Nat.le_refl _
  | cons a l ih => rw [tot_cons, tot_cons]; have := h a; omega
theorem mark_loop2 {α : Type} (mk : α → Int → α × Int) (n M : α → Nat) (hmk : ∀ a k, (mk a k).2 = k + n a) (hnM : ∀ a, n a ≤ M a) {f : List α × Int × Int → Option ((List α × Int × Int) ⊕ (List α × Int))} (N : Nat) (B : Int)
    (hf : ∀ (j : Nat) (a : α) (s : List α) (q : Int), s[j]? = some a → s.length = N → j < N → 0 ≤ q → q + M a ≤ B → f (s, q, (j : Int)) = some (.inl (s.set j (mk a q).1, (mk a q).2, (j : Int) + 1)))
    (he : ∀ (s : List α) (q : Int), s.length = N → f (s, q, (N : Int)) = some (.inr (s, q))) : ∀ (rest pre : List α) (q : Int), pre.length + rest.length = N → 0 ≤ q → q + tot M rest ≤ B → whileO f (pre ++ rest, q, (pre.length : Int)) = some (pre ++ (mkL mk rest q).1, (mkL mk rest q).2)
  | [], pre, q, hN, _, _ => by
    have h1 : pre.length = N := by simpa using hN
    have := he pre q h1
    rw [← h1] at this
    rw [List.append_nil, whileO_end this]; simp [mkL]
  | a :: rest, pre, q, hN, h0, hB => by
    rw [tot_cons] at hB
    have hn := hnM a
    have h1 := hf pre.length a (pre ++ a :: rest) q (get_app _ _ _) (by simpa using hN) (by simp at hN; omega) h0 (by omega)
    have ih := mark_loop2 mk n M hmk hnM N B hf he rest (pre ++ [(mk a q).1]) (mk a q).2 (by simp at hN ⊢; omega) (by rw [hmk]; omega) (by rw [hmk]; omega)
    rw [set_app, app1 pre rest (mk a q).1, ← len1 pre (mk a q).1] at h1
    rw [whileO_step h1, ih]
    simp [mkL]
theorem held_loop2 {α : Type} (mk : α → Int → α × Int) (n M : α → Nat) (hmk : ∀ a k, (mk a k).2 = k + n a) (hnM : ∀ a, n a ≤ M a) {f : Int × Int → Option ((Int × Int) ⊕ (Int ⊕ Int))} (L : List α) (B : Int)
    (hf : ∀ (j : Nat) (a : α) (q : Int), L[j]? = some (mk a q).1 → j < L.length → 0 ≤ q → q + M a ≤ B → f (q, (j : Int)) = some (.inl (q + n a, (j : Int) + 1)))
    (he : ∀ q : Int, f (q, (L.length : Int)) = some (.inr (.inl q))) : ∀ (rest pre : List α) (q : Int), L = pre ++ (mkL mk rest q).1 → 0 ≤ q → q + tot M rest ≤ B → whileO f (q, (pre.length : Int)) = some (.inl (q + tot n rest))
  | [], pre, q, hL, _, _ => by
    have := he q
    rw [hL] at this
    have h2 : pre ++ (mkL mk [] q).1 = pre := by simp [mkL]
    rw [h2] at this
    rw [whileO_end this, tot_nil]; simp
  | a :: rest, pre, q, hL, h0, hB => by
    rw [tot_cons] at hB
    have hn := hnM a
    have hL' : L = pre ++ (mk a q).1 :: (mkL mk rest (q + n a)).1 := by rw [hL]; show _ = _; rw [← hmk]; rfl
    have h1 := hf pre.length a q (by rw [hL']; exact get_app _ _ _) (by rw [hL']; simp) h0 (by omega)
    have ih := held_loop2 mk n M hmk hnM L B hf he rest (pre ++ [(mk a q).1]) (q + n a) (by rw [hL', app1]) (by omega) (by omega)
    rw [len1] at ih
    rw [whileO_step h1, ih, tot_cons]; congr 2; omega

end Go.Proofs.YtmchibapkddniaaGreat
namespace Go.Proofs.YtmchibapkddniaaGreat

structure GOk (g : Gra) (n : Nat) : Prop where
  w : g.1 = (n : Int)
  n100 : n ≤ 100
  e60 : g.2.1.length ≤ 60
  i12 : g.2.2.1.length ≤ 12
  o12 : g.2.2.2.length ≤ 12
  i : inRg n g.2.2.1
  o : inRg n g.2.2.2
  e : edRg n g.2.1
  ar : g.2.1.all arB = true
  ti : totE g.2.1 edI ≤ 120
  to : totE g.2.1 edO ≤ 120
  cov : ∀ k : Nat, k < n → (k : Int) ∈ allW g
theorem gOk_facts {g : Gra} (h : gOk g = true) : ∃ n, GOk g n := by
  unfold gOk at h
  simp only [Bool.and_eq_true, decide_eq_true_eq] at h
  obtain ⟨h1, h2, h3, h4, h5, h6, h7, h8⟩ := h
  have hr := rng_true.1 h1
  obtain ⟨n, hn⟩ : ∃ n : Nat, g.1 = (n : Int) := ⟨g.1.toNat, by omega⟩
  rw [hn] at h5 h6 h7 h8
  have h9 := totE_le (edW_arB h7)
  refine ⟨n, hn, by omega, h2, h3, h4, inW_rng h5, inW_rng h6, edW_rng h7, edW_arB h7, by omega, by omega, fun k hk => ?_⟩
  rw [Int.toNat_natCast] at h8
  exact of_decide_eq_true (List.all_eq_true.1 h8 k (List.mem_range.2 hk))

end Go.Proofs.YtmchibapkddniaaGreat
namespace Go.Proofs.YtmchibapkddniaaGreat

/-! ### tables that a loop fills -/
def tabF {α : Type} (f f0 : Nat → α) (j : Nat) : Nat → α := fun k => if k < j then f k else f0 k
theorem tabF_step {α : Type} {n : Nat} (f f0 : Nat → α) (j : Nat) : (tabl n fun k => if k = j then f j else tabF f f0 j k) = tabl n (tabF f f0 (j + 1)) := by
  refine tabl_ext fun k _ => ?_
  unfold tabF
  by_cases h : k = j
  · subst h; rw [if_pos rfl, if_pos (by omega)]
  · rw [if_neg h]
    by_cases h2 : k < j
    · rw [if_pos h2, if_pos (by omega)]
    · rw [if_neg h2, if_neg (by omega)]
theorem fill_loop {α : Type} {n : Nat} (f f0 : Nat → α) {g : Nat → List α → Option (List α)} (hg : ∀ j, j < n → g j (tabl n (tabF f f0 j)) = some (tabl n fun k => if k = j then f j else tabF f f0 j k)) : forS g n 0 (tabl n f0) = some (tabl n f) := by
  have := forS_is (f := g) (n := n) (fun j => tabl n (tabF f f0 j)) (fun j hj => by rw [hg j hj, tabF_step])
  have e0 : tabl n (tabF f f0 0) = tabl n f0 := tabl_ext fun k _ => by unfold tabF; rw [if_neg (by omega)]
  have e1 : tabl n (tabF f f0 n) = tabl n f := tabl_ext fun k hk => by unfold tabF; rw [if_pos hk]
  rw [e0, e1] at this
  exact this
theorem upT_ {n : Nat} (h : n ≤ 1048576) : F_impl_upTo (n : Int) = some (tabl n fun k => (k : Int)) := by
  have hm : maxN = 1099511627776 := rfl
  refine bnd (zeros_ (by omega)) ?_
  rw [tabl_rep, tabl_len]
  exact bnd (fill_loop (fun k => (k : Int)) (fun _ => 0) (fun j hj => bnd (tabl_setO _ _ hj) rfl)) rfl
theorem from_ {n a : Nat} (h : n ≤ 1048576) (ha : a ≤ 1048576) : F_impl_from (a : Int) (n : Int) = some (tabl n fun k => (k : Int) + a) := by
  refine bnd (upT_ h) ?_
  rw [tabl_len]
  refine bnd (fill_loop (fun k => (k : Int) + a) (fun k => (k : Int)) (fun j hj => ?_)) rfl
  have e : tabF (fun k => (k : Int) + a) (fun k => (k : Int)) j j = (j : Int) := by unfold tabF; rw [if_neg (by omega)]
  refine bnd (tabl_idx _ hj) ?_
  rw [e]
  exact bnd (addO_of (by omega) (by omega)) (bnd (tabl_setO _ _ hj) rfl)

/-! ### other wires -/
def mp (t : Nat → Int) (l : List Int) : List Int := l.map fun x => t x.toNat
def mpE (t : Nat → Int) (e : Edg) : Edg := (e.1, e.2.1, mp t (edI e), mp t (edO e))
def mpG (n : Int) (t : Nat → Int) (g : Gra) : Gra := (n, g.2.1.map (mpE t), mp t g.2.2.1, mp t g.2.2.2)
theorem mp_id {n : Nat} {l : List Int} (h : inRg n l) : mp (fun k => (k : Int)) l = l := by
  unfold mp
  refine (List.map_congr_left fun x hx => ?_).trans (List.map_id _)
  have := h x hx
  show ((x.toNat : Nat) : Int) = x
  omega
theorem hgList_ {n : Nat} {l : List Int} (t : Nat → Int) (h : inRg n l) (hl : l.length ≤ 1048576) : F_spec_hgList l (tabl n t) = some (mp t l) := by
  have hm : maxN = 1099511627776 := rfl
  refine bnd (forS_map (fun x => t x.toNat) l [] (by simp; omega) (fun j x s' hj hs => ?_)) rfl
  have hx := h x (mem_of_get hj)
  obtain ⟨k, rfl⟩ : ∃ k : Nat, x = (k : Int) := ⟨x.toNat, by omega⟩
  have hjl := (List.getElem?_eq_some_iff.1 hj).1
  refine bnd (idxO_of hj) (bnd (tabl_idx _ (by omega)) (bnd (appO_of (by simp at hs ⊢; omega)) ?_))
  rfl
theorem mapped_ {n : Nat} {l : List Int} (t : Nat → Int) (h : inRg n l) (hl : l.length ≤ 1048576) : F_impl_mapped l (tabl n t) = some (mp t l) := by
  have hm : maxN = 1099511627776 := rfl
  refine bnd (bnd (makeCO_of0 _ (by omega)) (bnd (forS_map (fun x => t x.toNat) l [] (by simp; omega) (fun j x s' hj hs => ?_)) rfl)) rfl
  have hx := h x (mem_of_get hj)
  obtain ⟨k, rfl⟩ : ∃ k : Nat, x = (k : Int) := ⟨x.toNat, by omega⟩
  have hjl := (List.getElem?_eq_some_iff.1 hj).1
  refine bnd (idxO_of hj) (bnd (tabl_idx _ (by omega)) (bnd (appO_of (by simp at hs ⊢; omega)) ?_))
  rfl
theorem len_tot {E : List Edg} {e : Edg} (s : Edg → List Int) (h : e ∈ E) : (s e).length ≤ totE E s := by
  unfold totE
  induction E with
  | nil => cases h
  | cons x E ih =>
    rw [List.map_cons, List.flatten_cons, List.length_append]
    rcases List.mem_cons.1 h with rfl | h
    · omega
    · have := ih h; omega
/-- a graph's parts in range, and short -/
structure Rgd (n : Nat) (g : Gra) : Prop where
  i : inRg n g.2.2.1
  o : inRg n g.2.2.2
  e : edRg n g.2.1
  li : g.2.2.1.length ≤ 1000
  lo : g.2.2.2.length ≤ 1000
  le : g.2.1.length ≤ 1000
  ti : totE g.2.1 edI ≤ 1000
  to : totE g.2.1 edO ≤ 1000
theorem GOk.rgd {g : Gra} {n : Nat} (h : GOk g n) : Rgd n g := by
  have := h.i12; have := h.o12; have := h.e60; have := h.ti; have := h.to
  exact ⟨h.i, h.o, h.e, by omega, by omega, by omega, by omega, by omega⟩
theorem hgMap_ {n : Nat} {g : Gra} (t : Nat → Int) (w : Int) (h : Rgd n g) : F_spec_hgMap g (tabl n t) w = some (mpG w t g) := by
  have hm : maxN = 1099511627776 := rfl
  obtain ⟨w0, E, I, O⟩ := g
  obtain ⟨h1, h2, h3, h4, h5, h6, h7, h8⟩ := h
  dsimp only at h1 h2 h3 h4 h5 h6 h7 h8
  refine bnd (bnd (hgList_ t h1 (by dsimp only; omega)) (bnd (hgList_ t h2 (by dsimp only; omega)) rfl)) ?_
  refine bnd (forS_map (mpE t) E [] (by simp; omega) (fun j e s' hj hs => ?_)) rfl
  have he := mem_of_get hj
  have hjl := (List.getElem?_eq_some_iff.1 hj).1
  have l1 := len_tot edI he
  have l2 := len_tot edO he
  exact bnd (idxO_of hj) (bnd (hgList_ t (h3 e he).1 (show (edI e).length ≤ _ by omega)) (bnd (hgList_ t (h3 e he).2 (show (edO e).length ≤ _ by omega)) (bnd (appO_of (by simp at hs ⊢; omega)) rfl)))
theorem moved_ {n : Nat} {g : Gra} (t : Nat → Int) (w : Int) (h : Rgd n g) : F_impl_Graph_moved g w (tabl n t) = some (mpG w t g) := by
  have hm : maxN = 1099511627776 := rfl
  obtain ⟨w0, E, I, O⟩ := g
  obtain ⟨h1, h2, h3, h4, h5, h6, h7, h8⟩ := h
  dsimp only at h1 h2 h3 h4 h5 h6 h7 h8
  refine bnd (bnd (mapped_ t h1 (by dsimp only; omega)) (bnd (mapped_ t h2 (by dsimp only; omega)) rfl)) ?_
  refine bnd (forS_map (mpE t) E [] (by simp; omega) (fun j e s' hj hs => ?_)) rfl
  have he := mem_of_get hj
  have hjl := (List.getElem?_eq_some_iff.1 hj).1
  have l1 := len_tot edI he
  have l2 := len_tot edO he
  exact bnd (idxO_of hj) (bnd (mapped_ t (h3 e he).1 (show (edI e).length ≤ _ by omega)) (bnd (mapped_ t (h3 e he).2 (show (edO e).length ≤ _ by omega)) (bnd (appO_of (by simp at hs ⊢; omega)) rfl)))
theorem mpG_id {n : Nat} {g : Gra} (h : Rgd n g) : mpG g.1 (fun k => (k : Int)) g = g := by
  obtain ⟨w0, E, I, O⟩ := g
  obtain ⟨h1, h2, h3, _, _, _, _, _⟩ := h
  unfold mpG
  refine Prod.ext rfl (Prod.ext ?_ (Prod.ext (mp_id h1) (mp_id h2)))
  refine (List.map_congr_left fun e he => ?_).trans (List.map_id _)
  obtain ⟨k, v, a, b⟩ := e
  have := h3 _ he
  unfold mpE
  exact Prod.ext rfl (Prod.ext rfl (Prod.ext (mp_id this.1) (mp_id this.2)))
theorem hgOwn_ {n : Nat} {g : Gra} (hn : n ≤ 1000) (hw : g.1 = (n : Int)) (h : Rgd n g) : F_spec_hgOwn g = some g := by
  have hm : maxN = 1099511627776 := rfl
  have e := mpG_id h
  unfold F_spec_hgOwn
  rw [hw] at e ⊢
  refine bnd (tabl_make _ (by omega)) ?_
  rw [tabl_len]
  refine bnd (fill_loop (fun k => (k : Int)) (fun _ => 0) (fun j hj => bnd (tabl_setO _ _ hj) rfl)) ?_
  have h2 := hgMap_ (g := g) (fun k => (k : Int)) (n : Int) h
  rw [e] at h2
  obtain ⟨w0, E, I, O⟩ := g
  obtain rfl : w0 = (n : Int) := hw
  exact bnd h2 rfl

/-! ### beside each other -/
def pPar (n m : Nat) (a b : Gra) : Gra :=
  (((n + m : Nat) : Int), a.2.1 ++ b.2.1.map (mpE fun k => (k : Int) + n), a.2.2.1 ++ mp (fun k => (k : Int) + n) b.2.2.1, a.2.2.2 ++ mp (fun k => (k : Int) + n) b.2.2.2)
theorem mp_len (t : Nat → Int) (l : List Int) : (mp t l).length = l.length := by unfold mp; rw [List.length_map]
theorem hgBeside_ {n m : Nat} {a b : Gra} (hn : n ≤ 1000) (hm : m ≤ 1000) (wa : a.1 = (n : Int)) (wb : b.1 = (m : Int)) (ha : Rgd n a) (hb : Rgd m b) : F_spec_hgBeside a b = some (pPar n m a b) := by
  have hmm : maxN = 1099511627776 := rfl
  obtain ⟨w0, E, I, O⟩ := a
  obtain ⟨w1, E', I', O'⟩ := b
  obtain rfl : w0 = (n : Int) := wa
  obtain rfl : w1 = (m : Int) := wb
  have l1 := ha.li; have l2 := ha.lo; have l3 := ha.le; have k1 := hb.li; have k2 := hb.lo; have k3 := hb.le
  dsimp only at l1 l2 l3 k1 k2 k3
  refine bnd (tabl_make _ (by omega)) ?_
  rw [tabl_len]
  refine bnd (fill_loop (fun k => (k : Int) + n) (fun _ => 0) (fun j hj => bnd (addO_of (by omega) (by omega)) (bnd (tabl_setO _ _ hj) rfl))) ?_
  refine bnd (hgOwn_ hn rfl ha) (bnd (hgMap_ _ _ hb) (bnd (addO_of (by dsimp only; omega) (by dsimp only; omega)) (bnd (appO_of ?_) (bnd (appO_of ?_) (bnd (appO_of ?_) ?_)))))
  · unfold mpG; dsimp only; rw [mp_len]; omega
  · unfold mpG; dsimp only; rw [mp_len]; omega
  · unfold mpG; dsimp only; rw [List.length_map]; omega
  · unfold mpG pPar; dsimp only; push_cast; rfl
theorem beside_ {n m : Nat} {a b : Gra} (hn : n ≤ 1000) (hm : m ≤ 1000) (wa : a.1 = (n : Int)) (wb : b.1 = (m : Int)) (ha : Rgd n a) (hb : Rgd m b) : F_impl_Graph_beside a b = some (((n + m : Nat) : Int), a.2.1 ++ b.2.1.map (mpE fun k => (k : Int) + n), [], []) := by
  have hmm : maxN = 1099511627776 := rfl
  have e := mpG_id ha
  obtain ⟨w0, E, I, O⟩ := a
  obtain ⟨w1, E', I', O'⟩ := b
  obtain rfl : w0 = (n : Int) := wa
  obtain rfl : w1 = (m : Int) := wb
  have l3 := ha.le; have k3 := hb.le
  dsimp only at l3 k3
  have h1 := moved_ (g := ((n : Int), E, I, O)) (fun k => (k : Int)) (n : Int) ha
  dsimp only at e
  rw [e] at h1
  refine bnd (addO_of (by dsimp only; omega) (by dsimp only; omega)) (bnd (bnd (upT_ (by omega)) (bnd h1 rfl)) (bnd (bnd (from_ (by omega) (by omega)) (bnd (moved_ _ _ hb) rfl)) (bnd (appO_of ?_) ?_)))
  · unfold mpG; dsimp only; rw [List.length_map]; omega
  · unfold mpG; dsimp only; push_cast; rfl
theorem joined2_ {a b : List Int} (h : a.length + b.length ≤ 1048576) : F_impl_joined [a, b] = some (a ++ b) := by
  have hm : maxN = 1099511627776 := rfl
  refine bnd (a := a ++ b) ?_ rfl
  refine bnd (a := a) (bnd (a := a) rfl (bnd (appO_of (by simp; omega)) rfl)) (bnd (a := a ++ b) (bnd (a := b) rfl (bnd (appO_of (by omega)) rfl)) rfl)
theorem parGraphs_ {n m : Nat} {a b : Gra} (hn : n ≤ 1000) (hm : m ≤ 1000) (wa : a.1 = (n : Int)) (wb : b.1 = (m : Int)) (ha : Rgd n a) (hb : Rgd m b) : F_impl_parGraphs a b = some (pPar n m a b) := by
  obtain ⟨w0, E, I, O⟩ := a
  obtain ⟨w1, E', I', O'⟩ := b
  obtain rfl : w0 = (n : Int) := wa
  obtain rfl : w1 = (m : Int) := wb
  have l1 := ha.li; have l2 := ha.lo; have k1 := hb.li; have k2 := hb.lo
  dsimp only at l1 l2 k1 k2
  refine bnd (beside_ hn hm rfl rfl ha hb) (bnd (from_ (by omega) (by omega)) (bnd (mapped_ _ hb.i (by dsimp only; omega)) (bnd (joined2_ ?_) (bnd (mapped_ _ hb.o (by dsimp only; omega)) (bnd (joined2_ ?_) rfl)))))
  · dsimp only; rw [mp_len]; omega
  · dsimp only; rw [mp_len]; omega
def noG : Gra := (0, [], [], [])
def ifG (g : Gra) : Gra × Bool := if gOk g = true then (g, true) else (noG, false)
theorem hgIf_ (g : Gra) : F_spec_hgIf g = some (ifG g) := by
  refine bnd (hgValid_ g) (stp ?_)
  unfold ifG
  cases gOk g <;> rfl
end Go.Proofs.YtmchibapkddniaaGreat
namespace Go.Proofs.YtmchibapkddniaaGreat

/-! ### classes -/
def joinC (c : Nat → Nat) (u v : Nat) : Nat → Nat := fun w => if c w = max (c u) (c v) then min (c u) (c v) else c w
def clsL (P : List (Int × Int)) : Nat → Nat := P.foldl (fun c p => joinC c p.1.toNat p.2.toNat) id
theorem clsL_snoc (P : List (Int × Int)) (p : Int × Int) : clsL (P ++ [p]) = joinC (clsL P) p.1.toNat p.2.toNat := by unfold clsL; rw [List.foldl_append]; rfl
theorem clsL_take {P : List (Int × Int)} {j : Nat} (hj : j < P.length) : clsL (P.take (j + 1)) = joinC (clsL (P.take j)) P[j].1.toNat P[j].2.toNat := by
  rw [List.take_add_one, List.getElem?_eq_getElem hj]; exact clsL_snoc _ _
structure Cls (c : Nat → Nat) : Prop where
  le : ∀ w, c w ≤ w
  idem : ∀ w, c (c w) = c w
theorem Cls.join {c : Nat → Nat} (h : Cls c) (u v : Nat) : Cls (joinC c u v) := by
  have iu := h.idem u; have iv := h.idem v
  refine ⟨fun w => ?_, fun w => ?_⟩
  · unfold joinC
    have := h.le w
    split <;> omega
  · unfold joinC
    by_cases hw : c w = max (c u) (c v)
    · rw [if_pos hw]
      have hk : c (min (c u) (c v)) = min (c u) (c v) := by
        rcases Nat.le_total (c u) (c v) with h1 | h1
        · rw [Nat.min_eq_left h1, iu]
        · rw [Nat.min_eq_right h1, iv]
      rw [hk]
      split <;> rfl
    · rw [if_neg hw, h.idem w, if_neg hw]
theorem clsL_ok : ∀ P : List (Int × Int), Cls (clsL P) := by
  intro P
  have key : ∀ (P : List (Int × Int)) (c : Nat → Nat), Cls c → Cls (P.foldl (fun c p => joinC c p.1.toNat p.2.toNat) c) := by
    intro P
    induction P with
    | nil => intro c h; exact h
    | cons p P ih => intro c h; exact ih _ (h.join _ _)
  exact key P id ⟨fun w => Nat.le_refl _, fun w => rfl⟩

/-! ### the program's forest -/
structure Forest (n : Nat) (c cls : Nat → Nat) : Prop where
  le : ∀ w, w < n → c w ≤ w
  fix : ∀ w, w < n → c w = w → cls w = w
  up : ∀ w, w < n → cls (c w) = cls w
def tabN (n : Nat) (c : Nat → Nat) : List Int := tabl n fun k => (c k : Int)
theorem root_ {n : Nat} {c cls : Nat → Nat} (h : Forest n c cls) {w : Nat} (hw : w < n) : F_impl_classes_root (tabN n c) (w : Int) = some (cls w : Int) := by
  obtain ⟨t, h1, rfl⟩ := whileO_rel (f := fun (s126 : Int) =>
      (idxO (tabN n c) s126).bind fun a141 =>
      (some (!decide (a141 = s126))).bind fun a143 =>
      cond a143
      ((idxO (tabN n c) s126).bind fun a154 =>
        some (.inl a154))
      (some (.inr s126))) (fun s => ∃ k : Nat, s = (k : Int) ∧ k < n ∧ cls k = cls w) (fun t => t = (cls w : Int)) (fun s => s.toNat) (by
    rintro s ⟨k, rfl, hk, he⟩
    have hi : idxO (tabN n c) (k : Int) = some (c k : Int) := tabl_idx _ hk
    have hle := h.le k hk
    by_cases hf : c k = k
    · refine .inr ⟨(k : Int), bnd hi (stp (cFW (nT (dT (by omega))) rfl)), ?_⟩
      rw [← he, h.fix k hk hf]
    · exact .inl ⟨(c k : Int), bnd hi (stp (cTW (nF (dF (by omega))) (bnd hi rfl))), ⟨c k, rfl, by omega, by rw [h.up k hk, he]⟩, by omega⟩) (s := (w : Int)) ⟨w, rfl, hw, rfl⟩
  exact bnd h1 rfl
theorem Forest.join {n : Nat} {c cls : Nat → Nat} (h : Forest n c cls) (hc : Cls cls) (u v : Nat) : Forest n (fun k => if k = max (cls u) (cls v) then min (cls u) (cls v) else c k) (joinC cls u v) := by
  have iu := hc.idem u; have iv := hc.idem v
  have hm : cls (max (cls u) (cls v)) = max (cls u) (cls v) := by
    rcases Nat.le_total (cls u) (cls v) with h1 | h1
    · rw [Nat.max_eq_right h1, iv]
    · rw [Nat.max_eq_left h1, iu]
  have hk : cls (min (cls u) (cls v)) = min (cls u) (cls v) := by
    rcases Nat.le_total (cls u) (cls v) with h1 | h1
    · rw [Nat.min_eq_left h1, iu]
    · rw [Nat.min_eq_right h1, iv]
  refine ⟨fun w hw => ?_, fun w hw => ?_, fun w hw => ?_⟩
  · have := h.le w hw
    split <;> omega
  · unfold joinC
    intro hf
    by_cases hwm : w = max (cls u) (cls v)
    · rw [if_pos hwm] at hf
      subst hwm
      rw [hm, if_pos rfl]; exact hf
    · rw [if_neg hwm] at hf
      have := h.fix w hw hf
      rw [this, if_neg hwm]
  · unfold joinC
    by_cases hwm : w = max (cls u) (cls v)
    · rw [if_pos hwm, hwm, hm, if_pos rfl, hk]
      split <;> rfl
    · rw [if_neg hwm, h.up w hw]
theorem maxI2_nat (a b : Nat) : maxI2 (a : Int) (b : Int) = ((max a b : Nat) : Int) := by unfold maxI2; split <;> omega
theorem minI2_nat (a b : Nat) : minI2 (a : Int) (b : Int) = ((min a b : Nat) : Int) := by unfold minI2; split <;> omega
theorem join_ {n : Nat} {c cls : Nat → Nat} (h : Forest n c cls) (hc : Cls cls) {u v : Nat} (hu : u < n) (hv : v < n) : F_impl_classes_join (tabN n c) (u : Int) (v : Int) = some (tabN n fun k => if k = max (cls u) (cls v) then min (cls u) (cls v) else c k) := by
  have l1 := hc.le u; have l2 := hc.le v
  refine bnd (root_ h hu) (bnd (root_ h hv) (stp (stp ?_)))
  rw [maxI2_nat, minI2_nat]
  refine bnd (tabl_setO _ _ (by omega)) (congrArg some (tabl_ext fun k _ => ?_))
  show _ = ((if k = max (cls u) (cls v) then min (cls u) (cls v) else c k : Nat) : Int)
  split <;> rfl

/-! ### which classes are used, and their numbers -/
def usedW (cls : Nat → Nat) (W : List Int) (r : Nat) : Bool := W.any fun x => decide (cls x.toNat = r)
def numW (cls : Nat → Nat) (W : List Int) (j : Nat) : Nat := (List.range j).countP fun k => decide (cls k = k) && usedW cls W k
theorem numW_succ (cls : Nat → Nat) (W : List Int) (j : Nat) : numW cls W (j + 1) = numW cls W j + (if (decide (cls j = j) && usedW cls W j) = true then 1 else 0) := by
  unfold numW
  rw [List.range_succ, List.countP_append, List.countP_singleton]
theorem numW_le (cls : Nat → Nat) (W : List Int) (j : Nat) : numW cls W j ≤ j := by
  have := List.countP_le_length (p := fun k => decide (cls k = k) && usedW cls W k) (l := List.range j)
  rwa [List.length_range] at this
def toW (cls : Nat → Nat) (W : List Int) (k : Nat) : Int := if usedW cls W (cls k) = true then (numW cls W (cls k) : Int) else -1
theorem usedW_range {n : Nat} {cls : Nat → Nat} {W : List Int} (h : inRg n W) (r : Nat) : ((List.range n).any fun w => decide ((w : Int) ∈ W) && decide (cls w = r)) = usedW cls W r := by
  unfold usedW
  rw [Bool.eq_iff_iff, List.any_eq_true, List.any_eq_true]
  constructor
  · rintro ⟨w, hw, hb⟩
    simp only [Bool.and_eq_true, decide_eq_true_eq] at hb
    exact ⟨(w : Int), hb.1, dT (by rw [Int.toNat_natCast]; exact hb.2)⟩
  · rintro ⟨x, hx, hb⟩
    have hb := of_decide_eq_true hb
    have := h x hx
    refine ⟨x.toNat, List.mem_range.2 (by omega), ?_⟩
    have e : ((x.toNat : Nat) : Int) = x := by omega
    rw [e, dT hx, dT hb]; rfl
/-- the program's marks of the classes that occur -/
theorem glue1_ {n : Nat} {c cls : Nat → Nat} (h : Forest n c cls) (hc : Cls cls) {l : List Int} (hl : inRg n l) (d : List Int) : F_impl_Graph_glue_1 l (tabl n (usedW cls d)) (tabN n c) = some (tabl n (usedW cls (d ++ l))) := by
  have := forS_is (n := l.length) (fun j => tabl n (usedW cls (d ++ l.take j))) (f := fun (k6 : Nat) (s53 : List Bool) =>
      (idxO l ((k6 : Nat) : Int)).bind fun a68 =>
      (F_impl_classes_root (tabN n c) a68).bind fun y71 =>
      (setO s53 y71 true).bind fun a80 =>
      some a80) (fun j hj => by
    have hx := hl _ (List.getElem_mem hj)
    obtain ⟨m, hm⟩ : ∃ m : Nat, l[j] = (m : Int) := ⟨l[j].toNat, by omega⟩
    have hle := hc.le m
    refine bnd (idxO_of (List.getElem?_eq_getElem hj)) ?_
    rw [hm]
    refine bnd (root_ h (by omega)) (bnd (tabl_setO _ _ (by omega)) (congrArg some (tabl_ext fun k _ => ?_)))
    have e : l.take (j + 1) = l.take j ++ [(m : Int)] := by rw [List.take_add_one, List.getElem?_eq_getElem hj, hm]; rfl
    rw [e]
    unfold usedW
    rw [← List.append_assoc, List.any_append (xs := d ++ l.take j)]
    simp only [List.any_cons, List.any_nil, Bool.or_false, Int.toNat_natCast]
    by_cases hk : k = cls m
    · rw [if_pos hk, dT hk.symm, Bool.or_true]
    · rw [if_neg hk, dF (fun e => hk e.symm), Bool.or_false])
  rw [List.take_zero, List.append_nil, List.take_length] at this
  exact bnd this rfl
theorem glueL_ {n : Nat} {c cls : Nat → Nat} (h : Forest n c cls) (hc : Cls cls) {g : Gra} (hg : Rgd n g) : F_impl_Graph_lists_impl_Graph_glue_1 g (tabl n fun _ => false) (tabN n c) = some (tabl n (usedW cls (allW g))) := by
  obtain ⟨w0, E, I, O⟩ := g
  have h0 : (tabl n fun _ => false) = tabl n (usedW cls []) := rfl
  rw [h0]
  refine bnd (glue1_ h hc hg.i []) (bnd (glue1_ h hc hg.o ([] ++ I)) ?_)
  have := forS_is (n := E.length) (fun j => tabl n (usedW cls ([] ++ I ++ O ++ ((E.take j).map fun e => edI e ++ edO e).flatten))) (f := fun (k17 : Nat) (s70 : List Bool) =>
      (idxO E ((k17 : Nat) : Int)).bind fun a85 =>
      (F_impl_Graph_glue_1 a85.2.2.1 s70 (tabN n c)).bind fun y97 =>
      (F_impl_Graph_glue_1 a85.2.2.2 y97 (tabN n c)).bind fun y100 =>
      some y100) (fun j hj => by
    have e1 : [] ++ I ++ O ++ ((E.take (j + 1)).map fun e => edI e ++ edO e).flatten = [] ++ I ++ O ++ ((E.take j).map fun e => edI e ++ edO e).flatten ++ edI E[j] ++ edO E[j] := by
      rw [List.take_add_one, List.getElem?_eq_getElem hj, List.map_append, List.flatten_append]
      simp only [Option.toList_some, List.map_cons, List.map_nil, List.flatten_cons, List.flatten_nil, List.append_nil, List.append_assoc]
    have he := hg.e _ (List.getElem_mem hj)
    rw [e1]
    exact bnd (idxO_of (List.getElem?_eq_getElem hj)) (bnd (glue1_ h hc he.1 _) (bnd (glue1_ h hc he.2 _) rfl)))
  simp only [List.take_zero, List.take_length, List.map_nil, List.flatten_nil, List.append_nil] at this
  refine bnd this ?_
  unfold allW
  simp only [List.nil_append]
def gluG (g : Gra) (n : Nat) (P : List (Int × Int)) : Gra := mpG (numW (clsL P) (allW g) n : Int) (toW (clsL P) (allW g)) g
theorem glue_ {n : Nat} {g : Gra} {P : List (Int × Int)} (hn : n ≤ 1000) (hw : g.1 = (n : Int)) (hg : Rgd n g) (hP : ∀ p ∈ P, (0 ≤ p.1 ∧ p.1 < (n : Int)) ∧ (0 ≤ p.2 ∧ p.2 < (n : Int))) :
    F_impl_Graph_glue g P = some (gluG g n P, tabl n (toW (clsL P) (allW g))) := by
  have hm : maxN = 1099511627776 := rfl
  obtain ⟨w0, E, I, O⟩ := g
  obtain rfl : w0 = (n : Int) := hw
  have hcl := clsL_ok P
  obtain ⟨s, a1, c, rfl, hF⟩ := forS_rel (n := P.length) (s := tabl n fun k => (k : Int)) (f := fun (k20 : Nat) (s59 : List Int) =>
      (idxO P ((k20 : Nat) : Int)).bind fun a74 =>
      (F_impl_classes_join s59 a74.1 a74.2).bind fun y82 =>
      some y82) (fun j s => ∃ c, s = tabN n c ∧ Forest n c (clsL (P.take j))) ⟨id, rfl, fun w _ => Nat.le_refl _, fun w _ _ => rfl, fun w _ => rfl⟩ (by
    rintro j s hj ⟨c, rfl, hF⟩
    obtain ⟨p1, p2⟩ := hP _ (List.getElem_mem hj)
    obtain ⟨u, hu⟩ : ∃ u : Nat, P[j].1 = (u : Int) := ⟨P[j].1.toNat, by omega⟩
    obtain ⟨v, hv⟩ : ∃ v : Nat, P[j].2 = (v : Int) := ⟨P[j].2.toNat, by omega⟩
    have hj2 := join_ hF (clsL_ok _) (u := u) (v := v) (by omega) (by omega)
    rw [← hu, ← hv] at hj2
    refine ⟨_, bnd (idxO_of (List.getElem?_eq_getElem hj)) (bnd hj2 rfl), _, rfl, ?_⟩
    rw [clsL_take hj, hu, hv, Int.toNat_natCast, Int.toNat_natCast]
    exact hF.join (clsL_ok _) u v)
  rw [List.take_length] at hF
  generalize hcls : clsL P = cls at hcl hF
  generalize hW : allW ((n : Int), E, I, O) = W
  have hG := glueL_ hF hcl hg
  rw [hW] at hG
  have hz : F_impl_zeros (n : Int) = some (tabl n fun _ => (0 : Int)) := by rw [zeros_ (by omega), tabl_rep]
  have fin := forS_is (n := n) (fun j => (tabl n (tabF (toW cls W) (fun _ => 0) j), (numW cls W j : Int))) (f := fun (k106 : Nat) (s223 : List Int × Int) =>
      (F_impl_classes_root (tabN n c) ((k106 : Nat) : Int)).bind fun y232 =>
      (idxO (tabl n (usedW cls W)) y232).bind fun a241 =>
      (some (!a241)).bind fun a243 =>
      cond a243
      ((setO s223.1 ((k106 : Nat) : Int) (-1)).bind fun a285 =>
        some (a285, s223.2))
      ((some (decide (y232 < ((k106 : Nat) : Int)))).bind fun a246 =>
        cond a246
        ((idxO s223.1 y232).bind fun a267 =>
          (setO s223.1 ((k106 : Nat) : Int) a267).bind fun a275 =>
          some (a275, s223.2))
        ((setO s223.1 ((k106 : Nat) : Int) s223.2).bind fun a255 =>
          (addO s223.2 1).bind fun a258 =>
          some (a255, a258)))) (fun j hj => by
    have hle := hcl.le j
    have hid := hcl.idem j
    have hnl := numW_le cls W j
    have hns := numW_succ cls W j
    refine bnd (root_ hF hj) (bnd (tabl_idx _ (by omega)) (stp ?_))
    rw [← tabF_step]
    cases hu : usedW cls W (cls j) with
    | false =>
      have ht : toW cls W j = -1 := by unfold toW; rw [hu]; rfl
      have hn0 : numW cls W (j + 1) = numW cls W j := by
        rw [hns]
        by_cases he : cls j = j
        · rw [he] at hu; rw [hu, Bool.and_false]; rfl
        · rw [dF he]; rfl
      refine cTW rfl (bnd (tabl_setO _ _ hj) ?_)
      rw [ht, hn0]
    | true =>
      have ht : toW cls W j = (numW cls W (cls j) : Int) := by unfold toW; rw [hu]; rfl
      by_cases he : cls j = j
      · have hn1 : numW cls W (j + 1) = numW cls W j + 1 := by
          rw [hns, dT he]; rw [he] at hu; rw [hu]; rfl
        refine cFW rfl (stp (cFW (dF (by omega)) (bnd (tabl_setO _ _ hj) (bnd (addO_of (by dsimp only; omega) (by dsimp only; omega)) ?_))))
        rw [ht, he, hn1]; push_cast; rfl
      · have hn0 : numW cls W (j + 1) = numW cls W j := by rw [hns, dF he]; rfl
        have hlt : cls j < j := by omega
        refine cFW rfl (stp (cTW (dT (by omega)) (bnd (tabl_idx _ (by omega)) (bnd (tabl_setO _ _ hj) ?_))))
        have e : tabF (toW cls W) (fun _ => 0) j (cls j) = toW cls W j := by
          unfold tabF; rw [if_pos hlt]; unfold toW; rw [hid]
        rw [e, hn0])
  have e0 : tabl n (tabF (toW cls W) (fun _ => 0) 0) = tabl n fun _ => 0 := tabl_ext fun k _ => by unfold tabF; rw [if_neg (by omega)]
  have e1 : tabl n (tabF (toW cls W) (fun _ => 0) n) = tabl n (toW cls W) := tabl_ext fun k hk => by unfold tabF; rw [if_pos hk]
  have e2 : numW cls W 0 = 0 := rfl
  rw [e0, e1, e2] at fin
  refine bnd (upT_ (by omega)) (bnd a1 (bnd (tabl_make _ (by omega)) (bnd hG (bnd hz ?_))))
  rw [tabl_len]
  refine bnd fin (bnd (moved_ _ _ hg) ?_)
  unfold gluG
  rw [hcls, hW]

theorem inRg_app' {n : Nat} {a b : List Int} (ha : inRg n a) (hb : inRg n b) : inRg n (a ++ b) := by
  intro x hx
  rcases List.mem_append.1 hx with h | h
  · exact ha x h
  · exact hb x h
/-! ### the reference's classes -/
theorem l1Most_ (a b : Nat) : F_spec_l1Most (a : Int) (b : Int) = some ((max a b : Nat) : Int) := by
  unfold F_spec_l1Most
  by_cases h : b < a
  · refine stp (cTW (dT (by omega)) ?_); rw [Nat.max_eq_left (by omega)]
  · refine stp (cFW (dF (by omega)) ?_); rw [Nat.max_eq_right (by omega)]
theorem l1Least_ (a b : Nat) : F_spec_l1Least (a : Int) (b : Int) = some ((min a b : Nat) : Int) := by
  unfold F_spec_l1Least
  by_cases h : a < b
  · refine stp (cTW (dT (by omega)) ?_); rw [Nat.min_eq_left (by omega)]
  · refine stp (cFW (dF (by omega)) ?_); rw [Nat.min_eq_right (by omega)]
theorem cnt_mem {E : List Edg} {I O : List Int} {w : Int} (j : Nat) : (j : Int) ∈ allW (w, E, I, O) ↔ (0 : Int) < ((I.count (j : Int) + cntE E edO j : Nat) : Int) + ((O.count (j : Int) + cntE E edI j : Nat) : Int) := by
  rw [mem_allW]
  dsimp only
  have z1 : I.count (j : Int) = 0 ↔ ¬ (j : Int) ∈ I := List.count_eq_zero
  have z2 : O.count (j : Int) = 0 ↔ ¬ (j : Int) ∈ O := List.count_eq_zero
  have z3 := mem_cnt (E := E) (s := edI) (k := j)
  have z4 := mem_cnt (E := E) (s := edO) (k := j)
  constructor
  · intro h
    refine Decidable.byContradiction fun h0 => ?_
    have y1 := z1.1 (by omega); have y2 := z2.1 (by omega); have y3 := z3.1 (by omega); have y4 := z4.1 (by omega)
    rcases h with h | h | ⟨e, he, h | h⟩
    · exact y1 h
    · exact y2 h
    · exact y3 ⟨e, he, h⟩
    · exact y4 ⟨e, he, h⟩
  · intro h
    refine Decidable.byContradiction fun hc => ?_
    simp only [not_or] at hc
    have y1 := z1.2 hc.1; have y2 := z2.2 hc.2.1
    have y3 := z3.2 (fun ⟨e, he, hk⟩ => hc.2.2 ⟨e, he, .inl hk⟩)
    have y4 := z4.2 (fun ⟨e, he, hk⟩ => hc.2.2 ⟨e, he, .inr hk⟩)
    omega
theorem hgGlued_ {n : Nat} {g : Gra} {A B : List Int} (hn : n ≤ 1000) (hw : g.1 = (n : Int)) (hg : Rgd n g) (hA : inRg n A) (hB : inRg n B) (hl : A.length = B.length) :
    F_spec_hgGlued g A B = some (gluG g n (A.zip B), tabl n (toW (clsL (A.zip B)) (allW g))) := by
  have hm : maxN = 1099511627776 := rfl
  obtain ⟨w0, E, I, O⟩ := g
  obtain rfl : w0 = (n : Int) := hw
  have hcl := clsL_ok (A.zip B)
  have hzl : (A.zip B).length = A.length := by rw [List.length_zip, hl, Nat.min_self]
  have li := hg.li; have lo := hg.lo; have ti := hg.ti; have to := hg.to
  dsimp only at li lo ti to
  -- the classes
  have a1 := forS_is (n := A.length) (fun j => tabN n (clsL ((A.zip B).take j))) (f := fun (k62 : Nat) (s337 : List Int) =>
      (idxO A ((k62 : Nat) : Int)).bind fun a353 =>
      (idxO B ((k62 : Nat) : Int)).bind fun a361 =>
      (idxO s337 a353).bind fun a369 =>
      (idxO s337 a361).bind fun a377 =>
      (forS (fun (k379 : Nat) (s440 : List Int) =>
          (idxO s440 ((k379 : Nat) : Int)).bind fun a456 =>
          (F_spec_l1Most a369 a377).bind fun y458 =>
          (some (decide (a456 = y458))).bind fun a461 =>
          cond a461
          ((F_spec_l1Least a369 a377).bind fun y465 =>
            (setO s440 ((k379 : Nat) : Int) y465).bind fun a474 =>
            some a474)
          (some s440)) s337.length 0 s337).bind fun (s479 : List Int) =>
      some s479) (fun j hj => by
    have hjz : j < (A.zip B).length := by omega
    have hz : (A.zip B)[j] = (A[j], B[j]'(by omega)) := List.getElem_zip
    have h1 := hA _ (List.getElem_mem hj)
    have h2 := hB _ (List.getElem_mem (show j < B.length by omega))
    obtain ⟨u, hu⟩ : ∃ u : Nat, A[j] = (u : Int) := ⟨A[j].toNat, by omega⟩
    obtain ⟨v, hv⟩ : ∃ v : Nat, B[j]'(by omega) = (v : Int) := ⟨(B[j]'(by omega)).toNat, by omega⟩
    have hun : u < n := by omega
    have hvn : v < n := by omega
    rw [clsL_take hjz, hz]
    dsimp only
    rw [hu, hv, Int.toNat_natCast, Int.toNat_natCast]
    generalize clsL ((A.zip B).take j) = cls
    refine bnd (idxO_of (List.getElem?_eq_getElem hj)) (bnd (idxO_of (List.getElem?_eq_getElem (show j < B.length by omega))) ?_)
    rw [hu, hv]
    refine bnd (tabl_idx _ hun) (bnd (tabl_idx _ hvn) (bnd (a := tabN n (joinC cls u v)) ?_ rfl))
    unfold tabN
    rw [tabl_len]
    refine fill_loop (fun k => (joinC cls u v k : Int)) (fun k => (cls k : Int)) (fun k hk => ?_)
    have e : tabF (fun k => (joinC cls u v k : Int)) (fun k => (cls k : Int)) k k = (cls k : Int) := by unfold tabF; rw [if_neg (by omega)]
    refine bnd (tabl_idx _ hk) ?_
    rw [e]
    refine bnd (l1Most_ _ _) (stp ?_)
    by_cases hc : cls k = max (cls u) (cls v)
    · refine cTW (dT (by omega)) (bnd (l1Least_ _ _) (bnd (tabl_setO _ _ hk) ?_))
      unfold joinC; rw [if_pos hc]
    · refine cFW (dF (by omega)) (congrArg some (tabl_ext fun q _ => ?_))
      by_cases hq : q = k
      · subst hq; rw [if_pos rfl, e]; unfold joinC; rw [if_neg hc]
      · rw [if_neg hq])
  rw [show clsL ((A.zip B).take 0) = id from by rw [List.take_zero]; rfl, show (A.zip B).take A.length = A.zip B from by rw [← hzl, List.take_length]] at a1
  generalize hcls : clsL (A.zip B) = cls at hcl a1
  generalize hW : allW ((n : Int), E, I, O) = W
  have hWr : inRg n W := by
    rw [← hW]
    unfold allW
    refine inRg_app' (inRg_app' hg.i hg.o) (fun x hx => ?_)
    obtain ⟨l, hl', hx⟩ := List.mem_flatten.1 hx
    obtain ⟨e, he, rfl⟩ := List.mem_map.1 hl'
    rcases List.mem_append.1 hx with h | h
    · exact (hg.e e he).1 x h
    · exact (hg.e e he).2 x h
  -- the classes that are used
  have a2 := forS_is (n := n) (fun j => tabl n fun r => (List.range j).any fun w => decide ((w : Int) ∈ W) && decide (cls w = r)) (f := fun (k497 : Nat) (s582 : List Bool) =>
      (idxO (tabN n cls) ((k497 : Nat) : Int)).bind fun a597 =>
      (idxO (tabl n fun k => ((I.count (k : Int) + cntE E edO k : Nat) : Int)) ((k497 : Nat) : Int)).bind fun a606 =>
      (idxO (tabl n fun k => ((O.count (k : Int) + cntE E edI k : Nat) : Int)) ((k497 : Nat) : Int)).bind fun a614 =>
      (addO a606 a614).bind fun a616 =>
      (some (decide ((0 : Int) < a616))).bind fun a618 =>
      cond a618
      ((setO s582 a597 true).bind fun a628 =>
        some a628)
      (some s582)) (fun j hj => by
    have hle := hcl.le j
    have c1 : I.count (j : Int) ≤ I.length := List.count_le_length
    have c2 : O.count (j : Int) ≤ O.length := List.count_le_length
    have c3 : cntE E edI j ≤ totE E edI := List.count_le_length
    have c4 : cntE E edO j ≤ totE E edO := List.count_le_length
    have hmem := cnt_mem (E := E) (I := I) (O := O) (w := (n : Int)) j
    rw [hW] at hmem
    refine bnd (tabl_idx _ hj) (bnd (tabl_idx _ hj) (bnd (tabl_idx _ hj) (bnd (addO_of (by omega) (by omega)) (stp ?_))))
    by_cases hin : (j : Int) ∈ W
    · refine cTW (dT (hmem.1 hin)) (bnd (tabl_setO _ _ (by omega)) (congrArg some (tabl_ext fun k _ => ?_)))
      rw [List.range_succ, List.any_append]
      simp only [List.any_cons, List.any_nil, Bool.or_false, dT hin, Bool.true_and]
      by_cases hk : k = cls j
      · rw [if_pos hk, dT hk.symm, Bool.or_true]
      · rw [if_neg hk, dF (fun e => hk e.symm), Bool.or_false]
    · refine cFW (dF (fun h => hin (hmem.2 h))) (congrArg some (tabl_ext fun k _ => ?_))
      rw [List.range_succ, List.any_append]
      simp only [List.any_cons, List.any_nil, Bool.or_false, dF hin, Bool.false_and])
  have e2 : (tabl n fun r => (List.range n).any fun w => decide ((w : Int) ∈ W) && decide (cls w = r)) = tabl n (usedW cls W) := tabl_ext fun k _ => usedW_range hWr k
  have e20 : (tabl n fun r => (List.range 0).any fun w => decide ((w : Int) ∈ W) && decide (cls w = r)) = tabl n fun _ => false := rfl
  rw [e2, e20] at a2
  -- the numbers of the classes
  have a3 := forS_is (n := n) (fun j => (tabl n (tabF (fun k => if (decide (cls k = k) && usedW cls W k) = true then (numW cls W k : Int) else 0) (fun _ => 0) j), (numW cls W j : Int))) (f := fun (k640 : Nat) (s767 : List Int × Int) =>
      ((idxO (tabN n cls) ((k640 : Nat) : Int)).bind fun a808 =>
        (some (decide (a808 = ((k640 : Nat) : Int)))).bind fun a810 =>
        cond a810
        ((idxO (tabl n (usedW cls W)) ((k640 : Nat) : Int)).bind fun a820 =>
          some a820)
        (some false)).bind fun (s796 : Bool) =>
      cond s796
      ((setO s767.1 ((k640 : Nat) : Int) s767.2).bind fun a832 =>
        (addO s767.2 1).bind fun a835 =>
        some (a832, a835))
      (some (s767.1, s767.2))) (fun j hj => by
    have hns := numW_succ cls W j
    have hnl := numW_le cls W j
    have hcond : ((idxO (tabN n cls) (j : Int)).bind fun a808 =>
        (some (decide (a808 = (j : Int)))).bind fun a810 =>
        cond a810
        ((idxO (tabl n (usedW cls W)) (j : Int)).bind fun a820 =>
          some a820)
        (some false)) = some (decide (cls j = j) && usedW cls W j) := by
      refine bnd (tabl_idx _ hj) (stp ?_)
      by_cases he : cls j = j
      · rw [dT he]; exact cTW (dT (by omega)) (bnd (tabl_idx _ hj) rfl)
      · rw [dF he]; exact cFW (dF (by omega)) rfl
    refine bnd hcond ?_
    rw [← tabF_step]
    cases hb : (decide (cls j = j) && usedW cls W j) with
    | true =>
      rw [hb] at hns
      refine cTW rfl (bnd (tabl_setO _ _ hj) (bnd (addO_of (by dsimp only; omega) (by dsimp only; omega)) ?_))
      rw [hns, if_pos rfl, if_pos rfl]; push_cast; rfl
    | false =>
      rw [hb] at hns
      refine cFW rfl (congrArg some (Prod.ext (tabl_ext fun k _ => ?_) ?_))
      · by_cases hk : k = j
        · subst hk; rw [if_pos rfl, if_neg (by simp)]; unfold tabF; rw [if_neg (by omega)]
        · rw [if_neg hk]
      · show (numW cls W j : Int) = (numW cls W (j + 1) : Int); rw [hns, if_neg (by simp)]; rfl)
  have e3 : ∀ f : Nat → Int, tabl n (tabF f (fun _ => 0) n) = tabl n f := fun f => tabl_ext fun k hk => by unfold tabF; rw [if_pos hk]
  have e30 : ∀ f : Nat → Int, tabl n (tabF f (fun _ => 0) 0) = tabl n fun _ => 0 := fun f => tabl_ext fun k hk => by unfold tabF; rw [if_neg (by omega)]
  rw [e3, e30, show numW cls W 0 = 0 from rfl] at a3
  -- .. and of all wires
  have a4 := fill_loop (n := n) (toW cls W) (fun k => if (decide (cls k = k) && usedW cls W k) = true then (numW cls W k : Int) else 0) (g := fun (k841 : Nat) (s954 : List Int) =>
      (idxO (tabN n cls) ((k841 : Nat) : Int)).bind fun a969 =>
      (idxO s954 a969).bind fun a977 =>
      (setO s954 ((k841 : Nat) : Int) a977).bind fun a985 =>
      (idxO (tabN n cls) ((k841 : Nat) : Int)).bind fun a994 =>
      (idxO (tabl n (usedW cls W)) a994).bind fun a1002 =>
      (some (!a1002)).bind fun a1004 =>
      cond a1004
      ((setO a985 ((k841 : Nat) : Int) (-1)).bind fun a1014 =>
        some a1014)
      (some a985)) (fun j hj => by
    have hle := hcl.le j
    have hid := hcl.idem j
    refine bnd (tabl_idx _ hj) (bnd (tabl_idx _ (by omega)) (bnd (tabl_setO _ _ hj) (bnd (tabl_idx _ hj) (bnd (tabl_idx _ (by omega)) (stp ?_)))))
    cases hu : usedW cls W (cls j) with
    | false =>
      have ht : toW cls W j = -1 := by unfold toW; rw [hu]; rfl
      refine cTW rfl (bnd (tabl_setO _ _ hj) (congrArg some (tabl_ext fun k _ => ?_)))
      rw [ht]
      by_cases hk : k = j
      · rw [if_pos hk, if_pos hk]
      · rw [if_neg hk, if_neg hk, if_neg hk]
    | true =>
      have ht : toW cls W j = (numW cls W (cls j) : Int) := by unfold toW; rw [hu]; rfl
      refine cFW rfl (congrArg some (tabl_ext fun k _ => ?_))
      by_cases hk : k = j
      · rw [if_pos hk, if_pos hk, ht]
        unfold tabF
        by_cases he : cls j < j
        · rw [if_pos he]; unfold toW; rw [hid, hu]; rfl
        · have he : cls j = j := by omega
          rw [he] at hu ⊢
          rw [if_neg (by omega)]
          show (if (decide (cls j = j) && usedW cls W j) = true then (numW cls W j : Int) else 0) = (numW cls W j : Int)
          rw [dT he, hu]; rfl
      · rw [if_neg hk, if_neg hk])
  refine bnd (tabl_make _ (by omega)) ?_
  rw [tabl_len]
  refine bnd (fill_loop (fun k => (k : Int)) (fun _ => 0) (fun j hj => bnd (tabl_setO _ _ hj) rfl)) ?_
  refine bnd a1 ?_
  refine bnd (hgCounts_ (E := E) (I := I) (O := O) (by omega) hg.i hg.o hg.e (by omega)) (bnd (tabl_make _ (by omega)) ?_)
  have hlN : (tabN n cls).length = n := tabl_len _ _
  rw [hlN]
  refine bnd a2 (bnd (tabl_make _ (by omega)) ?_)
  rw [tabl_len]
  refine bnd a3 ?_
  dsimp only
  rw [tabl_len]
  refine bnd a4 (bnd (hgMap_ _ _ hg) ?_)
  unfold gluG
  rw [hcls, hW]
end Go.Proofs.YtmchibapkddniaaGreat
namespace Go.Proofs.YtmchibapkddniaaGreat

def shf (n : Nat) : Nat → Int := fun k => (k : Int) + n
theorem inRg_shf {n m : Nat} {l : List Int} (h : inRg m l) : inRg (n + m) (mp (shf n) l) := by
  intro x hx
  obtain ⟨y, hy, rfl⟩ := List.mem_map.1 hx
  have := h y hy
  unfold shf
  omega
theorem inRg_wide {n m : Nat} {l : List Int} (h : inRg n l) : inRg (n + m) l := fun x hx => by have := h x hx; omega
theorem totE_map (s : Edg → List Int) (t : Nat → Int) (hs : ∀ e, (s (mpE t e)).length = (s e).length) : ∀ E : List Edg, totE (E.map (mpE t)) s = totE E s := by
  intro E
  induction E with
  | nil => rfl
  | cons e E ih =>
    unfold totE at ih ⊢
    simp only [List.map_cons, List.flatten_cons, List.length_append]
    rw [hs, ih]
theorem totE_app (s : Edg → List Int) (E E' : List Edg) : totE (E ++ E') s = totE E s + totE E' s := by
  unfold totE; rw [List.map_append, List.flatten_append, List.length_append]
theorem edI_mp (t : Nat → Int) (e : Edg) : edI (mpE t e) = mp t (edI e) := rfl
theorem edO_mp (t : Nat → Int) (e : Edg) : edO (mpE t e) = mp t (edO e) := rfl
def befG (n m : Nat) (a b : Gra) : Gra := (((n + m : Nat) : Int), a.2.1 ++ b.2.1.map (mpE (shf n)), a.2.2.1, mp (shf n) b.2.2.2)
theorem befG_rgd {n m : Nat} {a b : Gra} (ha : GOk a n) (hb : GOk b m) : Rgd (n + m) (befG n m a b) := by
  have h1 := ha.e60; have h2 := hb.e60; have h3 := ha.i12; have h4 := hb.o12; have h5 := ha.ti; have h6 := ha.to; have h7 := hb.ti; have h8 := hb.to
  refine ⟨inRg_wide ha.i, inRg_shf hb.o, fun e he => ?_, by unfold befG; dsimp only; omega, by unfold befG; dsimp only; rw [mp_len]; omega, by unfold befG; dsimp only; rw [List.length_append, List.length_map]; omega, ?_, ?_⟩
  · rcases List.mem_append.1 he with h | h
    · exact ⟨inRg_wide (ha.e e h).1, inRg_wide (ha.e e h).2⟩
    · obtain ⟨e', he', rfl⟩ := List.mem_map.1 h
      exact ⟨inRg_shf (hb.e e' he').1, inRg_shf (hb.e e' he').2⟩
  · unfold befG; dsimp only
    rw [totE_app, totE_map edI _ (fun e => by rw [edI_mp, mp_len])]; omega
  · unfold befG; dsimp only
    rw [totE_app, totE_map edO _ (fun e => by rw [edO_mp, mp_len])]; omega
def pSeq (n m : Nat) (a b : Gra) : Gra := gluG (befG n m a b) (n + m) (a.2.2.2.zip (mp (shf n) b.2.2.1))
theorem hgSeq_ {n m : Nat} {a b : Gra} (ha : GOk a n) (hb : GOk b m) (hl : a.2.2.2.length = b.2.2.1.length) : F_spec_hgSeq a b = some (pSeq n m a b) := by
  have hmm : maxN = 1099511627776 := rfl
  have n1 := ha.n100; have m1 := hb.n100
  have hB := hgBeside_ (by omega) (by omega) ha.w hb.w ha.rgd hb.rgd
  have hR := befG_rgd ha hb
  have oa := ha.o12; have ib := hb.i12; have ia := ha.i12; have ob := hb.o12
  have hG := hgGlued_ (A := a.2.2.2) (B := mp (shf n) b.2.2.1) (by omega) rfl hR (inRg_wide ha.o) (inRg_shf hb.i) (by rw [mp_len, hl])
  obtain ⟨w0, E, I, O⟩ := a
  obtain ⟨w1, E', I', O'⟩ := b
  obtain rfl : w0 = (n : Int) := ha.w
  obtain rfl : w1 = (m : Int) := hb.w
  dsimp only at oa ib ia ob hl
  have sl1 : ∀ x y : List Int, sliceO (x ++ y) 0 ((x.length : Nat) : Int) = some x := fun x y => by
    unfold sliceO; rw [if_pos ⟨by omega, by omega, by rw [List.length_append]; omega⟩]; simp
  have sl2 : ∀ x y : List Int, sliceO (x ++ y) ((x.length : Nat) : Int) (((x ++ y).length : Nat) : Int) = some y := fun x y => by
    unfold sliceO; rw [if_pos ⟨by omega, by rw [List.length_append]; omega, by omega⟩]
    rw [Int.toNat_natCast, Int.toNat_natCast, List.drop_left, List.take_of_length_le (by rw [List.length_append]; omega)]
  refine bnd hB ?_
  unfold pPar
  refine bnd (sl1 O _) (bnd (sl2 I _) (bnd (own_ (by omega)) (bnd (own_ (by rw [mp_len]; dsimp only; omega)) (bnd (sl1 I _) (bnd (sl2 O _) (bnd (a := pSeq n m ((n : Int), E, I, O) ((m : Int), E', I', O')) ?_ rfl))))))
  exact bnd hG rfl
theorem seqGraphs_ {n m : Nat} {a b : Gra} (ha : GOk a n) (hb : GOk b m) (hl : a.2.2.2.length = b.2.2.1.length) : F_impl_seqGraphs a b = some (pSeq n m a b) := by
  have hmm : maxN = 1099511627776 := rfl
  have n1 := ha.n100; have m1 := hb.n100
  have hB := beside_ (by omega) (by omega) ha.w hb.w ha.rgd hb.rgd
  have hR := befG_rgd ha hb
  have oa := ha.o12; have ib := hb.i12; have ia := ha.i12; have ob := hb.o12
  have hP : ∀ p ∈ a.2.2.2.zip (mp (shf n) b.2.2.1), (0 ≤ p.1 ∧ p.1 < ((n + m : Nat) : Int)) ∧ (0 ≤ p.2 ∧ p.2 < ((n + m : Nat) : Int)) := fun p hp => by
    obtain ⟨x, y⟩ := p
    have h := List.of_mem_zip hp
    exact ⟨inRg_wide ha.o x h.1, inRg_shf hb.i y h.2⟩
  have hG := glue_ (P := a.2.2.2.zip (mp (shf n) b.2.2.1)) (by omega) rfl hR hP
  have hO := hb.o; have hAO := ha.o; have hBI := hb.i
  obtain ⟨w0, E, I, O⟩ := a
  obtain ⟨w1, E', I', O'⟩ := b
  obtain rfl : w0 = (n : Int) := ha.w
  obtain rfl : w1 = (m : Int) := hb.w
  dsimp only at oa ib ia ob hl hO hAO hBI
  have hzl : (O.zip (mp (shf n) I')).length = O.length := by rw [List.length_zip, mp_len, hl, Nat.min_self]
  have loop := forS_is (n := O.length) (fun j => (O.zip (mp (shf n) I')).take j) (f := fun (k32 : Nat) (s98 : List (Int × Int)) =>
      (idxO O ((k32 : Nat) : Int)).bind fun a114 =>
      (idxO I' ((k32 : Nat) : Int)).bind fun a123 =>
      (addO (n : Int) a123).bind fun a125 =>
      (appO s98 [(a114, a125)]).bind fun a133 =>
      some a133) (fun j hj => by
    have hji : j < I'.length := by omega
    have hx := hBI _ (List.getElem_mem hji)
    have e : (O.zip (mp (shf n) I')).take (j + 1) = (O.zip (mp (shf n) I')).take j ++ [(O[j], (n : Int) + I'[j])] := by
      rw [List.take_add_one, List.getElem?_eq_getElem (by omega), List.getElem_zip]
      congr 2
      refine congrArg (fun z => [z]) (Prod.ext rfl ?_)
      unfold mp shf
      rw [List.getElem_map]
      show ((I'[j].toNat : Nat) : Int) + n = _
      omega
    rw [e]
    exact bnd (idxO_of (List.getElem?_eq_getElem hj)) (bnd (idxO_of (List.getElem?_eq_getElem hji)) (bnd (addO_of (by omega) (by omega)) (bnd (appO_of (by simp; omega)) rfl))))
  rw [List.take_zero, show (O.zip (mp (shf n) I')).take O.length = O.zip (mp (shf n) I') from by rw [← hzl, List.take_length]] at loop
  exact bnd hB (bnd loop (bnd (clone_ (by dsimp only; omega)) (bnd (from_ (by omega) (by omega)) (bnd (mapped_ _ hO (by dsimp only; omega)) (bnd hG rfl)))))
end Go.Proofs.YtmchibapkddniaaGreat
namespace Go.Proofs.YtmchibapkddniaaGreat
instance : Nice ByteArray := ⟨fun s => (s.size : Int) ≤ 9223372036854775807⟩
def byD (n : Int) : ByteArray := ofBytes ([(48 + n.tmod 10) % 256] : List Int)
def mDig : Nat → Int → ByteArray → ByteArray
  | 0, _, s => s
  | f + 1, n, s => if 0 < n then mDig f (n.tdiv 10) (byD n ++ s) else s
def mText (k : Int) : ByteArray := if k ≤ 0 then ⟨#[109, 48]⟩ else ⟨#[109]⟩ ++ mDig (k.toNat + 1) k .empty
theorem catO_of {a b : ByteArray} (h : a.size + b.size ≤ 9223372036854775807) : catO a b = some (a ++ b) := if_pos (by omega)
theorem byD_size (n : Int) : (byD n).size = 1 := rfl
theorem markText_ (k : Int) (h0 : 0 ≤ k) (h : k ≤ 1125899906842624) : F_laws_markText k = some (mText k) := by
  unfold mText
  by_cases hk : k ≤ 0
  · rw [if_pos hk]; exact stp (cTW (dT hk) rfl)
  · rw [if_neg hk]
    have key : ∀ (f : Nat) (n : Int) (s : ByteArray), 0 ≤ n → n.toNat < f → n + s.size ≤ 1125899906842624 → (mDig f n s).size ≤ 1125899906842624 ∧ whileO (fun (s123 : Int × ByteArray) =>
        (some (decide ((0 : Int) < s123.1))).bind fun a132 =>
        cond a132
        ((remO s123.1 10).bind fun a137 =>
          (addO 48 a137).bind fun a139 =>
          (some (a139 % 256)).bind fun a141 =>
          (some (ofBytes ([a141] : List By))).bind fun a146 =>
          (catO a146 s123.2).bind fun a148 =>
          (quoO s123.1 10).bind fun a150 =>
          some (.inl (a150, a148)))
        (some (.inr s123.2))) (n, s) = some (mDig f n s) := by
      intro f
      induction f with
      | zero => intro n s h1 h2 h3; omega
      | succ f ih =>
        intro n s h1 h2 h3
        rw [mDig]
        by_cases hn : 0 < n
        · rw [if_pos hn]
          have e : n.tdiv 10 = n / 10 := Int.tdiv_eq_ediv_of_nonneg h1
          have e2 : n.tmod 10 = n % 10 := Int.tmod_eq_emod_of_nonneg h1
          have hq : quoO n 10 = some (n.tdiv 10) := by unfold quoO; rw [if_neg (by decide)]; exact cI_of ⟨by omega, by omega⟩
          have hs : (byD n ++ s).size = s.size + 1 := by rw [ByteArray.size_append, byD_size]; omega
          obtain ⟨i1, i2⟩ := ih (n.tdiv 10) (byD n ++ s) (by omega) (by omega) (by rw [hs]; omega)
          refine ⟨i1, ?_⟩
          have st := catO_of (a := byD n) (b := s) (by rw [byD_size]; omega)
          rw [← i2]
          exact whileO_step (stp (cTW (dT hn) (bnd (remO_of (by decide)) (bnd (addO_of (by dsimp only; omega) (by dsimp only; omega)) (stp (stp (bnd st (bnd hq rfl))))))))
        · rw [if_neg hn]
          exact ⟨by omega, whileO_end (stp (cFW (dF hn) rfl))⟩
    obtain ⟨k1, k2⟩ := key (k.toNat + 1) k .empty (by omega) (by omega) (by show k + 0 ≤ _; omega)
    have hz : (⟨#[109]⟩ : ByteArray).size = 1 := rfl
    have hc := catO_of (a := ⟨#[109]⟩) (b := mDig (k.toNat + 1) k .empty) (by omega)
    refine stp (cFW (dF hk) (bnd k2 ?_))
    exact bnd hc rfl
end Go.Proofs.YtmchibapkddniaaGreat
