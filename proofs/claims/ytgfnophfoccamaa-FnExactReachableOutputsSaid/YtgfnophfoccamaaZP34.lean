/-
  Plain laws: loops by what holds in them; what can be reached in a graph. No program in sight. No condition.
-/
import Derived.Test.YtgfnophfoccamaaZP33
namespace Go.Proofs.Ytgfnophfoccamaa

/-! ### loops by what holds in them -/
theorem whileO_rel {σ τ : Type} {f : σ → Option (σ ⊕ τ)} (I : σ → Prop) (Q : τ → Prop) (μ : σ → Nat) (h : ∀ s, I s → (∃ s', f s = some (.inl s') ∧ I s' ∧ μ s' < μ s) ∨ (∃ t, f s = some (.inr t) ∧ Q t)) {s : σ} (hs : I s) : ∃ t, whileO f s = some t ∧ Q t := by
  have key : ∀ n s, μ s ≤ n → I s → ∃ t, whileO f s = some t ∧ Q t := by
    intro n
    induction n with
    | zero =>
      intro s hn hs
      rcases h s hs with ⟨s', _, _, hl⟩ | ⟨t, ht, hq⟩
      · omega
      · exact ⟨t, whileO_end ht, hq⟩
    | succ n ih =>
      intro s hn hs
      rcases h s hs with ⟨s', h1, h2, hl⟩ | ⟨t, ht, hq⟩
      · obtain ⟨t, h3, h4⟩ := ih s' (by omega) h2
        exact ⟨t, by rw [whileO_step h1]; exact h3, h4⟩
      · exact ⟨t, whileO_end ht, hq⟩
  exact key _ s (Nat.le_refl _) hs
theorem forS_inv {σ : Type} {f : Nat → σ → Option σ} (I : Nat → σ → Prop) : ∀ (n k : Nat) (s : σ), I k s → (∀ j s, k ≤ j → j < k + n → I j s → ∃ s', f j s = some s' ∧ I (j + 1) s') → ∃ r, forS f n k s = some r ∧ I (k + n) r
  | 0, k, s, h0, _ => ⟨s, rfl, h0⟩
  | n + 1, k, s, h0, h => by
    obtain ⟨s', h1, h2⟩ := h k s (Nat.le_refl _) (by omega) h0
    obtain ⟨r, h3, h4⟩ := forS_inv I n (k + 1) s' h2 (fun j s hj hl hi => h j s (by omega) (by omega) hi)
    refine ⟨r, ?_, by rwa [show k + 1 + n = k + (n + 1) by omega] at h4⟩
    show (f k s).bind _ = _
    rw [h1]; exact h3
theorem forS_rel {σ : Type} {f : Nat → σ → Option σ} {n : Nat} {s : σ} (I : Nat → σ → Prop) (h0 : I 0 s) (h : ∀ j s, j < n → I j s → ∃ s', f j s = some s' ∧ I (j + 1) s') : ∃ r, forS f n 0 s = some r ∧ I n r := by
  obtain ⟨r, h1, h2⟩ := forS_inv (f := f) I n 0 s h0 (fun j s _ hl hi => h j s (by omega) hi)
  exact ⟨r, h1, by rwa [Nat.zero_add] at h2⟩
/-- whether a list has an element with a property, found out in a loop -/
theorem any_loop {α : Type} {f : Nat → Bool → Option Bool} (P : α → Bool) (l : List α) (hf : ∀ j a b, l[j]? = some a → f j b = some (b || P a)) (b : Bool) : forS f l.length 0 b = some (b || l.any P) := by
  have := forS_is (f := f) (n := l.length) (fun j => b || (l.take j).any P) (fun j hj => by
    rw [hf j l[j] _ (List.getElem?_eq_getElem hj), List.take_add_one, List.getElem?_eq_getElem hj, List.any_append]
    simp only [Option.toList_some, List.any_cons, List.any_nil, Bool.or_false, Bool.or_assoc])
  simpa using this

/-! ### tables of marks -/
/-- the marks: is x marked? -/
def M (s : List Bool) (x : Int) : Prop := idxO s x = some true
instance (s : List Bool) (x : Int) : Decidable (M s x) := by unfold M; infer_instance
theorem M_idx {s : List Bool} {x : Int} (h0 : 0 ≤ x) (h1 : x < s.length) : idxO s x = some (decide (M s x)) := by
  by_cases h : M s x
  · rw [dT h]; exact h
  · rw [dF h]
    obtain ⟨k, rfl⟩ : ∃ k : Nat, x = (k : Int) := ⟨x.toNat, by omega⟩
    unfold M at h
    rw [idxO_nat, List.getElem?_eq_getElem (by omega)] at h ⊢
    cases hs : s[k] with
    | false => rfl
    | true => rw [hs] at h; exact (h rfl).elim
theorem M_set {s : List Bool} {x : Int} (h0 : 0 ≤ x) (h1 : x < s.length) : setO s x true = some (s.set x.toNat true) ∧ ∀ y, M (s.set x.toNat true) y ↔ (M s y ∨ y = x) := by
  obtain ⟨k, rfl⟩ : ∃ k : Nat, x = (k : Int) := ⟨x.toNat, by omega⟩
  rw [Int.toNat_natCast]
  refine ⟨setO_of _ (by omega), fun y => ?_⟩
  unfold M idxO
  by_cases hy : 0 ≤ y
  · rw [if_pos hy, if_pos hy, List.getElem?_set]
    by_cases h : k = y.toNat
    · rw [if_pos h, if_pos (by omega)]
      exact ⟨fun _ => .inr (by omega), fun _ => rfl⟩
    · rw [if_neg h]
      exact ⟨.inl, fun h2 => by rcases h2 with h2 | h2; exact h2; omega⟩
  · rw [if_neg hy, if_neg hy]
    constructor
    · intro h; cases h
    · rintro (h | h)
      · cases h
      · omega
theorem M_rng {s : List Bool} {x : Int} (h : M s x) : 0 ≤ x ∧ x < s.length := by
  unfold M at h
  obtain ⟨k, rfl, _, hl⟩ := idxO_some h
  omega
theorem M_none (n : Nat) (x : Int) : ¬ M (tabl n fun _ => false) x := by
  intro h
  have h1 := M_rng h
  rw [tabl_len] at h1
  obtain ⟨k, rfl⟩ : ∃ k : Nat, x = (k : Int) := ⟨x.toNat, by omega⟩
  unfold M at h
  rw [tabl_idx _ (by omega)] at h; cases h
theorem M_uniq {s t : List Bool} (hl : s.length = t.length) (h : ∀ x, M s x ↔ M t x) : s = t := by
  apply List.ext_getElem?
  intro j
  by_cases hj : j < s.length
  · have h1 := M_idx (s := s) (x := (j : Int)) (by omega) (by omega)
    have h2 := M_idx (s := t) (x := (j : Int)) (by omega) (by omega)
    rw [idxO_nat] at h1 h2
    rw [h1, h2, decide_eq_decide.2 (h j)]
  · rw [List.getElem?_eq_none (by omega), List.getElem?_eq_none (by omega)]
/-- how many are not marked -/
def left (s : List Bool) : Nat := s.count false
theorem left_set {s : List Bool} {k : Nat} (h : s[k]? = some false) : left (s.set k true) + 1 = left s := by
  unfold left
  induction s generalizing k with
  | nil => simp at h
  | cons b s ih =>
    cases k with
    | zero =>
      simp only [List.getElem?_cons_zero, Option.some.injEq] at h
      subst h; simp
    | succ k =>
      have := ih (k := k) (by simpa using h)
      rw [List.set_cons_succ, List.count_cons, List.count_cons]; omega

/-! ### what can be reached -/
inductive Rch (E : List Edg) (S : Int → Prop) : Int → Prop
  | base {x : Int} : S x → Rch E S x
  | step {e : Edg} {w v : Int} : e ∈ E → w ∈ edI e → Rch E S w → v ∈ edO e → Rch E S v
theorem Rch.mono {E : List Edg} {S S' : Int → Prop} (h : ∀ x, S x → Rch E S' x) {x : Int} (hx : Rch E S x) : Rch E S' x := by
  induction hx with
  | base hs => exact h _ hs
  | step he hw _ hv ih => exact .step he hw ih hv
/-- a set that is closed holds all that can be reached -/
theorem Rch.sub {E : List Edg} {S T : Int → Prop} (h0 : ∀ x, S x → T x) (h1 : ∀ e ∈ E, ∀ w ∈ edI e, T w → ∀ v ∈ edO e, T v) {x : Int} (hx : Rch E S x) : T x := by
  induction hx with
  | base hs => exact h0 _ hs
  | step he hw _ hv ih => exact h1 _ he _ hw ih _ hv
def inRg (n : Nat) (l : List Int) : Prop := ∀ x ∈ l, 0 ≤ x ∧ x < (n : Int)
def edRg (n : Nat) (E : List Edg) : Prop := ∀ e ∈ E, inRg n (edI e) ∧ inRg n (edO e)
theorem left_M {s : List Bool} {x : Int} (h0 : 0 ≤ x) (h1 : x < s.length) (h : ¬ M s x) : left (s.set x.toNat true) + 1 = left s := by
  have h2 := M_idx h0 h1
  rw [dF h] at h2
  obtain ⟨k, rfl⟩ : ∃ k : Nat, x = (k : Int) := ⟨x.toNat, by omega⟩
  rw [idxO_nat] at h2
  rw [Int.toNat_natCast]
  exact left_set h2
theorem left_le (s : List Bool) : left s ≤ s.length := List.count_le_length

/-! ### the reference's search -/
theorem rbReach_ {n : Nat} {E : List Edg} {I O : List Int} {x : Int} (hn : n ≤ 1048576) (hE : edRg n E) (hx : 0 ≤ x ∧ x < (n : Int)) :
    ∃ s, F_spec_rbReach ((n : Int), E, I, O) x = some s ∧ s.length = n ∧ ∀ y, M s y ↔ Rch E (· = x) y := by
  have hm : maxN = 1099511627776 := rfl
  have hs0 := M_set (s := tabl n fun _ => false) hx.1 (by rw [tabl_len]; exact hx.2)
  have hlen0 : ((tabl n fun _ => false).set x.toNat true).length = n := by rw [List.length_set, tabl_len]
  have key := whileO_rel (f := fun (s4026 : List Bool × Bool) =>
      cond s4026.2
      ((forS (fun (k4038 : Nat) (s4561 : List Bool × Bool) =>
            (idxO E ((k4038 : Nat) : Int)).bind fun a4576 =>
            (forS (fun (k4588 : Nat) (s4627 : Bool) =>
                (idxO a4576.2.2.1 ((k4588 : Nat) : Int)).bind fun a4642 =>
                cond s4627
                (some true)
                ((idxO s4561.1 a4642).bind fun a4651 =>
                  some a4651)) a4576.2.2.1.length 0 false).bind fun (s4656 : Bool) =>
            (forS (fun (k4658 : Nat) (s4765 : List Bool × Bool × Bool) =>
                (idxO a4576.2.2.2 ((k4658 : Nat) : Int)).bind fun a4780 =>
                (cond s4765.2.2
                  ((idxO s4765.1 a4780).bind fun a4808 =>
                    (some (!a4808)).bind fun a4810 =>
                    some (a4810, true))
                  (some (false, false))).bind fun (s4794 : Bool × Bool) =>
                cond s4794.1
                ((setO s4765.1 a4780 true).bind fun a4822 =>
                  some (a4822, true, s4794.2))
                (some (s4765.1, s4765.2.1, s4794.2))) a4576.2.2.2.length 0 (s4561.1, s4561.2, s4656)).bind fun (s4827 : List Bool × Bool × Bool) =>
            some (s4827.1, s4827.2.1)) E.length 0 (s4026.1, false)).bind fun (s4831 : List Bool × Bool) =>
        some (.inl (s4831.1, s4831.2)))
      (some (.inr s4026.1)))
    (fun s => s.1.length = n ∧ M s.1 x ∧ (∀ y, M s.1 y → Rch E (· = x) y) ∧ (s.2 = false → ∀ e ∈ E, ∀ w ∈ edI e, M s.1 w → ∀ v ∈ edO e, M s.1 v))
    (fun s => s.length = n ∧ ∀ y, M s y ↔ Rch E (· = x) y)
    (fun s => 2 * left s.1 + (if s.2 then 1 else 0)) ?_ (s := ((tabl n fun _ => false).set x.toNat true, true)) ?_
  · obtain ⟨t, h1, h2, h3⟩ := key
    exact ⟨t, bnd (tabl_make _ (by omega)) (bnd hs0.1 (bnd h1 rfl)), h2, h3⟩
  · rintro ⟨s, c⟩ ⟨h1, h2, h3, h4⟩
    dsimp only at h1 h2 h3 h4
    cases c with
    | false =>
      refine .inr ⟨s, rfl, h1, fun y => ⟨h3 y, fun hy => ?_⟩⟩
      exact Rch.sub (T := fun y => M s y) (fun z hz => by rw [hz]; exact h2) (h4 rfl) hy
    | true =>
      refine .inl ?_
      -- a pass over the edges
      have pass := forS_rel (n := E.length) (s := (s, false)) (f := fun (k4038 : Nat) (s4561 : List Bool × Bool) =>
            (idxO E ((k4038 : Nat) : Int)).bind fun a4576 =>
            (forS (fun (k4588 : Nat) (s4627 : Bool) =>
                (idxO a4576.2.2.1 ((k4588 : Nat) : Int)).bind fun a4642 =>
                cond s4627
                (some true)
                ((idxO s4561.1 a4642).bind fun a4651 =>
                  some a4651)) a4576.2.2.1.length 0 false).bind fun (s4656 : Bool) =>
            (forS (fun (k4658 : Nat) (s4765 : List Bool × Bool × Bool) =>
                (idxO a4576.2.2.2 ((k4658 : Nat) : Int)).bind fun a4780 =>
                (cond s4765.2.2
                  ((idxO s4765.1 a4780).bind fun a4808 =>
                    (some (!a4808)).bind fun a4810 =>
                    some (a4810, true))
                  (some (false, false))).bind fun (s4794 : Bool × Bool) =>
                cond s4794.1
                ((setO s4765.1 a4780 true).bind fun a4822 =>
                  some (a4822, true, s4794.2))
                (some (s4765.1, s4765.2.1, s4794.2))) a4576.2.2.2.length 0 (s4561.1, s4561.2, s4656)).bind fun (s4827 : List Bool × Bool × Bool) =>
            some (s4827.1, s4827.2.1))
        (fun j r => r.1.length = n ∧ M r.1 x ∧ (∀ y, M r.1 y → Rch E (· = x) y) ∧ ((r.2 = true ∧ left r.1 < left s) ∨ (r.2 = false ∧ r.1 = s ∧ ∀ e ∈ E.take j, ∀ w ∈ edI e, M s w → ∀ v ∈ edO e, M s v)))
        ⟨h1, h2, h3, .inr ⟨rfl, rfl, fun e he => by simp at he⟩⟩ ?_
      · obtain ⟨⟨t, c'⟩, p1, p2, p3, p4, p5⟩ := pass
        dsimp only at p2 p3 p4 p5
        refine ⟨(t, c'), bnd p1 rfl, ⟨p2, p3, p4, fun hc => ?_⟩, ?_⟩
        · rcases p5 with ⟨q, _⟩ | ⟨_, rfl, q⟩
          · rw [q] at hc; cases hc
          · rw [List.take_length] at q; exact q
        · rcases p5 with ⟨rfl, q⟩ | ⟨rfl, rfl, q⟩
          · simp only [if_true]; omega
          · simp
      · rintro j ⟨r, c⟩ hj ⟨r1, r2, r3, r4⟩
        dsimp only at r1 r2 r3 r4 ⊢
        have he := hE _ (List.getElem_mem hj)
        have hany := any_loop (f := fun (k4588 : Nat) (s4627 : Bool) =>
                (idxO (edI E[j]) ((k4588 : Nat) : Int)).bind fun a4642 =>
                cond s4627
                (some true)
                ((idxO r a4642).bind fun a4651 =>
                  some a4651)) (fun a => decide (M r a)) (edI E[j]) (fun i a b hi => by
          have ha := he.1 a (mem_of_get hi)
          rw [idxO_of hi]
          cases b with
          | true => rfl
          | false => show ((idxO r a).bind fun a4651 => some a4651) = _; rw [M_idx ha.1 (by rw [r1]; exact ha.2)]; rfl) false
        rw [Bool.false_or] at hany
        have hopen : ((edI E[j]).any fun a => decide (M r a)) = true ↔ ∃ w ∈ edI E[j], M r w := by
          rw [List.any_eq_true]
          exact ⟨fun ⟨w, hw, hm⟩ => ⟨w, hw, of_decide_eq_true hm⟩, fun ⟨w, hw, hm⟩ => ⟨w, hw, dT hm⟩⟩
        generalize ((edI E[j]).any fun a => decide (M r a)) = op at hany hopen
        have inner := forS_rel (n := (edO E[j]).length) (s := (r, c, op)) (f := fun (k4658 : Nat) (s4765 : List Bool × Bool × Bool) =>
                (idxO (edO E[j]) ((k4658 : Nat) : Int)).bind fun a4780 =>
                (cond s4765.2.2
                  ((idxO s4765.1 a4780).bind fun a4808 =>
                    (some (!a4808)).bind fun a4810 =>
                    some (a4810, true))
                  (some (false, false))).bind fun (s4794 : Bool × Bool) =>
                cond s4794.1
                ((setO s4765.1 a4780 true).bind fun a4822 =>
                  some (a4822, true, s4794.2))
                (some (s4765.1, s4765.2.1, s4794.2)))
          (fun i q => q.2.2 = op ∧ q.1.length = n ∧ M q.1 x ∧ (∀ y, M q.1 y → Rch E (· = x) y) ∧ (∀ y, M r y → M q.1 y) ∧ (op = true → ∀ v ∈ (edO E[j]).take i, M q.1 v) ∧ ((q.2.1 = true ∧ left q.1 < left s) ∨ (q.2.1 = false ∧ q.1 = s ∧ c = false)))
          ⟨rfl, r1, r2, r3, fun _ h => h, fun _ v hv => by simp at hv, by rcases r4 with h | h; exact .inl h; exact .inr ⟨h.1, h.2.1, h.1⟩⟩ ?_
        · obtain ⟨⟨q, c', o'⟩, i1, i2, i3, i4, i5, i6, i7, i8⟩ := inner
          dsimp only at i2 i3 i4 i5 i6 i7 i8
          refine ⟨(q, c'), bnd (idxO_of (List.getElem?_eq_getElem hj)) (bnd hany (bnd i1 rfl)), i3, i4, i5, ?_⟩
          rcases i8 with h | ⟨rfl, rfl, rfl⟩
          · exact .inl h
          · refine .inr ⟨rfl, rfl, ?_⟩
            rcases r4 with ⟨h, _⟩ | ⟨_, rfl, h⟩
            · cases h
            intro e hee w hw hM v hv
            rw [List.take_add_one, List.getElem?_eq_getElem hj] at hee
            rcases List.mem_append.1 hee with h' | h'
            · exact h e h' w hw hM v hv
            · simp only [Option.toList_some, List.mem_singleton] at h'
              subst h'
              exact i7 (hopen.2 ⟨w, hw, hM⟩) v (by rw [List.take_length]; exact hv)
        · rintro i ⟨q, c', o'⟩ hi ⟨rfl, q2, q3, q4, q5, q6, q7⟩
          dsimp only at q2 q3 q4 q5 q6 q7 ⊢
          have hv := he.2 _ (List.getElem_mem hi)
          have hmem : (edO E[j])[i] ∈ edO E[j] := List.getElem_mem hi
          have htk : ∀ v ∈ (edO E[j]).take (i + 1), v ∈ (edO E[j]).take i ∨ v = (edO E[j])[i] := fun v hv => by
            rw [List.take_add_one, List.getElem?_eq_getElem hi] at hv
            rcases List.mem_append.1 hv with h | h
            · exact .inl h
            · exact .inr (by simpa using h)
          cases o' with
          | false => exact ⟨(q, c', false), bnd (idxO_of (List.getElem?_eq_getElem hi)) rfl, rfl, q2, q3, q4, q5, (fun h => by cases h), q7⟩
          | true =>
            obtain ⟨w, hw, hMw⟩ := hopen.1 rfl
            by_cases hM : M q (edO E[j])[i]
            · refine ⟨(q, c', true), bnd (idxO_of (List.getElem?_eq_getElem hi)) (bndW (bnd (M_idx hv.1 (by rw [q2]; exact hv.2)) (stp rfl)) ?_), rfl, q2, q3, q4, q5, fun _ v hv' => ?_, q7⟩
              · rw [dT hM]; rfl
              · rcases htk v hv' with h | h
                · exact q6 rfl v h
                · rw [h]; exact hM
            · have hs := M_set (s := q) hv.1 (by rw [q2]; exact hv.2)
              have hl := left_M hv.1 (by rw [q2]; exact hv.2) hM
              refine ⟨(q.set (edO E[j])[i].toNat true, true, true), bnd (idxO_of (List.getElem?_eq_getElem hi)) (bndW (bnd (M_idx hv.1 (by rw [q2]; exact hv.2)) (stp rfl)) ?_), rfl, by rw [List.length_set]; exact q2, (hs.2 _).2 (.inl q3), fun y hy => ?_, fun y hy => (hs.2 _).2 (.inl (q5 y hy)), fun _ v hv' => ?_, .inl ⟨rfl, ?_⟩⟩
              · rw [dF hM]; exact stp (cTW rfl (bnd hs.1 rfl))
              · rcases (hs.2 y).1 hy with h | h
                · exact q4 y h
                · rw [h]; exact .step (List.getElem_mem hj) hw (r3 _ hMw) hmem
              · rcases htk v hv' with h | h
                · exact (hs.2 _).2 (.inl (q6 rfl v h))
                · exact (hs.2 _).2 (.inr h)
              · show left (q.set _ true) < left s
                rcases q7 with ⟨_, h⟩ | ⟨_, h, _⟩
                · omega
                · rw [← h]; omega
  · refine ⟨hlen0, (hs0.2 x).2 (.inr rfl), fun y hy => ?_, fun h => by cases h⟩
    rcases (hs0.2 y).1 hy with h | h
    · exact (M_none n y h).elim
    · exact .base h

/-! ### the program's search -/
/-- what is put on the list when a wire is marked -/
def nextW (E : List Edg) (w : Int) : List Int := (E.map fun e => if w ∈ edI e then edO e else []).flatten
theorem nextW_len (E : List Edg) (w : Int) : (nextW E w).length ≤ totE E edO := by
  unfold nextW totE
  induction E with
  | nil => exact Nat.le_refl _
  | cons e E ih =>
    simp only [List.map_cons, List.flatten_cons, List.length_append]
    split
    · omega
    · simp only [List.length_nil]; omega
theorem nextW_mem {E : List Edg} {w v : Int} : v ∈ nextW E w ↔ ∃ e ∈ E, w ∈ edI e ∧ v ∈ edO e := by
  unfold nextW
  rw [List.mem_flatten]
  constructor
  · rintro ⟨l, hl, hv⟩
    obtain ⟨e, he, rfl⟩ := List.mem_map.1 hl
    split at hv
    · exact ⟨e, he, ‹_›, hv⟩
    · cases hv
  · rintro ⟨e, he, hw, hv⟩
    exact ⟨_, List.mem_map.2 ⟨e, he, rfl⟩, by rw [if_pos hw]; exact hv⟩
theorem reachable_ {n : Nat} {E : List Edg} {I O ws : List Int} (hn : n ≤ 1048576) (hE : edRg n E) (hT : totE E edO ≤ 1000) (hw : inRg n ws) (hwl : ws.length ≤ 1048576) :
    ∃ s, F_impl_Graph_reachable ((n : Int), E, I, O) ws = some s ∧ s.length = n ∧ ∀ y, M s y ↔ Rch E (· ∈ ws) y := by
  have hm : maxN = 1099511627776 := rfl
  have hprod : n * (totE E edO + 1) ≤ 1048576 * 1001 := Nat.mul_le_mul hn (by omega)
  have key := whileO_rel (f := fun (s745 : List Bool × List Int) =>
      (some (decide ((0 : Int) < ((s745.2.length : Nat) : Int)))).bind fun a755 =>
      cond a755
      ((idxO s745.2 0).bind fun a766 =>
        (sliceO s745.2 1 ((s745.2.length : Nat) : Int)).bind fun a768 =>
        (idxO s745.1 a766).bind fun a778 =>
        cond a778
        (some (.inl (s745.1, a768)))
        ((setO s745.1 a766 true).bind fun a787 =>
          (forS (fun (k790 : Nat) (s852 : List Int) =>
              (idxO E ((k790 : Nat) : Int)).bind fun a868 =>
              (F_slices_Contains_int_int a868.2.2.1 a766).bind fun y880 =>
              cond y880
              ((appO s852 a868.2.2.2).bind fun a885 =>
                some a885)
              (some s852)) E.length 0 a768).bind fun (s892 : List Int) =>
          some (.inl (a787, s892))))
      (some (.inr s745.1)))
    (fun s => s.1.length = n ∧ inRg n s.2 ∧ left s.1 * (totE E edO + 1) + s.2.length ≤ ws.length + n * (totE E edO + 1) ∧ (∀ y, M s.1 y → Rch E (· ∈ ws) y) ∧ (∀ y ∈ s.2, Rch E (· ∈ ws) y) ∧ (∀ y ∈ ws, M s.1 y ∨ y ∈ s.2) ∧ ∀ e ∈ E, ∀ w ∈ edI e, M s.1 w → ∀ v ∈ edO e, M s.1 v ∨ v ∈ s.2)
    (fun s => s.length = n ∧ ∀ y, M s y ↔ Rch E (· ∈ ws) y)
    (fun s => left s.1 * (totE E edO + 1) + s.2.length) ?_ (s := (tabl n fun _ => false, ws)) ?_
  · obtain ⟨t, h1, h2, h3⟩ := key
    exact ⟨t, bnd (tabl_make _ (by omega)) (bnd (clone_ (by omega)) (bnd h1 rfl)), h2, h3⟩
  · rintro ⟨s, todo⟩ ⟨h1, h2, h3, h4, h5, h6, h7⟩
    dsimp only at h1 h2 h3 h4 h5 h6 h7 ⊢
    cases todo with
    | nil =>
      refine .inr ⟨s, rfl, h1, fun y => ⟨h4 y, fun hy => ?_⟩⟩
      refine Rch.sub (T := fun y => M s y) (fun z hz => ?_) (fun e he w hw hM v hv => ?_) hy
      · rcases h6 z hz with h | h
        · exact h
        · cases h
      · rcases h7 e he w hw hM v hv with h | h
        · exact h
        · cases h
    | cons w rest =>
      have hw0 := h2 w (List.mem_cons_self ..)
      have hsl : sliceO (w :: rest) 1 (((w :: rest).length : Nat) : Int) = some rest := by
        unfold sliceO
        rw [if_pos ⟨by omega, by simp only [List.length_cons]; omega, by simp⟩]
        simp
      have hpre : ∀ {α : Type} {k : Bool → Option α} {y : Option α}, k (decide (M s w)) = y → (idxO s w).bind k = y := fun h => bnd (M_idx hw0.1 (by rw [h1]; exact hw0.2)) h
      refine .inl ?_
      by_cases hM : M s w
      · refine ⟨(s, rest), stp (cTW (dT (by simp only [List.length_cons]; omega)) (bnd (show idxO (w :: rest) 0 = some w from rfl) (bnd hsl (hpre (cTW (dT hM) rfl))))), ⟨h1, fun x hx => h2 x (List.mem_cons_of_mem _ hx), ?_, h4, fun y hy => h5 y (List.mem_cons_of_mem _ hy), fun y hy => ?_, fun e he w' hw' hM' v hv => ?_⟩, ?_⟩
        · simp only [List.length_cons] at h3 ⊢; omega
        · rcases h6 y hy with h | h
          · exact .inl h
          · rcases List.mem_cons.1 h with rfl | h
            · exact .inl hM
            · exact .inr h
        · rcases h7 e he w' hw' hM' v hv with h | h
          · exact .inl h
          · rcases List.mem_cons.1 h with rfl | h
            · exact .inl hM
            · exact .inr h
        · simp
      · have hs := M_set (s := s) hw0.1 (by rw [h1]; exact hw0.2)
        have hl := left_M hw0.1 (by rw [h1]; exact hw0.2) hM
        have hmul : left s * (totE E edO + 1) = left (s.set w.toNat true) * (totE E edO + 1) + (totE E edO + 1) := by rw [← hl, Nat.add_mul]; omega
        have hnl := nextW_len E w
        simp only [List.length_cons] at h3
        have loop := forS_is (n := E.length) (fun j => rest ++ nextW (E.take j) w) (f := fun (k790 : Nat) (s852 : List Int) =>
              (idxO E ((k790 : Nat) : Int)).bind fun a868 =>
              (F_slices_Contains_int_int a868.2.2.1 w).bind fun y880 =>
              cond y880
              ((appO s852 a868.2.2.2).bind fun a885 =>
                some a885)
              (some s852)) (fun j hj => by
          have e1 : nextW (E.take (j + 1)) w = nextW (E.take j) w ++ (if w ∈ edI E[j] then edO E[j] else []) := by
            unfold nextW
            rw [List.take_add_one, List.getElem?_eq_getElem hj, List.map_append, List.flatten_append]
            simp only [Option.toList_some, List.map_cons, List.map_nil, List.flatten_cons, List.flatten_nil, List.append_nil]
          have e2 : (nextW (E.take (j + 1)) w).length ≤ (nextW E w).length := by
            have : E = E.take (j + 1) ++ E.drop (j + 1) := (List.take_append_drop _ _).symm
            conv => rhs; rw [this]
            unfold nextW
            rw [List.map_append, List.flatten_append, List.length_append]; omega
          rw [e1, List.length_append] at e2
          rw [e1]
          refine bnd (idxO_of (List.getElem?_eq_getElem hj)) (bnd (contains_ _ _) ?_)
          by_cases hc : w ∈ edI E[j]
          · rw [if_pos hc] at e2 ⊢
            refine cTW (dT hc) (bnd (appO_of ?_) ?_)
            · show (rest ++ nextW (E.take j) w).length + (edO E[j]).length ≤ maxN
              rw [List.length_append]; omega
            · rw [List.append_assoc]; rfl
          · rw [if_neg hc, List.append_nil]
            exact cFW (dF hc) rfl)
        rw [List.take_length] at loop
        have e0 : rest ++ nextW (E.take 0) w = rest := by unfold nextW; simp
        rw [e0] at loop
        refine ⟨(s.set w.toNat true, rest ++ nextW E w), stp (cTW (dT (by simp only [List.length_cons]; omega)) (bnd (show idxO (w :: rest) 0 = some w from rfl) (bnd hsl (hpre (cFW (dF hM) (bnd hs.1 (bnd loop rfl))))))), ⟨by rw [List.length_set]; exact h1, fun x hx => ?_, ?_, fun y hy => ?_, fun y hy => ?_, fun y hy => ?_, fun e he w' hw' hM' v hv => ?_⟩, ?_⟩
        · rcases List.mem_append.1 hx with h | h
          · exact h2 x (List.mem_cons_of_mem _ h)
          · obtain ⟨e, he, _, hv⟩ := nextW_mem.1 h
            exact (hE e he).2 x hv
        · dsimp only; rw [List.length_append]; omega
        · rcases (hs.2 y).1 hy with h | h
          · exact h4 y h
          · rw [h]; exact h5 w (List.mem_cons_self ..)
        · rcases List.mem_append.1 hy with h | h
          · exact h5 y (List.mem_cons_of_mem _ h)
          · obtain ⟨e, he, hwe, hv⟩ := nextW_mem.1 h
            exact .step he hwe (h5 w (List.mem_cons_self ..)) hv
        · rcases h6 y hy with h | h
          · exact .inl ((hs.2 _).2 (.inl h))
          · rcases List.mem_cons.1 h with rfl | h
            · exact .inl ((hs.2 _).2 (.inr rfl))
            · exact .inr (List.mem_append_left _ h)
        · rcases (hs.2 _).1 hM' with h | h
          · rcases h7 e he w' hw' h v hv with h | h
            · exact .inl ((hs.2 _).2 (.inl h))
            · rcases List.mem_cons.1 h with rfl | h
              · exact .inl ((hs.2 _).2 (.inr rfl))
              · exact .inr (List.mem_append_left _ h)
          · subst h
            exact .inr (List.mem_append_right _ (nextW_mem.2 ⟨e, he, hw', hv⟩))
        · dsimp only; rw [List.length_append]; simp only [List.length_cons]; omega
  · have h0 : left (tabl n fun _ => false) ≤ n := by have := left_le (tabl n fun _ => false); rwa [tabl_len] at this
    refine ⟨tabl_len _ _, hw, ?_, fun y hy => (M_none n y hy).elim, fun y hy => .base hy, fun y hy => .inr hy, fun e he w' hw' hM' => (M_none n w' hM').elim⟩
    have : left (tabl n fun _ => false) * (totE E edO + 1) ≤ n * (totE E edO + 1) := Nat.mul_le_mul_right _ h0
    dsimp only; omega
end Go.Proofs.Ytgfnophfoccamaa
