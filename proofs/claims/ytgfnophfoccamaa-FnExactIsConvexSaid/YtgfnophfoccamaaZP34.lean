/-
  Plain laws: loops by what holds in them; what can be reached in a graph. No program in sight. No condition.
-/
import Derived.Test.YtgfnophfoccamaaZP33
namespace Go.Proofs.Ytgfnophfoccamaa

/-! ### loops by what holds in them -/
theorem whileO_rel {σ τ : Type} {f : σ → Option (σ ⊕ τ)} (I : σ → Prop) (Q : τ → Prop) (μ : σ → Nat) (h : ∀ s, I s → (∃ s', f s = some (.inl s') ∧ I s' ∧ μ s' < μ s) ∨ (∃ t, f s = some (.inr t) ∧ Q t)) {s : σ} (hs : I s) : ∃ t, whileO f s = some t ∧ Q t := by
  have key : ∀ n s, μ s ≤ n → I s → ∃ t, whileO f s = some t ∧ Q t := by
    intro n
    induction n with
    | zero =>
      intro s hn hs
      rcases h s hs with ⟨s', _, _, hl⟩ | ⟨t, ht, hq⟩
      · omega
      · exact ⟨t, whileO_end ht, hq⟩
    | succ n ih =>
      intro s hn hs
      rcases h s hs with ⟨s', h1, h2, hl⟩ | ⟨t, ht, hq⟩
      · obtain ⟨t, h3, h4⟩ := ih s' (by omega) h2
        exact ⟨t, by rw [whileO_step h1]; exact h3, h4⟩
      · exact ⟨t, whileO_end ht, hq⟩
  exact key _ s (Nat.le_refl _) hs
theorem forS_inv {σ : Type} {f : Nat → σ → Option σ} (I : Nat → σ → Prop) : ∀ (n k : Nat) (s : σ), I k s → (∀ j s, k ≤ j → j < k + n → I j s → ∃ s', f j s = some s' ∧ I (j + 1) s') → ∃ r, forS f n k s = some r ∧ I (k + n) r
  | 0, k, s, h0, _ => ⟨s, rfl, h0⟩
  | n + 1, k, s, h0, h => by
    obtain ⟨s', h1, h2⟩ := h k s (Nat.le_refl _) (by omega) h0
    obtain ⟨r, h3, h4⟩ := forS_inv I n (k + 1) s' h2 (fun j s hj hl hi => h j s (by omega) (by omega) hi)
    refine ⟨r, ?_, by rwa [show k + 1 + n = k + (n + 1) by omega] at h4⟩
    show (f k s).bind _ = _
    rw [h1]; exact h3
theorem forS_rel {σ : Type} {f : Nat → σ → Option σ} {n : Nat} {s : σ} (I : Nat → σ → Prop) (h0 : I 0 s) (h : ∀ j s, j < n → I j s → ∃ s', f j s = some s' ∧ I (j + 1) s') : ∃ r, forS f n 0 s = some r ∧ I n r := by
  obtain ⟨r, h1, h2⟩ := forS_inv (f := f) I n 0 s h0 (fun j s _ hl hi => h j s (by omega) hi)
  exact ⟨r, h1, by rwa [Nat.zero_add] at h2⟩
theorem forO_inv {σ τ : Type} {f : Nat → σ → Option (σ ⊕ τ)} (I : Nat → σ → Prop) (Q : τ → Prop) : ∀ (n k : Nat) (s : σ), I k s → (∀ j s, k ≤ j → j < k + n → I j s → (∃ s', f j s = some (.inl s') ∧ I (j + 1) s') ∨ (∃ t, f j s = some (.inr t) ∧ Q t)) → (∃ r, forO f n k s = some (.inl r) ∧ I (k + n) r) ∨ (∃ t, forO f n k s = some (.inr t) ∧ Q t)
  | 0, k, s, h0, _ => .inl ⟨s, rfl, h0⟩
  | n + 1, k, s, h0, h => by
    rcases h k s (Nat.le_refl _) (by omega) h0 with ⟨s', h1, h2⟩ | ⟨t, h1, h2⟩
    · rcases forO_inv I Q n (k + 1) s' h2 (fun j s hj hl hi => h j s (by omega) (by omega) hi) with ⟨r, h3, h4⟩ | ⟨t, h3, h4⟩
      · refine .inl ⟨r, ?_, by rwa [show k + 1 + n = k + (n + 1) by omega] at h4⟩
        show (f k s).bind _ = _
        rw [h1]; exact h3
      · refine .inr ⟨t, ?_, h4⟩
        show (f k s).bind _ = _
        rw [h1]; exact h3
    · refine .inr ⟨t, ?_, h2⟩
      show (f k s).bind _ = _
      rw [h1]; rfl
theorem forO_rel {σ τ : Type} {f : Nat → σ → Option (σ ⊕ τ)} {n : Nat} {s : σ} (I : Nat → σ → Prop) (Q : τ → Prop) (h0 : I 0 s) (h : ∀ j s, j < n → I j s → (∃ s', f j s = some (.inl s') ∧ I (j + 1) s') ∨ (∃ t, f j s = some (.inr t) ∧ Q t)) : (∃ r, forO f n 0 s = some (.inl r) ∧ I n r) ∨ (∃ t, forO f n 0 s = some (.inr t) ∧ Q t) := by
  rcases forO_inv (f := f) I Q n 0 s h0 (fun j s _ hl hi => h j s (by omega) hi) with ⟨r, h1, h2⟩ | h
  · exact .inl ⟨r, h1, by rwa [Nat.zero_add] at h2⟩
  · exact .inr h

/-! ### tables of marks -/
theorem tabl_of {α : Type} {l : List α} {n : Nat} {f : Nat → α} (hl : l.length = n) (h : ∀ k, k < n → l[k]? = some (f k)) : l = tabl n f := by
  apply List.ext_getElem?
  intro j
  by_cases hj : j < n
  · rw [h j hj, tabl_get _ hj]
  · rw [List.getElem?_eq_none (by omega), List.getElem?_eq_none (by rw [tabl_len]; omega)]
/-- the marks: is x marked? -/
def M (s : List Bool) (x : Int) : Prop := idxO s x = some true
instance (s : List Bool) (x : Int) : Decidable (M s x) := by unfold M; infer_instance
theorem M_idx {s : List Bool} {x : Int} (h0 : 0 ≤ x) (h1 : x < s.length) : idxO s x = some (decide (M s x)) := by
  by_cases h : M s x
  · rw [dT h]; exact h
  · rw [dF h]
    obtain ⟨k, rfl⟩ : ∃ k : Nat, x = (k : Int) := ⟨x.toNat, by omega⟩
    unfold M at h
    rw [idxO_nat, List.getElem?_eq_getElem (by omega)] at h ⊢
    cases hs : s[k] with
    | false => rfl
    | true => rw [hs] at h; exact (h rfl).elim
theorem M_set {s : List Bool} {x : Int} (h0 : 0 ≤ x) (h1 : x < s.length) : setO s x true = some (s.set x.toNat true) ∧ ∀ y, M (s.set x.toNat true) y ↔ (M s y ∨ y = x) := by
  obtain ⟨k, rfl⟩ : ∃ k : Nat, x = (k : Int) := ⟨x.toNat, by omega⟩
  rw [Int.toNat_natCast]
  refine ⟨setO_of _ (by omega), fun y => ?_⟩
  unfold M idxO
  by_cases hy : 0 ≤ y
  · rw [if_pos hy, if_pos hy, List.getElem?_set]
    by_cases h : k = y.toNat
    · rw [if_pos h, if_pos (by omega)]
      exact ⟨fun _ => .inr (by omega), fun _ => rfl⟩
    · rw [if_neg h]
      exact ⟨.inl, fun h2 => by rcases h2 with h2 | h2; exact h2; omega⟩
  · rw [if_neg hy, if_neg hy]
    constructor
    · intro h; cases h
    · rintro (h | h)
      · cases h
      · omega
theorem M_rng {s : List Bool} {x : Int} (h : M s x) : 0 ≤ x ∧ x < s.length := by
  unfold M at h
  obtain ⟨k, rfl, _, hl⟩ := idxO_some h
  omega
theorem M_none (n : Nat) (x : Int) : ¬ M (tabl n fun _ => false) x := by
  intro h
  have h1 := M_rng h
  rw [tabl_len] at h1
  obtain ⟨k, rfl⟩ : ∃ k : Nat, x = (k : Int) := ⟨x.toNat, by omega⟩
  unfold M at h
  rw [tabl_idx _ (by omega)] at h; cases h
/-- how many are not marked -/
def left (s : List Bool) : Nat := s.count false
theorem left_set {s : List Bool} {k : Nat} (h : s[k]? = some false) : left (s.set k true) + 1 = left s := by
  unfold left
  induction s generalizing k with
  | nil => simp at h
  | cons b s ih =>
    cases k with
    | zero =>
      simp only [List.getElem?_cons_zero, Option.some.injEq] at h
      subst h; simp
    | succ k =>
      have := ih (k := k) (by simpa using h)
      rw [List.set_cons_succ, List.count_cons, List.count_cons]; omega

/-! ### what can be reached -/
inductive Rch (E : List Edg) (S : Int → Prop) : Int → Prop
  | base {x : Int} : S x → Rch E S x
  | step {e : Edg} {w v : Int} : e ∈ E → w ∈ edI e → Rch E S w → v ∈ edO e → Rch E S v
theorem Rch.mono {E : List Edg} {S S' : Int → Prop} (h : ∀ x, S x → Rch E S' x) {x : Int} (hx : Rch E S x) : Rch E S' x := by
  induction hx with
  | base hs => exact h _ hs
  | step he hw _ hv ih => exact .step he hw ih hv
/-- a set that is closed holds all that can be reached -/
theorem Rch.sub {E : List Edg} {S T : Int → Prop} (h0 : ∀ x, S x → T x) (h1 : ∀ e ∈ E, ∀ w ∈ edI e, T w → ∀ v ∈ edO e, T v) {x : Int} (hx : Rch E S x) : T x := by
  induction hx with
  | base hs => exact h0 _ hs
  | step he hw _ hv ih => exact h1 _ he _ hw ih _ hv
def inRg (n : Nat) (l : List Int) : Prop := ∀ x ∈ l, 0 ≤ x ∧ x < (n : Int)
def edRg (n : Nat) (E : List Edg) : Prop := ∀ e ∈ E, inRg n (edI e) ∧ inRg n (edO e)
theorem left_M {s : List Bool} {x : Int} (h0 : 0 ≤ x) (h1 : x < s.length) (h : ¬ M s x) : left (s.set x.toNat true) + 1 = left s := by
  have h2 := M_idx h0 h1
  rw [dF h] at h2
  obtain ⟨k, rfl⟩ : ∃ k : Nat, x = (k : Int) := ⟨x.toNat, by omega⟩
  rw [idxO_nat] at h2
  rw [Int.toNat_natCast]
  exact left_set h2
theorem left_le (s : List Bool) : left s ≤ s.length := List.count_le_length

/-! ### the reference's search -/

/-! ### the program's search -/
/-- what is put on the list when a wire is marked -/
def nextW (E : List Edg) (w : Int) : List Int := (E.map fun e => if w ∈ edI e then edO e else []).flatten
theorem nextW_len (E : List Edg) (w : Int) : (nextW E w).length ≤ totE E edO := by
  unfold nextW totE
  induction E with
  | nil => exact Nat.le_refl _
  | cons e E ih =>
    simp only [List.map_cons, List.flatten_cons, List.length_append]
    split
    · omega
    · simp only [List.length_nil]; omega
theorem nextW_mem {E : List Edg} {w v : Int} : v ∈ nextW E w ↔ ∃ e ∈ E, w ∈ edI e ∧ v ∈ edO e := by
  unfold nextW
  rw [List.mem_flatten]
  constructor
  · rintro ⟨l, hl, hv⟩
    obtain ⟨e, he, rfl⟩ := List.mem_map.1 hl
    split at hv
    · exact ⟨e, he, ‹_›, hv⟩
    · cases hv
  · rintro ⟨e, he, hw, hv⟩
    exact ⟨_, List.mem_map.2 ⟨e, he, rfl⟩, by rw [if_pos hw]; exact hv⟩
theorem reachable_ {n : Nat} {E : List Edg} {I O ws : List Int} (hn : n ≤ 1048576) (hE : edRg n E) (hT : totE E edO ≤ 1000) (hw : inRg n ws) (hwl : ws.length ≤ 1048576) :
    ∃ s, F_impl_Graph_reachable ((n : Int), E, I, O) ws = some s ∧ s.length = n ∧ ∀ y, M s y ↔ Rch E (· ∈ ws) y := by
  have hm : maxN = 1099511627776 := rfl
  have hprod : n * (totE E edO + 1) ≤ 1048576 * 1001 := Nat.mul_le_mul hn (by omega)
  have key := whileO_rel (f := fun (s745 : List Bool × List Int) =>
      (some (decide ((0 : Int) < ((s745.2.length : Nat) : Int)))).bind fun a755 =>
      cond a755
      ((idxO s745.2 0).bind fun a766 =>
        (sliceO s745.2 1 ((s745.2.length : Nat) : Int)).bind fun a768 =>
        (idxO s745.1 a766).bind fun a778 =>
        cond a778
        (some (.inl (s745.1, a768)))
        ((setO s745.1 a766 true).bind fun a787 =>
          (forS (fun (k790 : Nat) (s852 : List Int) =>
              (idxO E ((k790 : Nat) : Int)).bind fun a868 =>
              (F_slices_Contains_int_int a868.2.2.1 a766).bind fun y880 =>
              cond y880
              ((appO s852 a868.2.2.2).bind fun a885 =>
                some a885)
              (some s852)) E.length 0 a768).bind fun (s892 : List Int) =>
          some (.inl (a787, s892))))
      (some (.inr s745.1)))
    (fun s => s.1.length = n ∧ inRg n s.2 ∧ left s.1 * (totE E edO + 1) + s.2.length ≤ ws.length + n * (totE E edO + 1) ∧ (∀ y, M s.1 y → Rch E (· ∈ ws) y) ∧ (∀ y ∈ s.2, Rch E (· ∈ ws) y) ∧ (∀ y ∈ ws, M s.1 y ∨ y ∈ s.2) ∧ ∀ e ∈ E, ∀ w ∈ edI e, M s.1 w → ∀ v ∈ edO e, M s.1 v ∨ v ∈ s.2)
    (fun s => s.length = n ∧ ∀ y, M s y ↔ Rch E (· ∈ ws) y)
    (fun s => left s.1 * (totE E edO + 1) + s.2.length) ?_ (s := (tabl n fun _ => false, ws)) ?_
  · obtain ⟨t, h1, h2, h3⟩ := key
    exact ⟨t, bnd (tabl_make _ (by omega)) (bnd (clone_ (by omega)) (bnd h1 rfl)), h2, h3⟩
  · rintro ⟨s, todo⟩ ⟨h1, h2, h3, h4, h5, h6, h7⟩
    dsimp only at h1 h2 h3 h4 h5 h6 h7 ⊢
    cases todo with
    | nil =>
      refine .inr ⟨s, rfl, h1, fun y => ⟨h4 y, fun hy => ?_⟩⟩
      refine Rch.sub (T := fun y => M s y) (fun z hz => ?_) (fun e he w hw hM v hv => ?_) hy
      · rcases h6 z hz with h | h
        · exact h
        · cases h
      · rcases h7 e he w hw hM v hv with h | h
        · exact h
        · cases h
    | cons w rest =>
      have hw0 := h2 w (List.mem_cons_self ..)
      have hsl : sliceO (w :: rest) 1 (((w :: rest).length : Nat) : Int) = some rest := by
        unfold sliceO
        rw [if_pos ⟨by omega, by simp only [List.length_cons]; omega, by simp⟩]
        simp
      have hpre : ∀ {α : Type} {k : Bool → Option α} {y : Option α}, k (decide (M s w)) = y → (idxO s w).bind k = y := fun h => bnd (M_idx hw0.1 (by rw [h1]; exact hw0.2)) h
      refine .inl ?_
      by_cases hM : M s w
      · refine ⟨(s, rest), stp (cTW (dT (by simp only [List.length_cons]; omega)) (bnd (show idxO (w :: rest) 0 = some w from rfl) (bnd hsl (hpre (cTW (dT hM) rfl))))), ⟨h1, fun x hx => h2 x (List.mem_cons_of_mem _ hx), ?_, h4, fun y hy => h5 y (List.mem_cons_of_mem _ hy), fun y hy => ?_, fun e he w' hw' hM' v hv => ?_⟩, ?_⟩
        · simp only [List.length_cons] at h3 ⊢; omega
        · rcases h6 y hy with h | h
          · exact .inl h
          · rcases List.mem_cons.1 h with rfl | h
            · exact .inl hM
            · exact .inr h
        · rcases h7 e he w' hw' hM' v hv with h | h
          · exact .inl h
          · rcases List.mem_cons.1 h with rfl | h
            · exact .inl hM
            · exact .inr h
        · simp
      · have hs := M_set (s := s) hw0.1 (by rw [h1]; exact hw0.2)
        have hl := left_M hw0.1 (by rw [h1]; exact hw0.2) hM
        have hmul : left s * (totE E edO + 1) = left (s.set w.toNat true) * (totE E edO + 1) + (totE E edO + 1) := by rw [← hl, Nat.add_mul]; omega
        have hnl := nextW_len E w
        simp only [List.length_cons] at h3
        have loop := forS_is (n := E.length) (fun j => rest ++ nextW (E.take j) w) (f := fun (k790 : Nat) (s852 : List Int) =>
              (idxO E ((k790 : Nat) : Int)).bind fun a868 =>
              (F_slices_Contains_int_int a868.2.2.1 w).bind fun y880 =>
              cond y880
              ((appO s852 a868.2.2.2).bind fun a885 =>
                some a885)
              (some s852)) (fun j hj => by
          have e1 : nextW (E.take (j + 1)) w = nextW (E.take j) w ++ (if w ∈ edI E[j] then edO E[j] else []) := by
            unfold nextW
            rw [List.take_add_one, List.getElem?_eq_getElem hj, List.map_append, List.flatten_append]
            simp only [Option.toList_some, List.map_cons, List.map_nil, List.flatten_cons, List.flatten_nil, List.append_nil]
          have e2 : (nextW (E.take (j + 1)) w).length ≤ (nextW E w).length := by
            have : E = E.take (j + 1) ++ E.drop (j + 1) := (List.take_append_drop _ _).symm
            conv => rhs; rw [this]
            unfold nextW
            rw [List.map_append, List.flatten_append, List.length_append]; omega
          rw [e1, List.length_append] at e2
          rw [e1]
          refine bnd (idxO_of (List.getElem?_eq_getElem hj)) (bnd (contains_ _ _) ?_)
          by_cases hc : w ∈ edI E[j]
          · rw [if_pos hc] at e2 ⊢
            refine cTW (dT hc) (bnd (appO_of ?_) ?_)
            · show (rest ++ nextW (E.take j) w).length + (edO E[j]).length ≤ maxN
              rw [List.length_append]; omega
            · rw [List.append_assoc]; rfl
          · rw [if_neg hc, List.append_nil]
            exact cFW (dF hc) rfl)
        rw [List.take_length] at loop
        have e0 : rest ++ nextW (E.take 0) w = rest := by unfold nextW; simp
        rw [e0] at loop
        refine ⟨(s.set w.toNat true, rest ++ nextW E w), stp (cTW (dT (by simp only [List.length_cons]; omega)) (bnd (show idxO (w :: rest) 0 = some w from rfl) (bnd hsl (hpre (cFW (dF hM) (bnd hs.1 (bnd loop rfl))))))), ⟨by rw [List.length_set]; exact h1, fun x hx => ?_, ?_, fun y hy => ?_, fun y hy => ?_, fun y hy => ?_, fun e he w' hw' hM' v hv => ?_⟩, ?_⟩
        · rcases List.mem_append.1 hx with h | h
          · exact h2 x (List.mem_cons_of_mem _ h)
          · obtain ⟨e, he, _, hv⟩ := nextW_mem.1 h
            exact (hE e he).2 x hv
        · dsimp only; rw [List.length_append]; omega
        · rcases (hs.2 y).1 hy with h | h
          · exact h4 y h
          · rw [h]; exact h5 w (List.mem_cons_self ..)
        · rcases List.mem_append.1 hy with h | h
          · exact h5 y (List.mem_cons_of_mem _ h)
          · obtain ⟨e, he, hwe, hv⟩ := nextW_mem.1 h
            exact .step he hwe (h5 w (List.mem_cons_self ..)) hv
        · rcases h6 y hy with h | h
          · exact .inl ((hs.2 _).2 (.inl h))
          · rcases List.mem_cons.1 h with rfl | h
            · exact .inl ((hs.2 _).2 (.inr rfl))
            · exact .inr (List.mem_append_left _ h)
        · rcases (hs.2 _).1 hM' with h | h
          · rcases h7 e he w' hw' h v hv with h | h
            · exact .inl ((hs.2 _).2 (.inl h))
            · rcases List.mem_cons.1 h with rfl | h
              · exact .inl ((hs.2 _).2 (.inr rfl))
              · exact .inr (List.mem_append_left _ h)
          · subst h
            exact .inr (List.mem_append_right _ (nextW_mem.2 ⟨e, he, hw', hv⟩))
        · dsimp only; rw [List.length_append]; simp only [List.length_cons]; omega
  · have h0 : left (tabl n fun _ => false) ≤ n := by have := left_le (tabl n fun _ => false); rwa [tabl_len] at this
    refine ⟨tabl_len _ _, hw, ?_, fun y hy => (M_none n y hy).elim, fun y hy => .base hy, fun y hy => .inr hy, fun e he w' hw' hM' => (M_none n w' hM').elim⟩
    have : left (tabl n fun _ => false) * (totE E edO + 1) ≤ n * (totE E edO + 1) := Nat.mul_le_mul_right _ h0
    dsimp only; omega
end Go.Proofs.Ytgfnophfoccamaa
