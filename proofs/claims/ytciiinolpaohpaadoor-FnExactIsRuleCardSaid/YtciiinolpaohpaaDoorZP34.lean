/-
  Plain laws: loops by what holds in them; what can be reached in a graph. No program in sight. No condition.
-/
import Derived.Test.YtciiinolpaohpaaDoorZP33
namespace Go.Proofs.YtciiinolpaohpaaDoor

/-! ### loops by what holds in them -/
theorem whileO_rel {σ τ : Type} {f : σ → Option (σ ⊕ τ)} (I : σ → Prop) (Q : τ → Prop) (μ : σ → Nat) (h : ∀ s, I s → (∃ s', f s = some (.inl s') ∧ I s' ∧ μ s' < μ s) ∨ (∃ t, f s = some (.inr t) ∧ Q t)) {s : σ} (hs : I s) : ∃ t, whileO f s = some t ∧ Q t := by
  have key : ∀ n s, μ s ≤ n → I s → ∃ t, whileO f s = some t ∧ Q t := by
    intro n
    induction n with
    | zero =>
      intro s hn hs
      rcases h s hs with ⟨s', _, _, hl⟩ | ⟨t, ht, hq⟩
      · omega
      · exact ⟨t, whileO_end ht, hq⟩
    | succ n ih =>
      intro s hn hs
      rcases h s hs with ⟨s', h1, h2, hl⟩ | ⟨t, ht, hq⟩
      · obtain ⟨t, h3, h4⟩ := ih s' (by omega) h2
        exact ⟨t, by rw [whileO_step h1]; exact h3, h4⟩
      · exact ⟨t, whileO_end ht, hq⟩
  exact key _ s (Nat.le_refl _) hs
theorem forS_inv {σ : Type} {f : Nat → σ → Option σ} (I : Nat → σ → Prop) : ∀ (n k : Nat) (s : σ), I k s → (∀ j s, k ≤ j → j < k + n → I j s → ∃ s', f j s = some s' ∧ I (j + 1) s') → ∃ r, forS f n k s = some r ∧ I (k + n) r
  | 0, k, s, h0, _ => ⟨s, rfl, h0⟩
  | n + 1, k, s, h0, h => by
    obtain ⟨s', h1, h2⟩ := h k s (Nat.le_refl _) (by omega) h0
    obtain ⟨r, h3, h4⟩ := forS_inv I n (k + 1) s' h2 (fun j s hj hl hi => h j s (by omega) (by omega) hi)
    refine ⟨r, ?_, by rwa [show k + 1 + n = k + (n + 1) by omega] at h4⟩
    show (f k s).bind _ = _
    rw [h1]; exact h3
theorem forS_rel {σ : Type} {f : Nat → σ → Option σ} {n : Nat} {s : σ} (I : Nat → σ → Prop) (h0 : I 0 s) (h : ∀ j s, j < n → I j s → ∃ s', f j s = some s' ∧ I (j + 1) s') : ∃ r, forS f n 0 s = some r ∧ I n r := by
  obtain ⟨r, h1, h2⟩ := forS_inv (f := f) I n 0 s h0 (fun j s _ hl hi => h j s (by omega) hi)
  exact ⟨r, h1, by rwa [Nat.zero_add] at h2⟩
theorem forO_inv {σ τ : Type} {f : Nat → σ → Option (σ ⊕ τ)} (I : Nat → σ → Prop) (Q : τ → Prop) : ∀ (n k : Nat) (s : σ), I k s → (∀ j s, k ≤ j → j < k + n → I j s → (∃ s', f j s = some (.inl s') ∧ I (j + 1) s') ∨ (∃ t, f j s = some (.inr t) ∧ Q t)) → (∃ r, forO f n k s = some (.inl r) ∧ I (k + n) r) ∨ (∃ t, forO f n k s = some (.inr t) ∧ Q t)
  | 0, k, s, h0, _ => .inl ⟨s, rfl, h0⟩
  | n + 1, k, s, h0, h => by
    rcases h k s (Nat.le_refl _) (by omega) h0 with ⟨s', h1, h2⟩ | ⟨t, h1, h2⟩
    · rcases forO_inv I Q n (k + 1) s' h2 (fun j s hj hl hi => h j s (by omega) (by omega) hi) with ⟨r, h3, h4⟩ | ⟨t, h3, h4⟩
      · refine .inl ⟨r, ?_, by rwa [show k + 1 + n = k + (n + 1) by omega] at h4⟩
        show (f k s).bind _ = _
        rw [h1]; exact h3
      · refine .inr ⟨t, ?_, h4⟩
        show (f k s).bind _ = _
        rw [h1]; exact h3
    · refine .inr ⟨t, ?_, h2⟩
      show (f k s).bind _ = _
      rw [h1]; rfl
theorem forO_rel {σ τ : Type} {f : Nat → σ → Option (σ ⊕ τ)} {n : Nat} {s : σ} (I : Nat → σ → Prop) (Q : τ → Prop) (h0 : I 0 s) (h : ∀ j s, j < n → I j s → (∃ s', f j s = some (.inl s') ∧ I (j + 1) s') ∨ (∃ t, f j s = some (.inr t) ∧ Q t)) : (∃ r, forO f n 0 s = some (.inl r) ∧ I n r) ∨ (∃ t, forO f n 0 s = some (.inr t) ∧ Q t) := by
  rcases forO_inv (f := f) I Q n 0 s h0 (fun j s _ hl hi => h j s (by omega) hi) with ⟨r, h1, h2⟩ | h
  · exact .inl ⟨r, h1, by rwa [Nat.zero_add] at h2⟩
  · exact .inr h

/-! ### tables of marks -/
/-- the marks: is x marked? -/
def M (s : List Bool) (x : Int) : Prop := idxO s x = some true
instance (s : List Bool) (x : Int) : Decidable (M s x) := by unfold M; infer_instance
/-- how many are not marked -/
def left (s : List Bool) : Nat := s.count false

/-! ### what can be reached -/
inductive Rch (E : List Edg) (S : Int → Prop) : Int → Prop
  | base {x : Int} : S x → Rch E S x
  | step {e : Edg} {w v : Int} : e ∈ E → w ∈ edI e → Rch E S w → v ∈ edO e → Rch E S v
theorem Rch.mono {E : List Edg} {S S' : Int → Prop} (h : ∀ x, S x → Rch E S' x) {x : Int} (hx : Rch E S x) : Rch E S' x := by
  induction hx with
  | base hs => exact h _ hs
  | step he hw _ hv ih => exact .step he hw ih hv
/-- a set that is closed holds all that can be reached -/
theorem Rch.sub {E : List Edg} {S T : Int → Prop} (h0 : ∀ x, S x → T x) (h1 : ∀ e ∈ E, ∀ w ∈ edI e, T w → ∀ v ∈ edO e, T v) {x : Int} (hx : Rch E S x) : T x := by
  induction hx with
  | base hs => exact h0 _ hs
  | step he hw _ hv ih => exact h1 _ he _ hw ih _ hv
def inRg (n : Nat) (l : List Int) : Prop := ∀ x ∈ l, 0 ≤ x ∧ x < (n : Int)
def edRg (n : Nat) (E : List Edg) : Prop := ∀ e ∈ E, inRg n (edI e) ∧ inRg n (edO e)

/-! ### the reference's search -/

/-! ### the program's search -/
end Go.Proofs.YtciiinolpaohpaaDoor
