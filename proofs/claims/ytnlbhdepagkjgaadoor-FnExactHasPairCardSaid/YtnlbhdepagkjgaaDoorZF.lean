/-
  Partial functions over plain data: the operations of Go as functions into Option, loops as iterations. No program in sight. No condition.
-/
namespace Go.Proofs.YtnlbhdepagkjgaaDoor

def inI (n : Int) : Prop := -9223372036854775808 ≤ n ∧ n ≤ 9223372036854775807
instance (n : Int) : Decidable (inI n) := by unfold inI; infer_instance
/-- a number that an int holds -/
def cI (x : Int) : Option Int := if inI x then some x else none
def addO (a b : Int) : Option Int := cI (a + b)
def subO (a b : Int) : Option Int := cI (a - b)
def mulO (a b : Int) : Option Int := cI (a * b)
def negO (a : Int) : Option Int := cI (0 - a)
def quoO (a b : Int) : Option Int := if b = 0 then none else cI (a.tdiv b)
def remO (a b : Int) : Option Int := if b = 0 then none else some (a.tmod b)
/-- how long a list may grow -/
def maxN : Nat := 1099511627776
def idxO {α : Type} (xs : List α) (i : Int) : Option α := if 0 ≤ i then xs[i.toNat]? else none
def setO {α : Type} (xs : List α) (i : Int) (a : α) : Option (List α) := if 0 ≤ i ∧ i.toNat < xs.length then some (xs.set i.toNat a) else none
def appO {α : Type} (xs ys : List α) : Option (List α) := if xs.length + ys.length ≤ maxN then some (xs ++ ys) else none
def makeO {α : Type} (n : Int) (z : α) : Option (List α) := if 0 ≤ n ∧ n.toNat ≤ maxN then some (List.replicate n.toNat z) else none
def makeCO {α : Type} (n m : Int) (z : α) : Option (List α) := if 0 ≤ n ∧ n ≤ m ∧ m.toNat ≤ maxN then some (List.replicate n.toNat z) else none
def sliceO {α : Type} (xs : List α) (lo hi : Int) : Option (List α) := if 0 ≤ lo ∧ lo ≤ hi ∧ hi.toNat ≤ xs.length then some ((xs.drop lo.toNat).take (hi.toNat - lo.toNat)) else none

theorem bindS {α β : Type} {m : Option α} {k : α → Option β} {y : β} (h : m.bind k = some y) : ∃ a, m = some a ∧ k a = some y := by
  cases m with
  | none => cases h
  | some a => exact ⟨a, rfl, h⟩
theorem condT {α : Type} {a b : Option α} {y : α} (h : cond true a b = some y) : a = some y := h
theorem condF {α : Type} {a b : Option α} {y : α} (h : cond false a b = some y) : b = some y := h

/-- a part that may end early -/
def seqO {σ τ : Type} (m : Option (σ ⊕ τ)) (k : σ → Option τ) : Option τ := m.bind fun
  | .inl s => k s
  | .inr t => some t
theorem seqO_l {σ τ : Type} {k : σ → Option τ} (s : σ) : seqO (some (.inl s)) k = k s := rfl
theorem seqO_r {σ τ : Type} {k : σ → Option τ} (t : τ) : seqO (some (.inr t)) k = some t := rfl

/-- n rounds, from round k on -/
def forS {σ : Type} (f : Nat → σ → Option σ) : Nat → Nat → σ → Option σ
  | 0, _, s => some s
  | n + 1, k, s => (f k s).bind fun s' => forS f n (k + 1) s'
/-- the same, where a round may end the loop -/
def forO {σ τ : Type} (f : Nat → σ → Option (σ ⊕ τ)) : Nat → Nat → σ → Option (σ ⊕ τ)
  | 0, _, s => some (.inl s)
  | n + 1, k, s => (f k s).bind fun
    | .inl s' => forO f n (k + 1) s'
    | .inr t => some (.inr t)
def iterO {σ τ : Type} (f : σ → Option (σ ⊕ τ)) : Nat → σ → Option τ
  | 0, _ => none
  | n + 1, s => (f s).bind fun
    | .inl s' => iterO f n s'
    | .inr t => some t
open Classical in
/-- rounds until one of them ends the loop -/
noncomputable def whileO {σ τ : Type} (f : σ → Option (σ ⊕ τ)) (s : σ) : Option τ := if h : ∃ n t, iterO f n s = some t then some h.choose_spec.choose else none

theorem iterO_det {σ τ : Type} {f : σ → Option (σ ⊕ τ)} : ∀ {n m : Nat} {s : σ} {t u : τ}, iterO f n s = some t → iterO f m s = some u → t = u
  | 0, _, _, _, _, h, _ => by cases h
  | _ + 1, 0, _, _, _, _, h => by cases h
  | n + 1, m + 1, s, t, u, h, h' => by
    unfold iterO at h h'
    cases hf : f s with
    | none => rw [hf] at h; cases h
    | some r =>
      rw [hf] at h h'
      cases r with
      | inl s' => exact iterO_det (n := n) (m := m) h h'
      | inr v => exact (Option.some.inj h).symm.trans (Option.some.inj h')
theorem whileO_iff {σ τ : Type} {f : σ → Option (σ ⊕ τ)} {s : σ} {t : τ} : whileO f s = some t ↔ ∃ n, iterO f n s = some t := by
  unfold whileO
  constructor
  · intro h
    split at h
    · rename_i h'
      have := h'.choose_spec.choose_spec
      rw [Option.some.inj h] at this
      exact ⟨_, this⟩
    · cases h
  · rintro ⟨n, hn⟩
    have h' : ∃ n t, iterO f n s = some t := ⟨n, t, hn⟩
    rw [dif_pos h']
    congr 1
    exact iterO_det h'.choose_spec.choose_spec hn
theorem whileO_eq {σ τ : Type} (f : σ → Option (σ ⊕ τ)) (s : σ) : whileO f s = (f s).bind fun
    | .inl s' => whileO f s'
    | .inr t => some t := by
  apply Option.ext
  intro t
  show whileO f s = some t ↔ _ = some t
  rw [whileO_iff]
  constructor
  · rintro ⟨n, hn⟩
    cases n with
    | zero => cases hn
    | succ n =>
      unfold iterO at hn
      cases hf : f s with
      | none => rw [hf] at hn; cases hn
      | some r =>
        rw [hf] at hn
        cases r with
        | inl s' => exact whileO_iff.2 ⟨n, hn⟩
        | inr v => exact hn
  · intro h
    cases hf : f s with
    | none => rw [hf] at h; cases h
    | some r =>
      rw [hf] at h
      cases r with
      | inl s' =>
        obtain ⟨n, hn⟩ := whileO_iff.1 h
        exact ⟨n + 1, by unfold iterO; rw [hf]; exact hn⟩
      | inr v => exact ⟨1, by unfold iterO; rw [hf]; exact h⟩
theorem whileO_step {σ τ : Type} {f : σ → Option (σ ⊕ τ)} {s s' : σ} (h : f s = some (.inl s')) : whileO f s = whileO f s' := by rw [whileO_eq, h]; rfl
theorem whileO_end {σ τ : Type} {f : σ → Option (σ ⊕ τ)} {s : σ} {t : τ} (h : f s = some (.inr t)) : whileO f s = some t := by rw [whileO_eq, h]; rfl

theorem idxO_some {α : Type} {xs : List α} {i : Int} {a : α} (h : idxO xs i = some a) : ∃ m : Nat, i = (m : Int) ∧ xs[m]? = some a ∧ m < xs.length := by
  unfold idxO at h
  split at h
  · exact ⟨i.toNat, by omega, h, (List.getElem?_eq_some_iff.1 h).1⟩
  · cases h
theorem setO_some {α : Type} {xs ys : List α} {i : Int} {a : α} (h : setO xs i a = some ys) : ∃ m : Nat, i = (m : Int) ∧ m < xs.length ∧ ys = xs.set m a := by
  unfold setO at h
  split at h
  · exact ⟨i.toNat, by omega, by omega, (Option.some.inj h).symm⟩
  · cases h
theorem appO_some {α : Type} {xs ys zs : List α} (h : appO xs ys = some zs) : xs.length + ys.length ≤ maxN ∧ zs = xs ++ ys := by
  unfold appO at h
  split at h
  · exact ⟨‹_›, (Option.some.inj h).symm⟩
  · cases h
theorem makeCO_some {α : Type} {n c : Int} {z : α} {zs : List α} (h : makeCO n c z = some zs) : ∃ m k : Nat, n = (m : Int) ∧ c = (k : Int) ∧ m ≤ k ∧ k ≤ maxN ∧ zs = List.replicate m z := by
  unfold makeCO at h
  split at h
  · exact ⟨n.toNat, c.toNat, by omega, by omega, by omega, by omega, (Option.some.inj h).symm⟩
  · cases h
theorem sliceO_some {α : Type} {xs zs : List α} {lo hi : Int} (h : sliceO xs lo hi = some zs) : ∃ l m : Nat, lo = (l : Int) ∧ hi = (m : Int) ∧ l ≤ m ∧ m ≤ xs.length ∧ zs = (xs.drop l).take (m - l) := by
  unfold sliceO at h
  split at h
  · exact ⟨lo.toNat, hi.toNat, by omega, by omega, by omega, by omega, (Option.some.inj h).symm⟩
  · cases h
/-- two elements exchanged -/
def swapO {α : Type} (xs : List α) (i j : Int) : Option (List α) := (idxO xs i).bind fun a => (idxO xs j).bind fun b => (setO xs i b).bind fun ys => setO ys j a
/-- two places that differ -/
def neqO (i j : Int) : Option Unit := if i = j then none else some ()
theorem neqO_some {i j : Int} {u : Unit} (h : neqO i j = some u) : i ≠ j := by
  unfold neqO at h
  split at h
  · cases h
  · assumption
/-- arrays of n numbers that differ -/
def neqArO (n : Nat) (x y : List Int) : Option Bool := if x.length = n ∧ y.length = n then some (!decide (x = y)) else none
theorem neqArO_some {n : Nat} {x y : List Int} {r : Bool} (h : neqArO n x y = some r) : x.length = n ∧ y.length = n ∧ r = !decide (x = y) := by
  unfold neqArO at h
  split at h
  · rename_i hh; exact ⟨hh.1, hh.2, (Option.some.inj h).symm⟩
  · cases h
/-- a byte as a list's element -/
def By : Type := Int
def maxI2 (a b : Int) : Int := if b > a then b else a
def minI2 (a b : Int) : Int := if b < a then b else a
/-- a list in an array of n numbers -/
def padO (n : Nat) (x : List Int) : Option (List Int) := some ((x ++ List.replicate n 0).take n)

/-! maps from int to int: entries in the order in which they came -/
structure MI where
  kvs : List (Int × Int)
def KeysOk (l : List (Int × Int)) : Prop := (l.map (·.1)).Nodup
end Go.Proofs.YtnlbhdepagkjgaaDoor
