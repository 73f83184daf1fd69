/-
  Segments of memory: what a value owns between two heights of the heap, and changes confined to such a segment; the forms of the laws' helpers' contracts. No condition.
-/
import Derived.Test.YtgnlfjlenjfffaaDoorC3
import Derived.Test.YtgnlfjlenjfffaaDoorOps5
namespace Go.Proofs.YtgnlfjlenjfffaaDoor
open Go
open Go.RowKit (Below)
open Go.Proofs.YtgnlfjlenjfffaaDoor.RW

/-- v reads as x, in memory of its own between lo and hi -/
def Seg {α : Type} [Rep α] (lo hi : Nat) (w : World) (v : Value) (x : α) : Prop := lo ≤ hi ∧ hi ≤ w.heap.size ∧ ∃ fp, OwnV w fp v x ∧ ∀ b ∈ fp, lo ≤ b ∧ b < hi
/-- nothing has changed but blocks from a on below b, and what is new -/
structure Mut (a b : Nat) (w w' : World) : Prop where
  os : w'.os = w.os
  tape : w'.tape = w.tape
  output : w'.output = w.output
  size : w.heap.size ≤ w'.heap.size
  block : ∀ i, i < w.heap.size → (i < a ∨ b ≤ i) → w'.heap[i]? = w.heap[i]?

section
variable {α : Type} [Rep α] {w w' w0 : World} {lo hi a b : Nat} {v : Value} {x : α}
theorem Mut.of_upd {f : List Nat} (h : Upd f w w') (hf : ∀ i ∈ f, a ≤ i ∧ i < b) : Mut a b w w' := ⟨h.os, h.tape, h.output, h.size, fun i hi hd => h.block i hi (fun hm => by have := hf i hm; omega)⟩
theorem Mut.of_ext (h : Ext w w') : Mut 0 0 w w' := Mut.of_upd h (fun _ hi => by cases hi)
theorem Mut.drewN (n : Nat) : Mut 0 0 w (w.drewN n) := Mut.of_ext (ext_drewN n)
theorem Mut.ext (h : Mut a b w w') (ha : w0.heap.size ≤ a ∨ b = 0) (h0 : Ext w0 w) : Ext w0 w' :=
  ⟨h.os.trans h0.os, h.tape.trans h0.tape, h.output.trans h0.output, Nat.le_trans h0.size h.size, fun i hi _ => (h.block i (Nat.lt_of_lt_of_le hi h0.size) (by omega)).trans (h0.block i hi (by simp))⟩
theorem Seg.mut (h : Seg lo hi w v x) (hm : Mut a b w w') (hd : hi ≤ a ∨ b ≤ lo) : Seg lo hi w' v x := by
  obtain ⟨h0, h1, fp, h2, h3⟩ := h
  exact ⟨h0, Nat.le_trans h1 hm.size, fp, h2.keep (fun i hi => hm.block i (by have := h3 i hi; omega) (by have := h3 i hi; omega)), h3⟩
theorem Seg.of_fresh (h : Fresh w.heap.size w' v x) (hu : Ext w w') : Seg w.heap.size w'.heap.size w' v x := by
  obtain ⟨fp, h1, h2⟩ := h
  exact ⟨hu.size, Nat.le_refl _, fp, h1, fun b hb => ⟨h2 b hb, h1.lt b hb⟩⟩
theorem Seg.rdV (h : Seg lo hi w v x) : RdV w (fun i => lo ≤ i ∧ i < hi) v x := by
  obtain ⟨h0, h1, fp, h2, h3⟩ := h
  exact h2.rdV.mono h3
theorem Seg.lt (h : Seg lo hi w v x) : ∀ i, (lo ≤ i ∧ i < hi) → i < w.heap.size := fun i hi => by have := h.2.1; omega
theorem RdV.old (h : RdV w (fun i => i < w.heap.size) v x) (hu : Ext w w') : RdV w' (fun i => i < w.heap.size) v x := h.keep fun i hi => hu.block i hi (by simp)
end

def ToC (α : Type) [Rep α] (ok : α → Prop) (f : Nat) : Prop := ∀ (v : Value) (x : α) (S : Nat → Prop) (w : World), RdV w S v x → (∀ b, S b → b < w.heap.size) → ok x →
  Calls Tryd.prog f #[v] w fun e w' => ∃ r, e = .returned r ∧ Fresh w.heap.size w' r x ∧ Ext w w'
def EqC (α : Type) [Rep α] [DecidableEq α] (f : Nat) : Prop := ∀ (v u : Value) (x y : α) (S S' : Nat → Prop) (w : World), RdV w S v x → RdV w S' u y → (∀ b, S b → b < w.heap.size) → (∀ b, S' b → b < w.heap.size) →
  Calls Tryd.prog f #[v, u] w fun e w' => e = .returned (.bool (decide (x = y))) ∧ Ext w w'
/-- sizes: what is left of a bound; -1 where nothing is -/
class Szn (α : Type) where
  szn : α → Nat
open Szn
instance : Szn (List Int) where
  szn x := x.length
instance {α : Type} [Szn α] : Szn (List α) where
  szn x := x.length + (x.map szn).sum
instance {β : Type} [Szn β] : Szn (Int × β) where
  szn x := szn x.2
def szOut (l : Int) (n : Nat) : Int := if (n : Int) ≤ l then l - n else -1
def SzC (α : Type) [Rep α] [Szn α] (f : Nat) : Prop := ∀ (v : Value) (x : α) (S : Nat → Prop) (l : Int) (w : World), RdV w S v x → (∀ b, S b → b < w.heap.size) → 0 ≤ l ∧ l ≤ 1048576 →
  Calls Tryd.prog f #[v, .int .i64 l] w fun e w' => e = .returned (.int .i64 (szOut l (szn x))) ∧ Ext w w'
/-- marks: how many, and what is read behind them -/
class Mk (α : Type) where
  cnt : α → Nat
  mrk : Int → α → α
def MarkC (α : Type) [Rep α] [Mk α] (f : Nat) : Prop := ∀ (v : Value) (x : α) (fp : List Nat) (k : Int) (w : World), OwnV w fp v x → 0 ≤ k ∧ k + Mk.cnt x ≤ 4611686018427387904 →
  Calls Tryd.prog f #[v, .int .i64 k] w fun e w' => e = .returned (.int .i64 (k + Mk.cnt x)) ∧ OwnV w' fp v (Mk.mrk k x) ∧ Upd fp w w'
def HeldC (α : Type) [Rep α] [Mk α] (f : Nat) : Prop := ∀ (v : Value) (x : α) (S : Nat → Prop) (k : Int) (w : World), RdV w S v (Mk.mrk k x) → (∀ b, S b → b < w.heap.size) → 0 ≤ k ∧ k + Mk.cnt x ≤ 4611686018427387904 →
  Calls Tryd.prog f #[v, .int .i64 k] w fun e w' => e = .returned (.int .i64 (k + Mk.cnt x)) ∧ Ext w w'

instance : Mk (List Int) where
  cnt x := x.length
  mrk k x := seqI k x.length
/-- marks of an element that lies in a slice -/
class MkE (α : Type) where
  cntE : α → Nat
  mrkE : Int → α → α
open MkE
instance : MkE (List Int) where
  cntE := Mk.cnt
  mrkE := Mk.mrk
instance {β : Type} [Mk β] : MkE (Int × β) where
  cntE x := 1 + Mk.cnt x.2
  mrkE k x := (k, Mk.mrk (k + 1) x.2)
instance {β : Type} [Mk β] : Mk (Int × β) where
  cnt x := Mk.cnt x.2
  mrk k x := (x.1, Mk.mrk k x.2)
def mrkL {α : Type} [MkE α] : Int → List α → List α
  | _, [] => []
  | k, x :: xs => mrkE k x :: mrkL (k + cntE x) xs
instance {α : Type} [MkE α] : Mk (List α) where
  cnt x := (x.map cntE).sum
  mrk := mrkL
/-- how many marks the first i elements have -/
def cntU {α : Type} [MkE α] (xs : List α) (i : Nat) : Nat := ((xs.take i).map cntE).sum
section
variable {α : Type} [MkE α]
theorem mrkL_len : ∀ (k : Int) (xs : List α), (mrkL k xs).length = xs.length
  | _, [] => rfl
  | k, x :: xs => by simp [mrkL, mrkL_len]
theorem cntU_step {xs : List α} {i : Nat} (h : i < xs.length) : cntU xs (i + 1) = cntU xs i + cntE xs[i] := by
  unfold cntU; rw [List.take_succ_eq_append_getElem h, List.map_append, List.sum_append]; simp only [List.map_cons, List.map_nil, List.sum_cons, List.sum_nil, Nat.add_zero]
theorem cntU_all (xs : List α) : cntU xs xs.length = Mk.cnt xs := by unfold cntU; rw [List.take_length]; rfl
theorem cntU_le (xs : List α) (i : Nat) : cntU xs i ≤ Mk.cnt xs := by
  show ((xs.take i).map cntE).sum ≤ (xs.map cntE).sum
  conv => rhs; rw [← List.take_append_drop i xs]
  rw [List.map_append, List.sum_append]; exact Nat.le_add_right _ _
theorem mix_set {β : Type} {a b : List β} (hl : a.length = b.length) {i : Nat} (h : i < a.length) : (a.take i ++ b.drop i).set i a[i] = a.take (i + 1) ++ b.drop (i + 1) := by
  have h0 : i - (a.take i).length = 0 := by simp; omega
  rw [List.set_append_right _ _ (by simp; omega), h0, List.drop_eq_getElem_cons (by omega), List.set_cons_zero, List.take_succ_eq_append_getElem h, List.append_assoc]
  rfl
theorem mrkL_get : ∀ (xs : List α) (k : Int) (i : Nat) (h : i < xs.length), (mrkL k xs)[i]'(by rw [mrkL_len]; exact h) = mrkE (k + cntU xs i) xs[i]
  | x :: xs, k, 0, h => by simp [mrkL, cntU]
  | x :: xs, k, i + 1, h => by
    have := mrkL_get xs (k + cntE x) i (by simpa using h)
    simp only [mrkL, List.getElem_cons_succ, this]
    congr 1
    simp [cntU]; omega
/-- the first i elements marked -/
def mrkT (k : Int) (xs : List α) (i : Nat) : List α := (mrkL k xs).take i ++ xs.drop i
theorem mrkT_len (k : Int) (xs : List α) (i : Nat) : (mrkT k xs i).length = xs.length := by simp [mrkT, mrkL_len]; omega
theorem mrkT_get {k : Int} {xs : List α} {i : Nat} (h : i < xs.length) : (mrkT k xs i)[i]'(by rw [mrkT_len]; exact h) = xs[i] := by
  simp [mrkT, mrkL_len, Nat.le_of_lt h]
theorem mrkT_set {k : Int} {xs : List α} {i : Nat} (h : i < xs.length) : (mrkT k xs i).set i (mrkE (k + cntU xs i) xs[i]) = mrkT k xs (i + 1) := by
  have hl : i < (mrkL k xs).length := by rw [mrkL_len]; exact h
  rw [← mrkL_get xs k i h]
  exact mix_set (mrkL_len k xs) hl
theorem mrkT_zero (k : Int) (xs : List α) : mrkT k xs 0 = xs := rfl
theorem mrkT_all (k : Int) (xs : List α) : mrkT k xs xs.length = Mk.mrk k xs := by
  show (mrkL k xs).take xs.length ++ xs.drop xs.length = mrkL k xs
  rw [List.take_of_length_le (by rw [mrkL_len]; exact Nat.le_refl _)]; simp
end
def szU {α : Type} [Szn α] (xs : List α) (i : Nat) : Nat := xs.length + ((xs.take i).map szn).sum
section
variable {α : Type} [Szn α]
theorem szU_step {xs : List α} {i : Nat} (h : i < xs.length) : szU xs (i + 1) = szU xs i + szn xs[i] := by
  unfold szU; rw [List.take_succ_eq_append_getElem h, List.map_append, List.sum_append]; simp only [List.map_cons, List.map_nil, List.sum_cons, List.sum_nil, Nat.add_zero]; omega
theorem szU_all (xs : List α) : szU xs xs.length = xs.length + (xs.map szn).sum := by unfold szU; rw [List.take_length]
theorem szU_le (xs : List α) (i : Nat) : szU xs i ≤ xs.length + (xs.map szn).sum := by
  unfold szU
  have : (xs.map szn).sum = ((xs.take i).map szn).sum + ((xs.drop i).map szn).sum := by
    rw [← List.sum_append, ← List.map_append, List.take_append_drop]
  omega
theorem szU_zero (xs : List α) : szU xs 0 = xs.length := by simp [szU]
theorem szn_get {xs : List α} {i : Nat} (h : i < xs.length) : szn xs[i] ≤ xs.length + (xs.map szn).sum := by
  have h1 := szU_step h; have h2 := szU_le xs (i + 1); omega
end
theorem take_rep_set {α : Type} {xs : List α} {d : α} {i : Nat} (h : i < xs.length) : (xs.take i ++ List.replicate (xs.length - i) d).set i xs[i] = xs.take (i + 1) ++ List.replicate (xs.length - (i + 1)) d := by
  have := mix_set (a := xs) (b := List.replicate xs.length d) (by simp) h
  simpa [List.drop_replicate] using this

section
variable {α : Type} [Rep α] {w : World} {lo hi : Nat} {v : Value} {x : α}
theorem MarkC.seg [Mk α] {f : Nat} (hf : MarkC α f) (h : Seg lo hi w v x) {k : Int} (hk : 0 ≤ k ∧ k + Mk.cnt x ≤ 4611686018427387904) :
    Calls Tryd.prog f #[v, .int .i64 k] w fun e w' => e = .returned (.int .i64 (k + Mk.cnt x)) ∧ Seg lo hi w' v (Mk.mrk k x) ∧ Mut lo hi w w' := by
  obtain ⟨h0, h1, fp, h2, h3⟩ := h
  exact (hf v x fp k w h2 hk).mono fun e w' ⟨he, ho, hu⟩ => ⟨he, ⟨h0, Nat.le_trans h1 hu.size, fp, ho, h3⟩, Mut.of_upd hu h3⟩
end

theorem EqC.same {α : Type} [Rep α] [DecidableEq α] {f : Nat} (hf : EqC α f) {v u : Value} {x y : α} {S S' : Nat → Prop} {w : World} (h : RdV w S v x) (h' : RdV w S' u y) (hS : ∀ b, S b → b < w.heap.size) (hS' : ∀ b, S' b → b < w.heap.size) (he : x = y) :
    Calls Tryd.prog f #[v, u] w fun e w' => e = .returned (.bool true) ∧ Mut 0 0 w w' :=
  (hf v u x y S S' w h h' hS hS').mono fun _ _ ⟨h1, h2⟩ => ⟨by rw [h1, decide_eq_true he], Mut.of_ext h2⟩
theorem HeldC.mut {α : Type} [Rep α] [Mk α] {f : Nat} (hf : HeldC α f) {v : Value} {x : α} {S : Nat → Prop} {w : World} {k : Int} (h : RdV w S v (Mk.mrk k x)) (hS : ∀ b, S b → b < w.heap.size) (hk : 0 ≤ k ∧ k + Mk.cnt x ≤ 4611686018427387904) :
    Calls Tryd.prog f #[v, .int .i64 k] w fun e w' => e = .returned (.int .i64 (k + Mk.cnt x)) ∧ Mut 0 0 w w' :=
  (hf v x S k w h hS hk).mono fun _ _ ⟨h1, h2⟩ => ⟨h1, Mut.of_ext h2⟩
theorem cnt_ints (x : List Int) : Mk.cnt x = x.length := rfl

theorem toIntS_t : ToC (List Int) (fun x => x.length ≤ 17592186044416) 60 := fun v x S w h hS hl =>
  (toIntS_c v x S w h hS hl).mono fun _ _ ⟨r, fp, he, ho, hb, hu⟩ => ⟨r, he, ⟨fp, ho, hb⟩, hu⟩
theorem eqIntS_t : EqC (List Int) 55 := fun v u x y S S' w h h' _ _ =>
  (eqIntS_c v u x y S S' w h h').mono fun _ _ ⟨h1, m, h2⟩ => ⟨h1, h2 ▸ ext_drewN m⟩
theorem markIntS_t : MarkC (List Int) 56 := markIntS_c
theorem heldIntS_t : HeldC (List Int) 57 := fun v x S k w h _ hk =>
  (heldIntS_c v x.length S k w h hk).mono fun _ _ ⟨he, hw⟩ => ⟨he, hw ▸ Upd.refl _ _⟩
end Go.Proofs.YtgnlfjlenjfffaaDoor
