/-
  Segments of memory: what a value owns between two heights of the heap, and changes confined to such a segment; the forms of the laws' helpers' contracts. No condition.
-/
import Derived.Test.YtdmlgmefnikhhaaDoorC3
namespace Go.Proofs.YtdmlgmefnikhhaaDoor
open Go
open Go.RowKit (Below)
open Go.Proofs.YtdmlgmefnikhhaaDoor.RW

/-- v reads as x, in memory of its own between lo and hi -/
def Seg {α : Type} [Rep α] (lo hi : Nat) (w : World) (v : Value) (x : α) : Prop := lo ≤ hi ∧ hi ≤ w.heap.size ∧ ∃ fp, OwnV w fp v x ∧ ∀ b ∈ fp, lo ≤ b ∧ b < hi
/-- nothing has changed but blocks from a on below b, and what is new -/
structure Mut (a b : Nat) (w w' : World) : Prop where
  os : w'.os = w.os
  tape : w'.tape = w.tape
  output : w'.output = w.output
  size : w.heap.size ≤ w'.heap.size
  block : ∀ i, i < w.heap.size → (i < a ∨ b ≤ i) → w'.heap[i]? = w.heap[i]?

section
variable {α : Type} [Rep α] {w w' w0 : World} {lo hi a b : Nat} {v : Value} {x : α}
theorem Mut.of_upd {f : List Nat} (h : Upd f w w') (hf : ∀ i ∈ f, a ≤ i ∧ i < b) : Mut a b w w' := ⟨h.os, h.tape, h.output, h.size, fun i hi hd => h.block i hi (fun hm => by have := hf i hm; omega)⟩
theorem Mut.of_ext (h : Ext w w') : Mut 0 0 w w' := Mut.of_upd h (fun _ hi => by cases hi)
theorem Mut.drewN (n : Nat) : Mut 0 0 w (w.drewN n) := Mut.of_ext (ext_drewN n)
theorem Mut.ext (h : Mut a b w w') (ha : w0.heap.size ≤ a ∨ b = 0) (h0 : Ext w0 w) : Ext w0 w' :=
  ⟨h.os.trans h0.os, h.tape.trans h0.tape, h.output.trans h0.output, Nat.le_trans h0.size h.size, fun i hi _ => (h.block i (Nat.lt_of_lt_of_le hi h0.size) (by omega)).trans (h0.block i hi (by simp))⟩
theorem Seg.mut (h : Seg lo hi w v x) (hm : Mut a b w w') (hd : hi ≤ a ∨ b ≤ lo) : Seg lo hi w' v x := by
  obtain ⟨h0, h1, fp, h2, h3⟩ := h
  exact ⟨h0, Nat.le_trans h1 hm.size, fp, h2.keep (fun i hi => hm.block i (by have := h3 i hi; omega) (by have := h3 i hi; omega)), h3⟩
theorem Seg.of_fresh (h : Fresh w.heap.size w' v x) (hu : Ext w w') : Seg w.heap.size w'.heap.size w' v x := by
  obtain ⟨fp, h1, h2⟩ := h
  exact ⟨hu.size, Nat.le_refl _, fp, h1, fun b hb => ⟨h2 b hb, h1.lt b hb⟩⟩
theorem Seg.rdV (h : Seg lo hi w v x) : RdV w (fun i => lo ≤ i ∧ i < hi) v x := by
  obtain ⟨h0, h1, fp, h2, h3⟩ := h
  exact h2.rdV.mono h3
theorem Seg.lt (h : Seg lo hi w v x) : ∀ i, (lo ≤ i ∧ i < hi) → i < w.heap.size := fun i hi => by have := h.2.1; omega
theorem RdV.old (h : RdV w (fun i => i < w.heap.size) v x) (hu : Ext w w') : RdV w' (fun i => i < w.heap.size) v x := h.keep fun i hi => hu.block i hi (by simp)
end

def ToC (α : Type) [Rep α] (ok : α → Prop) (f : Nat) : Prop := ∀ (v : Value) (x : α) (S : Nat → Prop) (w : World), RdV w S v x → (∀ b, S b → b < w.heap.size) → ok x →
  Calls Tryd.prog f #[v] w fun e w' => ∃ r, e = .returned r ∧ Fresh w.heap.size w' r x ∧ Ext w w'
def EqC (α : Type) [Rep α] [DecidableEq α] (f : Nat) : Prop := ∀ (v u : Value) (x y : α) (S S' : Nat → Prop) (w : World), RdV w S v x → RdV w S' u y →
  Calls Tryd.prog f #[v, u] w fun e w' => e = .returned (.bool (decide (x = y))) ∧ ∃ m, w' = w.drewN m
/-- marks: how many, and what is read behind them -/
class Mk (α : Type) where
  cnt : α → Nat
  mrk : Int → α → α
def MarkC (α : Type) [Rep α] [Mk α] (f : Nat) : Prop := ∀ (v : Value) (x : α) (fp : List Nat) (k : Int) (w : World), OwnV w fp v x → 0 ≤ k ∧ k + Mk.cnt x ≤ 4611686018427387904 →
  Calls Tryd.prog f #[v, .int .i64 k] w fun e w' => e = .returned (.int .i64 (k + Mk.cnt x)) ∧ OwnV w' fp v (Mk.mrk k x) ∧ Upd fp w w'
def HeldC (α : Type) [Rep α] [Mk α] (f : Nat) : Prop := ∀ (v : Value) (x : α) (S : Nat → Prop) (k : Int) (w : World), RdV w S v (Mk.mrk k x) → 0 ≤ k ∧ k + Mk.cnt x ≤ 4611686018427387904 →
  Calls Tryd.prog f #[v, .int .i64 k] w fun e w' => e = .returned (.int .i64 (k + Mk.cnt x)) ∧ ∃ m, w' = w.drewN m

instance : Mk (List Int) where
  cnt x := x.length
  mrk k x := seqI k x.length

section
variable {α : Type} [Rep α] {w : World} {lo hi : Nat} {v : Value} {x : α}
theorem MarkC.seg [Mk α] {f : Nat} (hf : MarkC α f) (h : Seg lo hi w v x) {k : Int} (hk : 0 ≤ k ∧ k + Mk.cnt x ≤ 4611686018427387904) :
    Calls Tryd.prog f #[v, .int .i64 k] w fun e w' => e = .returned (.int .i64 (k + Mk.cnt x)) ∧ Seg lo hi w' v (Mk.mrk k x) ∧ Mut lo hi w w' := by
  obtain ⟨h0, h1, fp, h2, h3⟩ := h
  exact (hf v x fp k w h2 hk).mono fun e w' ⟨he, ho, hu⟩ => ⟨he, ⟨h0, Nat.le_trans h1 hu.size, fp, ho, h3⟩, Mut.of_upd hu h3⟩
end

theorem EqC.same {α : Type} [Rep α] [DecidableEq α] {f : Nat} (hf : EqC α f) {v u : Value} {x y : α} {S S' : Nat → Prop} {w : World} (h : RdV w S v x) (h' : RdV w S' u y) (he : x = y) :
    Calls Tryd.prog f #[v, u] w fun e w' => e = .returned (.bool true) ∧ Mut 0 0 w w' :=
  (hf v u x y S S' w h h').mono fun e w' ⟨h1, m, h2⟩ => ⟨by rw [h1, decide_eq_true he], h2 ▸ Mut.drewN m⟩
theorem HeldC.mut {α : Type} [Rep α] [Mk α] {f : Nat} (hf : HeldC α f) {v : Value} {x : α} {S : Nat → Prop} {w : World} {k : Int} (h : RdV w S v (Mk.mrk k x)) (hk : 0 ≤ k ∧ k + Mk.cnt x ≤ 4611686018427387904) :
    Calls Tryd.prog f #[v, .int .i64 k] w fun e w' => e = .returned (.int .i64 (k + Mk.cnt x)) ∧ Mut 0 0 w w' :=
  (hf v x S k w h hk).mono fun e w' ⟨h1, m, h2⟩ => ⟨h1, h2 ▸ Mut.drewN m⟩
theorem cnt_ints (x : List Int) : Mk.cnt x = x.length := rfl

theorem toIntS_t : ToC (List Int) (fun x => x.length ≤ 17592186044416) 5 := fun v x S w h hS hl =>
  (toIntS_c v x S w h hS hl).mono fun e w' ⟨r, fp, he, ho, hb, hu⟩ => ⟨r, he, ⟨fp, ho, hb⟩, hu⟩
theorem eqIntS_t : EqC (List Int) 7 := eqIntS_c
theorem markIntS_t : MarkC (List Int) 8 := markIntS_c
theorem heldIntS_t : HeldC (List Int) 9 := fun v x S k w h hk =>
  (heldIntS_c v x.length S k w h hk).mono fun e w' ⟨he, hw⟩ => ⟨he, 0, hw.symm⟩
end Go.Proofs.YtdmlgmefnikhhaaDoor
