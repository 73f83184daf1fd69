/-
  What a value reads as in a world ('Rep': reading inside a set of blocks; owning a list of blocks), what a call may change ('Upd'), and the rules for make, append, stores and slices over them. No condition.
-/
import Derived.Test.YtgnlfjlenjfffaaDoorRw
import Derived.Deep.AppendSrc
namespace Go.Proofs.YtgnlfjlenjfffaaDoor.RW
open Go
open Go.RowKit (Below)

/-! ### what may change -/
structure Upd (fp : List Nat) (w w' : World) : Prop where
  os : w'.os = w.os
  tape : w'.tape = w.tape
  output : w'.output = w.output
  size : w.heap.size ≤ w'.heap.size
  block : ∀ b, b < w.heap.size → b ∉ fp → w'.heap[b]? = w.heap[b]?
abbrev Ext (w w' : World) : Prop := Upd [] w w'

theorem Upd.refl (fp : List Nat) (w : World) : Upd fp w w := ⟨rfl, rfl, rfl, Nat.le_refl _, fun _ _ _ => rfl⟩
theorem Upd.trans {fp fp' : List Nat} {a b c : World} (h : Upd fp a b) (k : Upd fp' b c) (hs : ∀ x ∈ fp', x ∈ fp ∨ a.heap.size ≤ x) : Upd fp a c :=
  ⟨k.os.trans h.os, k.tape.trans h.tape, k.output.trans h.output, Nat.le_trans h.size k.size, fun x hx hn =>
    (k.block x (Nat.lt_of_lt_of_le hx h.size) (fun hm => by rcases hs x hm with h1 | h1; exact hn h1; omega)).trans (h.block x hx hn)⟩
theorem Upd.trans0 {fp : List Nat} {a b c : World} (h : Upd fp a b) (k : Ext b c) : Upd fp a c := h.trans k (fun _ hx => by cases hx)
theorem Upd.mono {fp fp' : List Nat} {a b : World} (h : Upd fp a b) (hs : ∀ x ∈ fp, x ∈ fp' ∨ a.heap.size ≤ x) : Upd fp' a b :=
  ⟨h.os, h.tape, h.output, h.size, fun x hx hn => h.block x hx (fun hm => by rcases hs x hm with h1 | h1; exact hn h1; omega)⟩
theorem Upd.ext {fp : List Nat} {a b : World} (h : Upd fp a b) (hs : ∀ x ∈ fp, a.heap.size ≤ x) : Ext a b := h.mono (fun x hx => .inr (hs x hx))
theorem Upd.below {fp : List Nat} {a b : World} {B : Nat} (h : Upd fp a b) (hB : B ≤ a.heap.size) (hs : ∀ x ∈ fp, B ≤ x) : Below B a b :=
  ⟨h.os, h.tape, h.output, h.size, fun x hx => h.block x (Nat.lt_of_lt_of_le hx hB) (fun hm => by have := hs x hm; omega)⟩
theorem Upd.alloc (w : World) (o : Obj) : Ext w (w.alloc o) :=
  ⟨rfl, rfl, rfl, by simp, fun b hb _ => Below.heap_alloc w o b hb⟩
theorem Upd.drew (w : World) : Ext w w.drew := ⟨rfl, rfl, rfl, Nat.le_refl _, fun _ _ _ => rfl⟩
theorem Upd.setCell (w : World) (a : Addr) (v : Value) : Upd [a.block] w (w.setCell a v) :=
  ⟨rfl, rfl, rfl, by simp [World.setCell], fun b _ hn => Below.heap_setCell w a v b (fun e => hn (by simp [e]))⟩
theorem Upd.setCells (b o : Nat) : ∀ (l : List Value) (w : World), Upd [b] w (w.setCells b o l) := by
  intro l
  induction l generalizing o with
  | nil => exact fun w => Upd.refl _ w
  | cons v l ih => exact fun w => (Upd.setCell w ⟨b, o, none⟩ v).trans (ih (o + 1) _) (fun x hx => .inl hx)

/-! ### readings -/
class Rep (α : Type) where
  sz : Nat
  agg : Bool
  rd : World → (Nat → Prop) → List Value → α → Prop
  own : World → List Nat → List Value → α → Prop
  rd_len : ∀ {w S cs x}, rd w S cs x → cs.length = sz
  rd_one : ∀ {w S cs x}, rd w S cs x → ∀ u ∈ cs, u.oneCell' = true
  rd_mono : ∀ {w S S' cs x}, (∀ b, S b → S' b) → rd w S cs x → rd w S' cs x
  rd_keep : ∀ {w w' S cs x}, (∀ b, S b → w'.heap[b]? = w.heap[b]?) → rd w S cs x → rd w' S cs x
  own_rd : ∀ {w fp cs x}, own w fp cs x → rd w (· ∈ fp) cs x
  own_keep : ∀ {w w' fp cs x}, (∀ b ∈ fp, w'.heap[b]? = w.heap[b]?) → own w fp cs x → own w' fp cs x
  own_lt : ∀ {w fp cs x}, own w fp cs x → ∀ b ∈ fp, b < w.heap.size
  own_nodup : ∀ {w fp cs x}, own w fp cs x → fp.Nodup
open Rep

def inI (n : Int) : Prop := -9223372036854775808 ≤ n ∧ n ≤ 9223372036854775807

instance : Rep Int where
  sz := 1
  agg := false
  rd _ _ cs x := cs = [.int .i64 x] ∧ inI x
  own _ fp cs x := fp = [] ∧ cs = [.int .i64 x] ∧ inI x
  rd_len h := by rw [h.1]; rfl
  rd_one h u hu := by rw [h.1] at hu; simp at hu; subst hu; rfl
  rd_mono _ h := h
  rd_keep _ h := h
  own_rd h := h.2
  own_keep _ h := h
  own_lt h b hb := by rw [h.1] at hb; cases hb
  own_nodup h := by rw [h.1]; exact List.nodup_nil

instance : Rep Bool where
  sz := 1
  agg := false
  rd _ _ cs x := cs = [.bool x]
  own _ fp cs x := fp = [] ∧ cs = [.bool x]
  rd_len h := by rw [h]; rfl
  rd_one h u hu := by rw [h] at hu; simp at hu; subst hu; rfl
  rd_mono _ h := h
  rd_keep _ h := h
  own_rd h := h.2
  own_keep _ h := h
  own_lt h b hb := by rw [h.1] at hb; cases hb
  own_nodup h := by rw [h.1]; exact List.nodup_nil

/-- the cells of element i -/
def chk (cells : Array Value) (o s i : Nat) : List Value := (cells.toList.drop (o + i * s)).take s

/-- a slice that reads as xs -/
def RdG {α : Type} (s : Nat) (r : World → (Nat → Prop) → List Value → α → Prop) (w : World) (S : Nat → Prop) (A : Option Addr) (n c : Nat) (xs : List α) : Prop :=
  n = xs.length ∧ n ≤ c ∧ c ≤ maxLen ∧ (0 < xs.length → ∃ b o, A = some ⟨b, o, none⟩ ∧ S b ∧
    ∀ i (h : i < xs.length), ∃ cs, (∀ j u, cs[j]? = some u → w.cell? ⟨b, o + i * s + j, none⟩ = some u) ∧ r w S cs xs[i])
abbrev RdL {α : Type} [Rep α] (w : World) (S : Nat → Prop) (A : Option Addr) (n c : Nat) (xs : List α) : Prop := RdG (sz α) (rd (α := α)) w S A n c xs

/-- a slice whose row is the holder's own; of its elements q holds -/
def OwnG {α : Type} (s : Nat) (q : World → List Nat → List Value → α → Prop) (w : World) (fp : List Nat) (A : Option Addr) (n c : Nat) (xs : List α) : Prop :=
  (A = none ∧ n = 0 ∧ c = 0 ∧ xs = [] ∧ fp = []) ∨
  ∃ (g o : Nat) (cells : Array Value) (e : TypeId) (fps : List (List Nat)), A = some ⟨g, o, none⟩ ∧ w.heap[g]? = some (.cells cells e (0, 0)) ∧ n = xs.length ∧ n ≤ c ∧ c ≤ maxLen ∧ o + c * s ≤ cells.size ∧
    fps.length = xs.length ∧ fp = g :: fps.flatten ∧ fp.Nodup ∧ ∀ i (h : i < xs.length) (h' : i < fps.length), q w fps[i] (chk cells o s i) xs[i]
abbrev OwnL {α : Type} [Rep α] (w : World) (fp : List Nat) (A : Option Addr) (n c : Nat) (xs : List α) : Prop := OwnG (sz α) (own (α := α)) w fp A n c xs

theorem lt_of_some {w : World} {g : Nat} {o : Obj} (h : w.heap[g]? = some o) : g < w.heap.size := by
  rcases Nat.lt_or_ge g w.heap.size with h' | h'
  · exact h'
  · rw [Array.getElem?_eq_none h'] at h; cases h
theorem cell_some_lt {w : World} {a : Addr} {v : Value} (h : w.cell? a = some v) : a.block < w.heap.size := World.block_lt_of_cell? w a h
theorem cell_keep {w w' : World} {a : Addr} (h : w'.heap[a.block]? = w.heap[a.block]?) : w'.cell? a = w.cell? a := World.cell?_of_block h

section
variable {α : Type} {s : Nat}
theorem RdG.mono {r : World → (Nat → Prop) → List Value → α → Prop} {w : World} {S S' : Nat → Prop} {A : Option Addr} {n c : Nat} {xs : List α}
    (hr : ∀ {cs x}, r w S cs x → r w S' cs x) (hS : ∀ b, S b → S' b) (h : RdG s r w S A n c xs) : RdG s r w S' A n c xs :=
  ⟨h.1, h.2.1, h.2.2.1, fun hp => by
    obtain ⟨b, o, rfl, hb, hc⟩ := h.2.2.2 hp
    exact ⟨b, o, rfl, hS b hb, fun i hi => by obtain ⟨cs, h1, h2⟩ := hc i hi; exact ⟨cs, h1, hr h2⟩⟩⟩
theorem RdG.keep {r : World → (Nat → Prop) → List Value → α → Prop} {w w' : World} {S : Nat → Prop} {A : Option Addr} {n c : Nat} {xs : List α}
    (hr : ∀ {cs x}, r w S cs x → r w' S cs x) (hS : ∀ b, S b → w'.heap[b]? = w.heap[b]?) (h : RdG s r w S A n c xs) : RdG s r w' S A n c xs :=
  ⟨h.1, h.2.1, h.2.2.1, fun hp => by
    obtain ⟨b, o, rfl, hb, hc⟩ := h.2.2.2 hp
    exact ⟨b, o, rfl, hb, fun i hi => by
      obtain ⟨cs, h1, h2⟩ := hc i hi
      exact ⟨cs, fun j u hj => (cell_keep (hS b hb)).trans (h1 j u hj), hr h2⟩⟩⟩
theorem chk_cell {w : World} {g o i j : Nat} {cells : Array Value} {e : TypeId} {fr : Nat × Nat} (h : w.heap[g]? = some (.cells cells e fr)) {u : Value} (hu : (chk cells o s i)[j]? = some u) :
    w.cell? ⟨g, o + i * s + j, none⟩ = some u := by
  rw [cell_of_row w g _ cells e fr h]
  unfold chk at hu
  rw [List.getElem?_take] at hu
  split at hu
  · rw [List.getElem?_drop] at hu
    rw [← Array.getElem?_toList]; exact hu
  · cases hu
theorem chk_len {cells : Array Value} {o i : Nat} (h : o + (i + 1) * s ≤ cells.size) : (chk cells o s i).length = s := by
  unfold chk
  rw [List.length_take, List.length_drop, Array.length_toList]
  rw [Nat.add_mul] at h; omega
theorem OwnG.rdG {q : World → List Nat → List Value → α → Prop} {r : World → (Nat → Prop) → List Value → α → Prop} {w : World} {fp : List Nat} {S : Nat → Prop} {A : Option Addr} {n c : Nat} {xs : List α}
    (hq : ∀ {f cs x}, (∀ b ∈ f, S b) → q w f cs x → r w S cs x) (hS : ∀ b ∈ fp, S b) (h : OwnG s q w fp A n c xs) : RdG s r w S A n c xs := by
  rcases h with ⟨rfl, rfl, rfl, rfl, rfl⟩ | ⟨g, o, cells, e, fps, rfl, hg, hn, hnc, hcm, hsz, hl, rfl, hnd, hqs⟩
  · exact ⟨rfl, Nat.le_refl _, by unfold maxLen; omega, fun h => absurd h (by simp)⟩
  · refine ⟨hn, hnc, hcm, fun _ => ⟨g, o, rfl, hS g (by simp), fun i hi => ⟨chk cells o s i, fun j u hu => chk_cell hg hu, hq (fun b hb => hS b ?_) (hqs i hi (by omega))⟩⟩⟩
    exact List.mem_cons_of_mem _ (List.mem_flatten.2 ⟨_, List.getElem_mem _, hb⟩)
theorem OwnG.keep {q : World → List Nat → List Value → α → Prop} {w w' : World} {fp : List Nat} {A : Option Addr} {n c : Nat} {xs : List α}
    (hq : ∀ {f cs x}, (∀ b ∈ f, w'.heap[b]? = w.heap[b]?) → q w f cs x → q w' f cs x) (hS : ∀ b ∈ fp, w'.heap[b]? = w.heap[b]?) (h : OwnG s q w fp A n c xs) : OwnG s q w' fp A n c xs := by
  rcases h with h | ⟨g, o, cells, e, fps, rfl, hg, hn, hnc, hcm, hsz, hl, rfl, hnd, hqs⟩
  · exact .inl h
  · refine .inr ⟨g, o, cells, e, fps, rfl, (hS g (by simp)).trans hg, hn, hnc, hcm, hsz, hl, rfl, hnd, fun i hi hi' => hq (fun b hb => hS b ?_) (hqs i hi hi')⟩
    exact List.mem_cons_of_mem _ (List.mem_flatten.2 ⟨_, List.getElem_mem _, hb⟩)
theorem OwnG.lt {q : World → List Nat → List Value → α → Prop} {w : World} {fp : List Nat} {A : Option Addr} {n c : Nat} {xs : List α}
    (hq : ∀ {f cs x}, q w f cs x → ∀ b ∈ f, b < w.heap.size) (h : OwnG s q w fp A n c xs) : ∀ b ∈ fp, b < w.heap.size := by
  rcases h with ⟨rfl, rfl, rfl, rfl, rfl⟩ | ⟨g, o, cells, e, fps, rfl, hg, hn, hnc, hcm, hsz, hl, rfl, hnd, hqs⟩
  · intro b hb; cases hb
  · intro b hb
    rcases List.mem_cons.1 hb with rfl | hb
    · exact lt_of_some hg
    · obtain ⟨f, hf, hb⟩ := List.mem_flatten.1 hb
      obtain ⟨i, hi, rfl⟩ := List.mem_iff_getElem.1 hf
      exact hq (hqs i (by omega) hi) b hb
theorem OwnG.nodup {q : World → List Nat → List Value → α → Prop} {w : World} {fp : List Nat} {A : Option Addr} {n c : Nat} {xs : List α} (h : OwnG s q w fp A n c xs) : fp.Nodup := by
  rcases h with ⟨_, _, _, _, rfl⟩ | ⟨_, _, _, _, _, _, _, _, _, _, _, _, _, hnd, _⟩
  · exact List.nodup_nil
  · exact hnd
theorem OwnG.n_eq {q : World → List Nat → List Value → α → Prop} {w : World} {fp : List Nat} {A : Option Addr} {n c : Nat} {xs : List α} (h : OwnG s q w fp A n c xs) : n = xs.length := by
  rcases h with ⟨_, rfl, _, rfl, _⟩ | ⟨_, _, _, _, _, _, _, hn, _⟩
  · rfl
  · exact hn
end

instance {α : Type} [Rep α] : Rep (List α) where
  sz := 1
  agg := false
  rd w S cs xs := ∃ A n c, cs = [.slice A n c] ∧ RdL w S A n c xs
  own w fp cs xs := ∃ A n c, cs = [.slice A n c] ∧ OwnL w fp A n c xs
  rd_len := by rintro w S cs x ⟨A, n, c, rfl, _⟩; rfl
  rd_one := by rintro w S cs x ⟨A, n, c, rfl, _⟩ u hu; simp at hu; subst hu; rfl
  rd_mono := by rintro w S S' cs x h ⟨A, n, c, rfl, h'⟩; exact ⟨A, n, c, rfl, h'.mono (rd_mono h) h⟩
  rd_keep := by rintro w w' S cs x h ⟨A, n, c, rfl, h'⟩; exact ⟨A, n, c, rfl, h'.keep (rd_keep h) h⟩
  own_rd := by rintro w fp cs x ⟨A, n, c, rfl, h'⟩; exact ⟨A, n, c, rfl, h'.rdG (fun hf h => rd_mono hf (own_rd h)) (fun _ h => h)⟩
  own_keep := by rintro w w' fp cs x h ⟨A, n, c, rfl, h'⟩; exact ⟨A, n, c, rfl, h'.keep own_keep h⟩
  own_lt := by rintro w fp cs x ⟨A, n, c, rfl, h'⟩; exact h'.lt own_lt
  own_nodup := by rintro w fp cs x ⟨A, n, c, rfl, h'⟩; exact h'.nodup

instance {α β : Type} [Rep α] [Rep β] : Rep (α × β) where
  sz := sz α + sz β
  agg := true
  rd w S cs x := ∃ c1 c2, cs = c1 ++ c2 ∧ rd w S c1 x.1 ∧ rd w S c2 x.2
  own w fp cs x := ∃ c1 c2 f1 f2, cs = c1 ++ c2 ∧ fp = f1 ++ f2 ∧ own w f1 c1 x.1 ∧ own w f2 c2 x.2 ∧ (f1 ++ f2).Nodup
  rd_len := by rintro w S cs x ⟨c1, c2, rfl, h1, h2⟩; simp [rd_len h1, rd_len h2]
  rd_one := by
    rintro w S cs x ⟨c1, c2, rfl, h1, h2⟩ u hu
    rcases List.mem_append.1 hu with h | h
    · exact rd_one h1 u h
    · exact rd_one h2 u h
  rd_mono := by rintro w S S' cs x h ⟨c1, c2, rfl, h1, h2⟩; exact ⟨c1, c2, rfl, rd_mono h h1, rd_mono h h2⟩
  rd_keep := by rintro w w' S cs x h ⟨c1, c2, rfl, h1, h2⟩; exact ⟨c1, c2, rfl, rd_keep h h1, rd_keep h h2⟩
  own_rd := by
    rintro w fp cs x ⟨c1, c2, f1, f2, rfl, rfl, h1, h2, _⟩
    exact ⟨c1, c2, rfl, rd_mono (fun b hb => List.mem_append_left _ hb) (own_rd h1), rd_mono (fun b hb => List.mem_append_right _ hb) (own_rd h2)⟩
  own_keep := by
    rintro w w' fp cs x h ⟨c1, c2, f1, f2, rfl, rfl, h1, h2, hn⟩
    exact ⟨c1, c2, f1, f2, rfl, rfl, own_keep (fun b hb => h b (List.mem_append_left _ hb)) h1, own_keep (fun b hb => h b (List.mem_append_right _ hb)) h2, hn⟩
  own_lt := by
    rintro w fp cs x ⟨c1, c2, f1, f2, rfl, rfl, h1, h2, _⟩ b hb
    rcases List.mem_append.1 hb with h | h
    · exact own_lt h1 b h
    · exact own_lt h2 b h
  own_nodup := by rintro w fp cs x ⟨c1, c2, f1, f2, rfl, rfl, _, _, hn⟩; exact hn

/-! ### values -/
def vOf (a : Bool) (cs : List Value) : Value := bif a then .agg cs.toArray else cs.headD undef
def RdV {α : Type} [Rep α] (w : World) (S : Nat → Prop) (v : Value) (x : α) : Prop := ∃ cs, rd w S cs x ∧ v = vOf (agg α) cs
def OwnV {α : Type} [Rep α] (w : World) (fp : List Nat) (v : Value) (x : α) : Prop := ∃ cs, own w fp cs x ∧ v = vOf (agg α) cs
/-- new memory, from block B on, of the holder's own -/
def Fresh {α : Type} [Rep α] (B : Nat) (w : World) (v : Value) (x : α) : Prop := ∃ fp, OwnV w fp v x ∧ ∀ b ∈ fp, B ≤ b

section
variable {α : Type} [Rep α] {w w' : World} {S S' : Nat → Prop} {fp : List Nat} {v : Value} {x : α} {xs : List α} {B : Nat}
theorem RdV.mono (h : RdV w S v x) (hS : ∀ b, S b → S' b) : RdV w S' v x := by obtain ⟨cs, h1, h2⟩ := h; exact ⟨cs, rd_mono hS h1, h2⟩
theorem RdV.keep (h : RdV w S v x) (hS : ∀ b, S b → w'.heap[b]? = w.heap[b]?) : RdV w' S v x := by obtain ⟨cs, h1, h2⟩ := h; exact ⟨cs, rd_keep hS h1, h2⟩
theorem OwnV.keep (h : OwnV w fp v x) (hS : ∀ b ∈ fp, w'.heap[b]? = w.heap[b]?) : OwnV w' fp v x := by obtain ⟨cs, h1, h2⟩ := h; exact ⟨cs, own_keep hS h1, h2⟩
theorem OwnV.lt (h : OwnV w fp v x) : ∀ b ∈ fp, b < w.heap.size := by obtain ⟨cs, h1, h2⟩ := h; exact own_lt h1
theorem OwnV.nodup (h : OwnV w fp v x) : fp.Nodup := by obtain ⟨cs, h1, h2⟩ := h; exact own_nodup h1
theorem OwnV.upd {f : List Nat} (h : OwnV w fp v x) (hu : Upd f w w') (hd : ∀ b ∈ fp, b ∉ f) : OwnV w' fp v x := h.keep fun b hb => hu.block b (h.lt b hb) (hd b hb)
theorem OwnV.ext (h : OwnV w fp v x) (hu : Ext w w') : OwnV w' fp v x := h.upd hu (fun _ _ h => by cases h)
theorem OwnV.rdV (h : OwnV w fp v x) : RdV w (· ∈ fp) v x := by obtain ⟨cs, h1, h2⟩ := h; exact ⟨cs, own_rd h1, h2⟩
theorem Fresh.ext (h : Fresh B w v x) (hu : Ext w w') : Fresh B w' v x := by obtain ⟨fp, h1, h2⟩ := h; exact ⟨fp, h1.ext hu, h2⟩
theorem Fresh.mono {B' : Nat} (h : Fresh B w v x) (hB : B' ≤ B) : Fresh B' w v x := by obtain ⟨fp, h1, h2⟩ := h; exact ⟨fp, h1, fun b hb => Nat.le_trans hB (h2 b hb)⟩
theorem Fresh.rdV (h : Fresh B w v x) : RdV w (fun b => B ≤ b ∧ b < w.heap.size) v x := by
  obtain ⟨fp, h1, h2⟩ := h
  exact h1.rdV.mono fun b hb => ⟨h2 b hb, h1.lt b hb⟩
/-- what was read in old blocks is read behind any change elsewhere -/
theorem RdV.upd {f : List Nat} (h : RdV w S v x) (hu : Upd f w w') (hS : ∀ b, S b → b < w.heap.size ∧ b ∉ f) : RdV w' S v x := h.keep fun b hb => hu.block b (hS b hb).1 (hS b hb).2

theorem RdV.int {w : World} {S : Nat → Prop} {v : Value} {x : Int} (h : RdV w S v x) : v = .int .i64 x ∧ inI x := by
  obtain ⟨cs, ⟨rfl, h2⟩, rfl⟩ := h; exact ⟨rfl, h2⟩
theorem RdV.int_mk {w : World} {S : Nat → Prop} {x : Int} (h : inI x) : RdV w S (.int .i64 x) x := ⟨[.int .i64 x], ⟨rfl, h⟩, rfl⟩
theorem RdV.list (h : RdV w S v xs) : ∃ A n c, v = .slice A n c ∧ RdL w S A n c xs := by
  obtain ⟨cs, ⟨A, n, c, rfl, h2⟩, rfl⟩ := h; exact ⟨A, n, c, rfl, h2⟩
theorem RdV.list_mk {A : Option Addr} {n c : Nat} (h : RdL w S A n c xs) : RdV w S (.slice A n c) xs := ⟨_, ⟨A, n, c, rfl, h⟩, rfl⟩
theorem OwnV.list (h : OwnV w fp v xs) : ∃ A n c, v = .slice A n c ∧ OwnL w fp A n c xs := by
  obtain ⟨cs, ⟨A, n, c, rfl, h2⟩, rfl⟩ := h; exact ⟨A, n, c, rfl, h2⟩
theorem OwnV.list_mk {A : Option Addr} {n c : Nat} (h : OwnL w fp A n c xs) : OwnV w fp (.slice A n c) xs := ⟨_, ⟨A, n, c, rfl, h⟩, rfl⟩

/-- element k: its address, its cells, its reading -/
theorem RdL.at_ {A : Option Addr} {n c k : Nat} (h : RdL w S A n c xs) (hk : k < xs.length) :
    ∃ b o cs, A = some ⟨b, o, none⟩ ∧ S b ∧ (∀ j u, cs[j]? = some u → w.cell? ⟨b, o + k * sz α + j, none⟩ = some u) ∧ rd w S cs xs[k] := by
  obtain ⟨b, o, rfl, hb, hc⟩ := h.2.2.2 (by omega)
  obtain ⟨cs, h1, h2⟩ := hc k hk
  exact ⟨b, o, cs, rfl, hb, h1, h2⟩
end
theorem RdL.atI {w : World} {S : Nat → Prop} {xs : List Int} {A : Option Addr} {n c k : Nat} (h : RdL w S A n c xs) (hk : k < xs.length) :
    ∃ b o, A = some ⟨b, o, none⟩ ∧ w.cell? (Addr.add ⟨b, o, none⟩ (k * 1)) = some (.int .i64 xs[k]) ∧ inI xs[k] := by
  obtain ⟨b, o, cs, rfl, _, h1, rfl, h2⟩ := RdL.at_ h hk
  exact ⟨b, o, rfl, by rw [Addr.add_lit]; exact h1 0 _ rfl, h2⟩
theorem RdL.atL {α : Type} [Rep α] {w : World} {S : Nat → Prop} {xs : List (List α)} {A : Option Addr} {n c k : Nat} (h : RdL w S A n c xs) (hk : k < xs.length) :
    ∃ b o v, A = some ⟨b, o, none⟩ ∧ w.cell? (Addr.add ⟨b, o, none⟩ (k * 1)) = some v ∧ RdV w S v xs[k] := by
  obtain ⟨b, o, cs, rfl, _, h1, A', n', c', rfl, h2⟩ := RdL.at_ h hk
  exact ⟨b, o, _, rfl, by rw [Addr.add_lit]; exact h1 0 _ rfl, RdV.list_mk h2⟩
end Go.Proofs.YtgnlfjlenjfffaaDoor.RW
