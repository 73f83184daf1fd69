/-
  What a value reads as in a world ('Rep'), with the headers of its slices as ghosts; 'Ent': what is known of one thing in memory; 'Cx': the state of a walk: what has changed since the call began, and a list of what is known. No condition.
-/
import Derived.Test.YtnlbhdepagkjgaaDoorZEv
import Derived.Deep.AppendSrc
import Derived.Deep.Quiet
namespace Go.Proofs.YtnlbhdepagkjgaaDoor.RW
open Go
open Go.RowKit (Below)

/-! ### what may change -/
structure Upd (fp : List Nat) (w w' : World) : Prop where
  os : w'.os = w.os
  tape : w'.tape = w.tape
  output : w'.output = w.output
  size : w.heap.size ≤ w'.heap.size
  block : ∀ b, b < w.heap.size → b ∉ fp → w'.heap[b]? = w.heap[b]?
abbrev Ext (w w' : World) : Prop := Upd [] w w'

theorem Upd.refl (fp : List Nat) (w : World) : Upd fp w w := ⟨rfl, rfl, rfl, Nat.le_refl _, fun _ _ _ => rfl⟩
theorem Upd.trans {fp fp' : List Nat} {a b c : World} (h : Upd fp a b) (k : Upd fp' b c) (hs : ∀ x ∈ fp', x ∈ fp ∨ a.heap.size ≤ x) : Upd fp a c :=
  ⟨k.os.trans h.os, k.tape.trans h.tape, k.output.trans h.output, Nat.le_trans h.size k.size, fun x hx hn =>
    (k.block x (Nat.lt_of_lt_of_le hx h.size) (fun hm => by rcases hs x hm with h1 | h1; exact hn h1; omega)).trans (h.block x hx hn)⟩
theorem Upd.trans0 {fp : List Nat} {a b c : World} (h : Upd fp a b) (k : Ext b c) : Upd fp a c := h.trans k (fun _ hx => by cases hx)
theorem Upd.mono {fp fp' : List Nat} {a b : World} (h : Upd fp a b) (hs : ∀ x ∈ fp, x ∈ fp' ∨ a.heap.size ≤ x) : Upd fp' a b :=
  ⟨h.os, h.tape, h.output, h.size, fun x hx hn => h.block x hx (fun hm => by rcases hs x hm with h1 | h1; exact hn h1; omega)⟩
theorem Upd.ext {fp : List Nat} {a b : World} (h : Upd fp a b) (hs : ∀ x ∈ fp, a.heap.size ≤ x) : Ext a b := h.mono (fun x hx => .inr (hs x hx))
theorem Upd.below {fp : List Nat} {a b : World} {B : Nat} (h : Upd fp a b) (hB : B ≤ a.heap.size) (hs : ∀ x ∈ fp, B ≤ x) : Below B a b :=
  ⟨h.os, h.tape, h.output, h.size, fun x hx => h.block x (Nat.lt_of_lt_of_le hx hB) (fun hm => by have := hs x hm; omega)⟩
theorem Upd.alloc (w : World) (o : Obj) : Ext w (w.alloc o) :=
  ⟨rfl, rfl, rfl, by simp, fun b hb _ => Below.heap_alloc w o b hb⟩
theorem Upd.drew (w : World) : Ext w w.drew := ⟨rfl, rfl, rfl, Nat.le_refl _, fun _ _ _ => rfl⟩
theorem Upd.setCell (w : World) (a : Addr) (v : Value) : Upd [a.block] w (w.setCell a v) :=
  ⟨rfl, rfl, rfl, by simp [World.setCell], fun b _ hn => Below.heap_setCell w a v b (fun e => hn (by simp [e]))⟩
theorem Upd.setCells (b o : Nat) : ∀ (l : List Value) (w : World), Upd [b] w (w.setCells b o l) := by
  intro l
  induction l generalizing o with
  | nil => exact fun w => Upd.refl _ w
  | cons v l ih => exact fun w => (Upd.setCell w ⟨b, o, none⟩ v).trans (ih (o + 1) _) (fun x hx => .inl hx)
theorem ext_drewN (w : World) (n : Nat) : Ext w (w.drewN n) := ⟨rfl, rfl, rfl, Nat.le_refl _, fun _ _ _ => rfl⟩

theorem lt_of_some {w : World} {g : Nat} {o : Obj} (h : w.heap[g]? = some o) : g < w.heap.size := by
  rcases Nat.lt_or_ge g w.heap.size with h' | h'
  · exact h'
  · rw [Array.getElem?_eq_none h'] at h; cases h
theorem cell_some_lt {w : World} {a : Addr} {v : Value} (h : w.cell? a = some v) : a.block < w.heap.size := World.block_lt_of_cell? w a h
theorem cell_keep {w w' : World} {a : Addr} (h : w'.heap[a.block]? = w.heap[a.block]?) : w'.cell? a = w.cell? a := World.cell?_of_block h

/-! ### headers -/
structure Hd where
  a : Option Addr
  n : Nat
  c : Nat
def Hd.v (h : Hd) : Value := .slice h.a h.n h.c
def nilH : Hd := ⟨none, 0, 0⟩

/-! ### readings -/
class Rep (α : Type) where
  Gh : Type
  sz : Nat
  agg : Bool
  cl : α → Gh → List Value
  rd : World → (Nat → Prop) → α → Gh → Prop
  own : World → (Nat → Prop) → List Nat → α → Gh → Prop
  cl_len : ∀ x g, (cl x g).length = sz
  cl_one : ∀ x g, ∀ u ∈ cl x g, u.oneCell' = true
  rd_mono : ∀ {w S S' x g}, (∀ b, S b → S' b) → rd w S x g → rd w S' x g
  rd_keep : ∀ {w w' S x g}, (∀ b, S b → w'.heap[b]? = w.heap[b]?) → rd w S x g → rd w' S x g
  own_rd : ∀ {w S fp x g}, own w S fp x g → rd w (fun b => S b ∨ b ∈ fp) x g
  own_mono : ∀ {w S S' fp x g}, (∀ b, S b → S' b) → own w S fp x g → own w S' fp x g
  own_keep : ∀ {w w' S fp x g}, (∀ b, S b → w'.heap[b]? = w.heap[b]?) → (∀ b ∈ fp, w'.heap[b]? = w.heap[b]?) → own w S fp x g → own w' S fp x g
  own_lt : ∀ {w S fp x g}, own w S fp x g → ∀ b ∈ fp, b < w.heap.size
  own_nd : ∀ {w S fp x g}, own w S fp x g → fp.Nodup
  cl_inj : ∀ x g g', cl x g = cl x g' → g = g'
open Rep

/-- one-cell types that hold no memory -/
instance : Rep Int where
  Gh := Unit
  sz := 1
  agg := false
  cl x _ := [.int .i64 x]
  rd _ _ _ _ := True
  own _ _ fp _ _ := fp = []
  cl_len _ _ := rfl
  cl_one _ _ u hu := by simp at hu; subst hu; rfl
  rd_mono _ h := h
  rd_keep _ h := h
  own_rd _ := trivial
  own_mono _ h := h
  own_keep _ _ h := h
  own_lt h b hb := by rw [h] at hb; cases hb
  own_nd h := by rw [h]; exact List.nodup_nil
  cl_inj _ _ _ _ := rfl
instance : Rep Bool where
  Gh := Unit
  sz := 1
  agg := false
  cl x _ := [.bool x]
  rd _ _ _ _ := True
  own _ _ fp _ _ := fp = []
  cl_len _ _ := rfl
  cl_one _ _ u hu := by simp at hu; subst hu; rfl
  rd_mono _ h := h
  rd_keep _ h := h
  own_rd _ := trivial
  own_mono _ h := h
  own_keep _ _ h := h
  own_lt h b hb := by rw [h] at hb; cases hb
  own_nd h := by rw [h]; exact List.nodup_nil
  cl_inj _ _ _ _ := rfl

/-- what is shared: read, never written -/
def Sh (α : Type) : Type := α
instance {α : Type} [Rep α] : Rep (Sh α) where
  Gh := Gh α
  sz := sz α
  agg := agg α
  cl x g := cl (α := α) x g
  rd w S x g := rd (α := α) w S x g
  own w S fp x g := fp = [] ∧ rd (α := α) w S x g
  cl_len x g := cl_len (α := α) x g
  cl_one x g := cl_one (α := α) x g
  rd_mono h k := rd_mono (α := α) h k
  rd_keep h k := rd_keep (α := α) h k
  own_rd h := rd_mono (α := α) (fun _ h => .inl h) h.2
  own_mono h k := ⟨k.1, rd_mono (α := α) h k.2⟩
  own_keep h _ k := ⟨k.1, rd_keep (α := α) h k.2⟩
  own_lt h b hb := by rw [h.1] at hb; cases hb
  own_nd h := by rw [h.1]; exact List.nodup_nil
  cl_inj x g g' h := cl_inj (α := α) x g g' h

/-- the cells of element i -/
def chk (cells : Array Value) (o s i : Nat) : List Value := (cells.toList.drop (o + i * s)).take s

/-- a slice that reads as xs -/
def RdG {α : Type} (s : Nat) (r : World → List Value → α → Prop) (w : World) (S : Nat → Prop) (A : Option Addr) (n c : Nat) (xs : List α) : Prop :=
  n = xs.length ∧ n ≤ c ∧ c ≤ maxLen ∧ (0 < xs.length → ∃ b o, A = some ⟨b, o, none⟩ ∧ S b ∧
    ∀ i (h : i < xs.length), ∃ cs, (∀ j u, cs[j]? = some u → w.cell? ⟨b, o + i * s + j, none⟩ = some u) ∧ r w cs xs[i])

/-- a slice whose row is the holder's own; of its elements q holds -/
def OwnG {α : Type} (s : Nat) (q : World → List Nat → List Value → α → Prop) (w : World) (fp : List Nat) (A : Option Addr) (n c : Nat) (xs : List α) : Prop :=
  (A = none ∧ n = 0 ∧ c = 0 ∧ xs = [] ∧ fp = []) ∨
  ∃ (g o : Nat) (cells : Array Value) (e : TypeId) (fps : List (List Nat)), A = some ⟨g, o, none⟩ ∧ w.heap[g]? = some (.cells cells e (0, 0)) ∧ n = xs.length ∧ n ≤ c ∧ c ≤ maxLen ∧ o + c * s ≤ cells.size ∧
    fps.length = xs.length ∧ fp = g :: fps.flatten ∧ fp.Nodup ∧ ∀ i (h : i < xs.length) (h' : i < fps.length), q w fps[i] (chk cells o s i) xs[i]

section
variable {α : Type} {s : Nat}
theorem RdG.mono {r r' : World → List Value → α → Prop} {w : World} {S S' : Nat → Prop} {A : Option Addr} {n c : Nat} {xs : List α}
    (hr : ∀ {cs x}, r w cs x → r' w cs x) (hS : ∀ b, S b → S' b) (h : RdG s r w S A n c xs) : RdG s r' w S' A n c xs :=
  ⟨h.1, h.2.1, h.2.2.1, fun hp => by
    obtain ⟨b, o, rfl, hb, hc⟩ := h.2.2.2 hp
    exact ⟨b, o, rfl, hS b hb, fun i hi => by obtain ⟨cs, h1, h2⟩ := hc i hi; exact ⟨cs, h1, hr h2⟩⟩⟩
theorem RdG.keep {r : World → List Value → α → Prop} {w w' : World} {S : Nat → Prop} {A : Option Addr} {n c : Nat} {xs : List α}
    (hr : ∀ {cs x}, r w cs x → r w' cs x) (hS : ∀ b, S b → w'.heap[b]? = w.heap[b]?) (h : RdG s r w S A n c xs) : RdG s r w' S A n c xs :=
  ⟨h.1, h.2.1, h.2.2.1, fun hp => by
    obtain ⟨b, o, rfl, hb, hc⟩ := h.2.2.2 hp
    exact ⟨b, o, rfl, hb, fun i hi => by
      obtain ⟨cs, h1, h2⟩ := hc i hi
      exact ⟨cs, fun j u hj => (cell_keep (hS b hb)).trans (h1 j u hj), hr h2⟩⟩⟩
theorem chk_cell {w : World} {g o i j : Nat} {cells : Array Value} {e : TypeId} {fr : Nat × Nat} {u : Value} (h : w.heap[g]? = some (.cells cells e fr)) (hu : (chk cells o s i)[j]? = some u) :
    w.cell? ⟨g, o + i * s + j, none⟩ = some u := by
  rw [cell_of_row w g _ cells e fr h]
  unfold chk at hu
  rw [List.getElem?_take] at hu
  split at hu
  · rw [List.getElem?_drop] at hu
    rw [← Array.getElem?_toList]; exact hu
  · cases hu
theorem OwnG.rdG {q : World → List Nat → List Value → α → Prop} {r : World → List Value → α → Prop} {w : World} {fp : List Nat} {S : Nat → Prop} {A : Option Addr} {n c : Nat} {xs : List α}
    (hq : ∀ {f cs x}, (∀ b ∈ f, S b) → q w f cs x → r w cs x) (hS : ∀ b ∈ fp, S b) (h : OwnG s q w fp A n c xs) : RdG s r w S A n c xs := by
  rcases h with ⟨rfl, rfl, rfl, rfl, rfl⟩ | ⟨g, o, cells, e, fps, rfl, hg, hn, hnc, hcm, hsz, hl, rfl, hnd, hqs⟩
  · exact ⟨rfl, Nat.le_refl _, by unfold maxLen; omega, fun h => absurd h (by simp)⟩
  · refine ⟨hn, hnc, hcm, fun _ => ⟨g, o, rfl, hS g (by simp), fun i hi => ⟨chk cells o s i, fun j u hu => chk_cell hg hu, hq (fun b hb => hS b ?_) (hqs i hi (by omega))⟩⟩⟩
    exact List.mem_cons_of_mem _ (List.mem_flatten.2 ⟨_, List.getElem_mem _, hb⟩)
theorem OwnG.keep {q q' : World → List Nat → List Value → α → Prop} {w w' : World} {fp : List Nat} {A : Option Addr} {n c : Nat} {xs : List α}
    (hq : ∀ {f cs x}, (∀ b ∈ f, b ∈ fp) → q w f cs x → q' w' f cs x) (hS : ∀ b ∈ fp, w'.heap[b]? = w.heap[b]?) (h : OwnG s q w fp A n c xs) : OwnG s q' w' fp A n c xs := by
  rcases h with h | ⟨g, o, cells, e, fps, rfl, hg, hn, hnc, hcm, hsz, hl, rfl, hnd, hqs⟩
  · exact .inl h
  · refine .inr ⟨g, o, cells, e, fps, rfl, (hS g (by simp)).trans hg, hn, hnc, hcm, hsz, hl, rfl, hnd, fun i hi hi' => hq (fun b hb => ?_) (hqs i hi hi')⟩
    exact List.mem_cons_of_mem _ (List.mem_flatten.2 ⟨_, List.getElem_mem _, hb⟩)
theorem OwnG.lt {q : World → List Nat → List Value → α → Prop} {w : World} {fp : List Nat} {A : Option Addr} {n c : Nat} {xs : List α}
    (hq : ∀ {f cs x}, q w f cs x → ∀ b ∈ f, b < w.heap.size) (h : OwnG s q w fp A n c xs) : ∀ b ∈ fp, b < w.heap.size := by
  rcases h with ⟨rfl, rfl, rfl, rfl, rfl⟩ | ⟨g, o, cells, e, fps, rfl, hg, hn, hnc, hcm, hsz, hl, rfl, hnd, hqs⟩
  · intro b hb; cases hb
  · intro b hb
    rcases List.mem_cons.1 hb with rfl | hb
    · exact lt_of_some hg
    · obtain ⟨f, hf, hb⟩ := List.mem_flatten.1 hb
      obtain ⟨i, hi, rfl⟩ := List.mem_iff_getElem.1 hf
      exact hq (hqs i (by omega) hi) b hb
theorem OwnG.nodup {q : World → List Nat → List Value → α → Prop} {w : World} {fp : List Nat} {A : Option Addr} {n c : Nat} {xs : List α} (h : OwnG s q w fp A n c xs) : fp.Nodup := by
  rcases h with ⟨_, _, _, _, rfl⟩ | ⟨_, _, _, _, _, _, _, _, _, _, _, _, _, hnd, _⟩
  · exact List.nodup_nil
  · exact hnd
theorem OwnG.n_eq {q : World → List Nat → List Value → α → Prop} {w : World} {fp : List Nat} {A : Option Addr} {n c : Nat} {xs : List α} (h : OwnG s q w fp A n c xs) : n = xs.length := by
  rcases h with ⟨_, rfl, _, rfl, _⟩ | ⟨_, _, _, _, _, _, _, hn, _⟩
  · rfl
  · exact hn
end

/-- an element's cells, and what is known of it -/
def qOf {α : Type} [Rep α] (S : Nat → Prop) (w : World) (f : List Nat) (cs : List Value) (x : α) : Prop := ∃ g, cs = cl x g ∧ own w S f x g
def rOf {α : Type} [Rep α] (S : Nat → Prop) (w : World) (cs : List Value) (x : α) : Prop := ∃ g, cs = cl x g ∧ rd w S x g

instance {α : Type} [Rep α] : Rep (List α) where
  Gh := Hd
  sz := 1
  agg := false
  cl _ h := [h.v]
  rd w S xs h := RdG (sz α) (rOf S) w S h.a h.n h.c xs
  own w S fp xs h := OwnG (sz α) (qOf S) w fp h.a h.n h.c xs
  cl_len _ _ := rfl
  cl_one _ _ u hu := by simp at hu; subst hu; rfl
  rd_mono hS h := h.mono (fun ⟨g, h1, h2⟩ => ⟨g, h1, rd_mono hS h2⟩) hS
  rd_keep hS h := h.keep (fun ⟨g, h1, h2⟩ => ⟨g, h1, rd_keep hS h2⟩) hS
  own_rd h := h.rdG (S := fun b => _ ∨ b ∈ _) (fun hf ⟨g, h1, h2⟩ => ⟨g, h1, rd_mono (fun b hb => by rcases hb with hb | hb; exact .inl hb; exact hf b hb) (own_rd h2)⟩) (fun _ h => .inr h)
  own_mono hS h := h.keep (fun _ ⟨g, h1, h2⟩ => ⟨g, h1, own_mono hS h2⟩) (fun _ _ => rfl)
  own_keep hS hf h := h.keep (fun hm ⟨g, h1, h2⟩ => ⟨g, h1, own_keep hS (fun b hb => hf b (hm b hb)) h2⟩) hf
  own_lt h := h.lt (fun ⟨_, _, h2⟩ => own_lt h2)
  own_nd h := h.nodup
  cl_inj x g g' h := by
    obtain ⟨a, n, c⟩ := g
    obtain ⟨a', n', c'⟩ := g'
    simp only [Hd.v, List.cons.injEq, Value.slice.injEq, and_true] at h
    obtain ⟨rfl, rfl, rfl⟩ := h; rfl

instance {α β : Type} [Rep α] [Rep β] : Rep (α × β) where
  Gh := Gh α × Gh β
  sz := sz α + sz β
  agg := true
  cl x g := cl x.1 g.1 ++ cl x.2 g.2
  rd w S x g := rd w S x.1 g.1 ∧ rd w S x.2 g.2
  own w S fp x g := ∃ f1 f2, fp = f1 ++ f2 ∧ own w S f1 x.1 g.1 ∧ own w S f2 x.2 g.2 ∧ (f1 ++ f2).Nodup
  cl_len x g := by rw [List.length_append, cl_len, cl_len]
  cl_one x g u hu := by
    rcases List.mem_append.1 hu with h | h
    · exact cl_one _ _ u h
    · exact cl_one _ _ u h
  rd_mono h k := ⟨rd_mono h k.1, rd_mono h k.2⟩
  rd_keep h k := ⟨rd_keep h k.1, rd_keep h k.2⟩
  own_rd := by
    rintro w S fp x g ⟨f1, f2, rfl, h1, h2, _⟩
    exact ⟨rd_mono (fun b hb => by rcases hb with hb | hb; exact .inl hb; exact .inr (List.mem_append_left _ hb)) (own_rd h1),
      rd_mono (fun b hb => by rcases hb with hb | hb; exact .inl hb; exact .inr (List.mem_append_right _ hb)) (own_rd h2)⟩
  own_mono := by rintro w S S' fp x g h ⟨f1, f2, rfl, h1, h2, hn⟩; exact ⟨f1, f2, rfl, own_mono h h1, own_mono h h2, hn⟩
  own_keep := by
    rintro w w' S fp x g hS h ⟨f1, f2, rfl, h1, h2, hn⟩
    exact ⟨f1, f2, rfl, own_keep hS (fun b hb => h b (List.mem_append_left _ hb)) h1, own_keep hS (fun b hb => h b (List.mem_append_right _ hb)) h2, hn⟩
  own_lt := by
    rintro w S fp x g ⟨f1, f2, rfl, h1, h2, _⟩ b hb
    rcases List.mem_append.1 hb with h | h
    · exact own_lt h1 b h
    · exact own_lt h2 b h
  own_nd := by rintro w S fp x g ⟨f1, f2, rfl, _, _, hn⟩; exact hn
  cl_inj x g g' h := by
    have h := List.append_inj h (by rw [cl_len, cl_len])
    exact Prod.ext (cl_inj _ _ _ h.1) (cl_inj _ _ _ h.2)

/-! ### entries -/
structure Ent where
  h : World → (Nat → Prop) → List Nat → Prop
  mono : ∀ {w S S' fp}, (∀ b, S b → S' b) → h w S fp → h w S' fp
  keep : ∀ {w w' S fp}, (∀ b, S b → w'.heap[b]? = w.heap[b]?) → (∀ b ∈ fp, w'.heap[b]? = w.heap[b]?) → h w S fp → h w' S fp
  lt : ∀ {w S fp}, h w S fp → ∀ b ∈ fp, b < w.heap.size
/-- a thing of type α that reads as x; its slices' headers are g -/
def E (α : Type) [Rep α] (x : α) (g : Gh α) : Ent := ⟨fun w S fp => own w S fp x g, own_mono, own_keep, own_lt⟩
/-- the same, shared -/
@[reducible] def Es (α : Type) [Rep α] (x : α) (g : Gh α) : Ent := @E (Sh α) inferInstance x g
/-- a variable's block, with just these cells -/
def Bx (b : Nat) (cs : List Value) : Ent := ⟨fun w _ fp => fp = [b] ∧ ∃ e, w.heap[b]? = some (.cells cs.toArray e (0, 0)), fun _ h => h,
  fun _ hf h => ⟨h.1, h.2.imp fun _ he => (hf b (by rw [h.1]; simp)).trans he⟩, fun h b hb => by obtain ⟨e, he⟩ := h.2; rw [h.1] at hb; simp at hb; subst hb; exact lt_of_some he⟩
/-- a laid variable of the program -/
def Gl (g : Nat) (cs : List Value) : Ent := ⟨fun w S fp => fp = [] ∧ S g ∧ ∀ j u, cs[j]? = some u → w.cell? (Addr.add ⟨g, 0, none⟩ j) = some u, fun hS h => ⟨h.1, hS _ h.2.1, h.2.2⟩,
  fun hS _ h => ⟨h.1, h.2.1, fun j u hj => by have := h.2.2 j u hj; rw [Addr.add_lit] at this ⊢; rw [cell_keep (hS g h.2.1)]; exact this⟩, fun h b hb => by rw [h.1] at hb; cases hb⟩
/-- nothing -/
def Tr : Ent := ⟨fun _ _ fp => fp = [], fun _ h => h, fun _ _ h => h, fun h b hb => by rw [h] at hb; cases hb⟩

def All (w : World) (S : Nat → Prop) : List Ent → List Nat → Prop
  | [], fp => fp = []
  | e :: Γ, fp => ∃ f g, fp = f ++ g ∧ e.h w S f ∧ All w S Γ g

theorem All.mono {w : World} {S S' : Nat → Prop} (hS : ∀ b, S b → S' b) : ∀ {Γ : List Ent} {fp : List Nat}, All w S Γ fp → All w S' Γ fp
  | [], _, h => h
  | e :: _, _, ⟨f, g, h1, h2, h3⟩ => ⟨f, g, h1, e.mono hS h2, h3.mono hS⟩
theorem All.keep {w w' : World} {S : Nat → Prop} (hS : ∀ b, S b → w'.heap[b]? = w.heap[b]?) : ∀ {Γ : List Ent} {fp : List Nat}, (∀ b ∈ fp, w'.heap[b]? = w.heap[b]?) → All w S Γ fp → All w' S Γ fp
  | [], _, _, h => h
  | e :: _, _, hf, ⟨f, g, h1, h2, h3⟩ => by
    subst h1
    exact ⟨f, g, rfl, e.keep hS (fun b hb => hf b (List.mem_append_left _ hb)) h2, h3.keep hS (fun b hb => hf b (List.mem_append_right _ hb))⟩
theorem All.lt {w : World} {S : Nat → Prop} : ∀ {Γ : List Ent} {fp : List Nat}, All w S Γ fp → ∀ b ∈ fp, b < w.heap.size
  | [], _, h, b, hb => by rw [show _ = [] from h] at hb; cases hb
  | e :: _, _, ⟨f, g, h1, h2, h3⟩, b, hb => by
    subst h1
    rcases List.mem_append.1 hb with h | h
    · exact e.lt h2 b h
    · exact h3.lt b h
theorem All.split {w : World} {S : Nat → Prop} : ∀ {Γ Δ : List Ent} {fp : List Nat}, All w S (Γ ++ Δ) fp → ∃ f g, fp = f ++ g ∧ All w S Γ f ∧ All w S Δ g
  | [], _, fp, h => ⟨[], fp, rfl, rfl, h⟩
  | e :: _, _, _, ⟨f, g, h1, h2, h3⟩ => by
    obtain ⟨f', g', k1, k2, k3⟩ := h3.split
    subst h1 k1
    exact ⟨f ++ f', g', by simp, ⟨f, f', rfl, h2, k2⟩, k3⟩
theorem All.join {w : World} {S : Nat → Prop} : ∀ {Γ Δ : List Ent} {f g : List Nat}, All w S Γ f → All w S Δ g → All w S (Γ ++ Δ) (f ++ g)
  | [], _, f, g, h, k => by rw [show f = [] from h]; exact k
  | e :: _, _, _, g, ⟨f1, f2, h1, h2, h3⟩, k => by
    subst h1
    exact ⟨f1, f2 ++ g, by simp, h2, h3.join k⟩
/-- each entry's own blocks -/
theorem All.parts {w : World} {S : Nat → Prop} : ∀ {Γ : List Ent} {fp : List Nat}, All w S Γ fp → fp.Nodup → ∃ F : Nat → List Nat, (∀ (i : Nat) (e : Ent), Γ[i]? = some e → e.h w S (F i)) ∧ (∀ i, (F i).Nodup) ∧ (∀ i, ∀ b ∈ F i, b ∈ fp) ∧
    ∀ i j, i ≠ j → ∀ b ∈ F i, b ∉ F j
  | [], _, _, _ => ⟨fun _ => [], fun i e h => by simp at h, fun _ => List.nodup_nil, fun _ _ h => (by cases h), fun _ _ _ _ h => (by cases h)⟩
  | e :: Γ, _, ⟨f, g, h1, h2, h3⟩, hn => by
    subst h1
    obtain ⟨hn1, hn2, hn3⟩ := List.nodup_append.1 hn
    obtain ⟨F, k1, k2, k3, k4⟩ := h3.parts hn2
    refine ⟨fun i => match i with | 0 => f | i + 1 => F i, fun i e' hi => ?_, fun i => ?_, fun i b hb => ?_, fun i j hij b hb hb' => ?_⟩
    · cases i with
      | zero => simp at hi; subst hi; exact h2
      | succ i => exact k1 i e' (by simpa using hi)
    · cases i with
      | zero => exact hn1
      | succ i => exact k2 i
    · cases i with
      | zero => exact List.mem_append_left _ hb
      | succ i => exact List.mem_append_right _ (k3 i b hb)
    · cases i with
      | zero =>
        cases j with
        | zero => exact hij rfl
        | succ j => exact hn3 b hb b (k3 j b hb') rfl
      | succ i =>
        cases j with
        | zero => exact hn3 b hb' b (k3 i b hb) rfl
        | succ j => exact k4 i j (by omega) b hb hb'
theorem All.ofParts {w : World} {S : Nat → Prop} : ∀ (Δ : List Ent) (F : Nat → List Nat), (∀ (i : Nat) (e : Ent), Δ[i]? = some e → e.h w S (F i)) → (∀ i, (F i).Nodup) → (∀ i j : Nat, i ≠ j → i < Δ.length → j < Δ.length → ∀ b ∈ F i, b ∉ F j) →
    ∃ fp, All w S Δ fp ∧ fp.Nodup ∧ ∀ b ∈ fp, ∃ i, i < Δ.length ∧ b ∈ F i
  | [], _, _, _, _ => ⟨[], rfl, List.nodup_nil, fun _ h => by cases h⟩
  | e :: Δ, F, h1, h2, h3 => by
    obtain ⟨fp, k1, k2, k3⟩ := All.ofParts (w := w) (S := S) Δ (fun i => F (i + 1)) (fun i e' hi => h1 (i + 1) e' (by simpa using hi)) (fun i => h2 _) (fun i j hij hi hj => h3 _ _ (by omega) (by simpa using hi) (by simpa using hj))
    refine ⟨F 0 ++ fp, ⟨F 0, fp, rfl, h1 0 e rfl, k1⟩, List.nodup_append.2 ⟨h2 0, k2, fun b hb c hc => ?_⟩, fun b hb => ?_⟩
    · rintro rfl
      obtain ⟨i, hi, hb'⟩ := k3 b hc
      exact h3 0 (i + 1) (by omega) (by simp) (by simpa using hi) b hb hb'
    · rcases List.mem_append.1 hb with h | h
      · exact ⟨0, by simp, h⟩
      · obtain ⟨i, hi, hb'⟩ := k3 b h
        exact ⟨i + 1, by simpa using hi, hb'⟩

/-! ### the state of a walk -/
structure CxI (w0 : World) (F : List Nat) (S0 : Nat → Prop) (w : World) (Γ : List Ent) (S : Nat → Prop) (fp : List Nat) : Prop where
  upd : Upd F w0 w
  s0 : ∀ b, S0 b → S b
  sb : ∀ b, S b → b < w.heap.size ∧ (S0 b ∨ b ∈ F ∨ w0.heap.size ≤ b)
  all : All w S Γ fp
  nd : fp.Nodup
  out : ∀ b ∈ fp, ¬ S b ∧ (b ∈ F ∨ w0.heap.size ≤ b)
def Cx (w0 : World) (F : List Nat) (S0 : Nat → Prop) (w : World) (Γ : List Ent) : Prop := ∃ S fp, CxI w0 F S0 w Γ S fp

noncomputable def entAt (Γ : List Ent) (i : Nat) : Ent := @List.rec Ent (fun _ => Nat → Ent) (fun _ => Tr) (fun e _ ih i => @Nat.rec (fun _ => Ent) e (fun k _ => ih k) i) Γ i
noncomputable def sel (Γ : List Ent) (l : List Nat) : List Ent := @List.rec Nat (fun _ => List Ent) [] (fun i _ ih => entAt Γ i :: ih) l
noncomputable def ndB (l : List Nat) : Bool := @List.rec Nat (fun _ => Bool) true (fun i l ih => cond (l.all fun j => !(Nat.beq i j)) ih false) l
theorem entAt_eq : ∀ (Γ : List Ent) (i : Nat), entAt Γ i = Γ.getD i Tr
  | [], _ => rfl
  | _ :: _, 0 => rfl
  | e :: Γ, i + 1 => by show entAt Γ i = _; rw [entAt_eq Γ i]; rfl
theorem ndB_nodup : ∀ {l : List Nat}, ndB l = true → l.Nodup
  | [], _ => List.nodup_nil
  | i :: l, h => by
    have h : cond (l.all fun j => !(Nat.beq i j)) (ndB l) false = true := h
    cases hb : (l.all fun j => !(Nat.beq i j))
    · rw [hb] at h; cases h
    · rw [hb] at h
      refine List.nodup_cons.2 ⟨fun hm => ?_, ndB_nodup h⟩
      have := List.all_eq_true.1 hb i hm
      simp [Nat.beq_refl] at this
theorem sel_get : ∀ (Γ : List Ent) (l : List Nat) (i : Nat), (sel Γ l)[i]? = l[i]?.map fun k => Γ.getD k Tr
  | _, [], i => by show ([] : List Ent)[i]? = _; simp
  | Γ, k :: l, 0 => by show some (entAt Γ k) = _; rw [entAt_eq]; rfl
  | Γ, k :: l, i + 1 => by show (sel Γ l)[i]? = _; rw [sel_get Γ l i]; simp
theorem sel_len (Γ : List Ent) : ∀ l : List Nat, (sel Γ l).length = l.length
  | [] => rfl
  | _ :: l => by show (sel Γ l).length + 1 = _; rw [sel_len Γ l]; rfl

section
variable {w0 w : World} {F : List Nat} {S0 : Nat → Prop} {Γ Γ1 Γ2 : List Ent}

/-- what is known may be put in another order, and less may be kept -/
theorem Cx.sel (H : Cx w0 F S0 w Γ) (l : List Nat) (hl : ndB l = true) : Cx w0 F S0 w (sel Γ l) := by
  obtain ⟨S, fp, H⟩ := H
  obtain ⟨G, k1, k2, k3, k4⟩ := H.all.parts H.nd
  have hnd := ndB_nodup hl
  obtain ⟨fp', a1, a2, a3⟩ := All.ofParts (w := w) (S := S) (RW.sel Γ l) (fun i => match l[i]? with | some k => if k < Γ.length then G k else [] | none => []) (fun i e hi => by
    rw [sel_get] at hi
    cases hk : l[i]? with
    | none => rw [hk] at hi; cases hi
    | some k =>
      rw [hk] at hi
      simp only [Option.map_some, Option.some.injEq] at hi
      subst hi
      simp only
      by_cases hlt : k < Γ.length
      · rw [if_pos hlt]
        refine k1 k _ ?_
        rw [List.getElem?_eq_getElem hlt, List.getD_eq_getElem?_getD, List.getElem?_eq_getElem hlt]; rfl
      · rw [if_neg hlt, List.getD_eq_getElem?_getD, List.getElem?_eq_none (by omega)]
        exact rfl) (fun i => by
      split
      · split
        · exact k2 _
        · exact List.nodup_nil
      · exact List.nodup_nil) (fun i j hij hi hj b hb hb' => by
      rw [sel_len] at hi hj
      simp only [List.getElem?_eq_getElem hi] at hb
      simp only [List.getElem?_eq_getElem hj] at hb'
      split at hb
      · split at hb'
        · refine k4 _ _ (fun e => hij ?_) b hb hb'
          exact (List.getElem_inj hnd).1 e
        · cases hb'
      · cases hb)
  refine ⟨S, fp', H.upd, H.s0, H.sb, a1, a2, fun b hb => ?_⟩
  obtain ⟨i, _, hb'⟩ := a3 b hb
  split at hb'
  · split at hb'
    · exact H.out b (k3 _ b hb')
    · cases hb'
  · cases hb'

/-- a part of what is known is used by itself -/
theorem Cx.frameA (H : Cx w0 F S0 w (Γ1 ++ Γ)) : ∃ S f1 g, CxI w f1 S w Γ1 S f1 ∧ All w S Γ g ∧ ∀ w' Γ2, Cx w f1 S w' Γ2 → Cx w0 F S0 w' (Γ2 ++ Γ) := by
  obtain ⟨S, fp, H⟩ := H
  obtain ⟨f, g, rfl, h1, h2⟩ := H.all.split
  obtain ⟨n1, n2, n3⟩ := List.nodup_append.1 H.nd
  refine ⟨S, f, g, ⟨Upd.refl _ _, fun _ h => h, fun b hb => ⟨(H.sb b hb).1, .inl hb⟩, h1, n1, fun b hb => ⟨(H.out b (List.mem_append_left _ hb)).1, .inl hb⟩⟩, h2, ?_⟩
  rintro w' Γ2 ⟨S', f', H'⟩
  have hsame : ∀ b, (b ∈ g ∨ S b) → w'.heap[b]? = w.heap[b]? := by
    intro b hb
    rcases hb with hb | hb
    · exact H'.upd.block b (h2.lt b hb) (fun hm => n3 b hm b hb rfl)
    · exact H'.upd.block b (H.sb b hb).1 (fun hm => (H.out b (List.mem_append_left _ hm)).1 hb)
  have hold : ∀ b, b ∈ f → b ∈ F ∨ w0.heap.size ≤ b := fun b hb => (H.out b (List.mem_append_left _ hb)).2
  refine ⟨S', f' ++ g, H.upd.trans H'.upd hold, fun b hb => H'.s0 b (H.s0 b hb), fun b hb => ?_, H'.all.join ((h2.keep (fun b hb => hsame b (.inr hb)) (fun b hb => hsame b (.inl hb))).mono H'.s0), List.nodup_append.2 ⟨H'.nd, n2, fun b hb c hc => ?_⟩, fun b hb => ?_⟩
  · obtain ⟨k1, k2⟩ := H'.sb b hb
    refine ⟨k1, ?_⟩
    rcases k2 with k2 | k2 | k2
    · exact (H.sb b k2).2
    · exact .inr (hold b k2)
    · exact .inr (.inr (Nat.le_trans H.upd.size k2))
  · rintro rfl
    rcases (H'.out b hb).2 with k | k
    · exact n3 b k b hc rfl
    · have := h2.lt b hc; omega
  · rcases List.mem_append.1 hb with h | h
    · obtain ⟨k1, k2⟩ := H'.out b h
      refine ⟨k1, ?_⟩
      rcases k2 with k2 | k2
      · exact hold b k2
      · exact .inr (Nat.le_trans H.upd.size k2)
    · refine ⟨fun hS => ?_, (H.out b (List.mem_append_right _ h)).2⟩
      rcases (H'.sb b hS).2 with k | k | k
      · exact (H.out b (List.mem_append_right _ h)).1 k
      · exact n3 b k b h rfl
      · have := h2.lt b h; omega

theorem Cx.frame (H : Cx w0 F S0 w (Γ1 ++ Γ)) : ∃ S f1, CxI w f1 S w Γ1 S f1 ∧ ∀ w' Γ2, Cx w f1 S w' Γ2 → Cx w0 F S0 w' (Γ2 ++ Γ) := by
  obtain ⟨S, f, g, h1, _, h2⟩ := H.frameA
  exact ⟨S, f, h1, h2⟩

/-- what the rest shows while it is lent -/
def Vw (w : World) (Γ : List Ent) (e : Ent) : Prop := ∀ S fp, All w S Γ fp → e.h w (fun b => S b ∨ b ∈ fp) []
/-- the same, the rest lent: whoever is called may read it -/
theorem Cx.frameL (H : Cx w0 F S0 w (Γ1 ++ Γ)) : ∃ S f1, CxI w f1 S w Γ1 S f1 ∧ (∀ e, Vw w Γ e → e.h w S []) ∧ ∀ w' Γ2, Cx w f1 (fun _ => False) w' Γ2 → Cx w0 F S0 w' (Γ2 ++ Γ) := by
  obtain ⟨S, fp, H⟩ := H
  obtain ⟨f, g, rfl, h1, h2⟩ := H.all.split
  obtain ⟨n1, n2, n3⟩ := List.nodup_append.1 H.nd
  refine ⟨fun b => S b ∨ b ∈ g, f, ⟨Upd.refl _ _, fun _ h => h, fun b hb => ⟨?_, .inl hb⟩, h1.mono (fun _ h => .inl h), n1, fun b hb => ⟨fun hS => ?_, .inl hb⟩⟩, fun e he => he S g h2, ?_⟩
  · rcases hb with hb | hb
    · exact (H.sb b hb).1
    · exact h2.lt b hb
  · rcases hS with hS | hS
    · exact (H.out b (List.mem_append_left _ hb)).1 hS
    · exact n3 b hb b hS rfl
  rintro w' Γ2 ⟨S', f', H'⟩
  have hsame : ∀ b, (b ∈ g ∨ S b) → w'.heap[b]? = w.heap[b]? := by
    intro b hb
    rcases hb with hb | hb
    · exact H'.upd.block b (h2.lt b hb) (fun hm => n3 b hm b hb rfl)
    · exact H'.upd.block b (H.sb b hb).1 (fun hm => (H.out b (List.mem_append_left _ hm)).1 hb)
  have hold : ∀ b, b ∈ f → b ∈ F ∨ w0.heap.size ≤ b := fun b hb => (H.out b (List.mem_append_left _ hb)).2
  refine ⟨fun b => S b ∨ S' b, f' ++ g, H.upd.trans H'.upd hold, fun b hb => .inl (H.s0 b hb), fun b hb => ?_, (H'.all.mono (fun _ h => .inr h)).join ((h2.keep (fun b hb => hsame b (.inr hb)) (fun b hb => hsame b (.inl hb))).mono (fun _ h => .inl h)), List.nodup_append.2 ⟨H'.nd, n2, fun b hb c hc => ?_⟩, fun b hb => ?_⟩
  · rcases hb with hb | hb
    · exact ⟨Nat.lt_of_lt_of_le (H.sb b hb).1 H'.upd.size, (H.sb b hb).2⟩
    · obtain ⟨k1, k2⟩ := H'.sb b hb
      refine ⟨k1, ?_⟩
      rcases k2 with k2 | k2 | k2
      · exact k2.elim
      · exact .inr (hold b k2)
      · exact .inr (.inr (Nat.le_trans H.upd.size k2))
  · rintro rfl
    rcases (H'.out b hb).2 with k | k
    · exact n3 b k b hc rfl
    · have := h2.lt b hc; omega
  · rcases List.mem_append.1 hb with h | h
    · obtain ⟨k1, k2⟩ := H'.out b h
      refine ⟨fun hS => ?_, ?_⟩
      · rcases hS with hS | hS
        · rcases k2 with k2 | k2
          · exact (H.out b (List.mem_append_left _ k2)).1 hS
          · have := (H.sb b hS).1; omega
        · exact k1 hS
      · rcases k2 with k2 | k2
        · exact hold b k2
        · exact .inr (Nat.le_trans H.upd.size k2)
    · refine ⟨fun hS => ?_, (H.out b (List.mem_append_right _ h)).2⟩
      rcases hS with hS | hS
      · exact (H.out b (List.mem_append_right _ h)).1 hS
      · rcases (H'.sb b hS).2 with k | k | k
        · exact k
        · exact n3 b k b h rfl
        · have := h2.lt b h; omega

theorem Cx.upd (H : Cx w0 F S0 w Γ) : Upd F w0 w := by obtain ⟨S, fp, H⟩ := H; exact H.upd
theorem Cx.drewN (H : Cx w0 F S0 w Γ) (n : Nat) : Cx w0 F S0 (w.drewN n) Γ := by
  obtain ⟨S, fp, H⟩ := H
  exact ⟨S, fp, H.upd.trans0 (ext_drewN w n), H.s0, H.sb, All.keep (w := w) (w' := w.drewN n) (fun _ _ => rfl) (fun _ _ => rfl) H.all, H.nd, H.out⟩
/-! ### closed entries -/
def Clo (e : Ent) : Prop := ∀ {w : World} {S S' : Nat → Prop} {fp : List Nat}, e.h w S fp → e.h w S' fp
class Closed (α : Type) [Rep α] : Prop where
  clo : ∀ {w : World} {S S' : Nat → Prop} {fp : List Nat} {x : α} {g : Gh α}, own w S fp x g → own w S' fp x g
instance : Closed Int := ⟨fun h => h⟩
instance : Closed Bool := ⟨fun h => h⟩
instance {α : Type} [Rep α] [Closed α] : Closed (List α) := ⟨fun h => OwnG.keep (fun _ ⟨g, h1, h2⟩ => ⟨g, h1, Closed.clo h2⟩) (fun _ _ => rfl) h⟩
instance {α β : Type} [Rep α] [Rep β] [Closed α] [Closed β] : Closed (α × β) := ⟨fun ⟨f1, f2, h, h1, h2, hn⟩ => ⟨f1, f2, h, Closed.clo h1, Closed.clo h2, hn⟩⟩
theorem cloE {α : Type} [Rep α] [Closed α] {x : α} {g : Gh α} : Clo (E α x g) := fun h => Closed.clo h
theorem cloB {b : Nat} {cs : List Value} : Clo (Bx b cs) := fun h => h
def Clos : List Ent → Prop
  | [] => True
  | e :: Γ => Clo e ∧ Clos Γ
theorem All.clo {S S' : Nat → Prop} : ∀ {Γ : List Ent} {fp : List Nat}, Clos Γ → All w S Γ fp → All w S' Γ fp
  | [], _, _, h => h
  | e :: _, _, hc, ⟨f, g, h1, h2, h3⟩ => ⟨f, g, h1, hc.1 h2, h3.clo hc.2⟩
theorem Cx.close (H : Cx w0 F S0 w Γ) (hc : Clos Γ) : Cx w0 F (fun _ => False) w Γ := by
  obtain ⟨S, fp, H⟩ := H
  exact ⟨fun _ => False, fp, H.upd, fun _ h => h.elim, fun _ h => h.elim, H.all.clo hc, H.nd, fun b hb => ⟨fun h => h, (H.out b hb).2⟩⟩

/-! ### views: what may be read of what is lent -/
theorem All.ent {S : Nat → Prop} : ∀ {Γ : List Ent} (i : Nat) {fp : List Nat}, All w S Γ fp → ∃ f, (entAt Γ i).h w S f ∧ ∀ b ∈ f, b ∈ fp
  | [], _, _, _ => ⟨[], rfl, fun _ h => by cases h⟩
  | _ :: _, 0, _, ⟨f, g, h1, h2, _⟩ => ⟨f, h2, fun b hb => by rw [h1]; exact List.mem_append_left _ hb⟩
  | _ :: _, i + 1, _, ⟨f, g, h1, _, h3⟩ => by
    obtain ⟨f', h4, h5⟩ := h3.ent i
    exact ⟨f', h4, fun b hb => by rw [h1]; exact List.mem_append_right _ (h5 b hb)⟩
/-- a fact on the walk's entry i -/
theorem Cx.at_ {e : Ent} (H : Cx w0 F S0 w Γ) (i : Nat) (hi : entAt Γ i = e) : (∃ S fp, e.h w S fp) := by
  obtain ⟨S, fp, H⟩ := H
  obtain ⟨f, h1, _⟩ := H.all.ent i
  exact ⟨S, f, hi ▸ h1⟩
theorem Vw.own {α : Type} [Rep α] {x : α} {g : Gh α} (i : Nat) (hi : entAt Γ i = E α x g) : Vw w Γ (Es α x g) := by
  intro S fp h
  obtain ⟨f, h1, h2⟩ := h.ent i
  rw [hi] at h1
  exact ⟨rfl, rd_mono (fun b hb => by rcases hb with hb | hb; exact .inl hb; exact .inr (h2 b hb)) (own_rd h1)⟩
theorem Vw.sh {α : Type} [Rep α] {x : α} {g : Gh α} (i : Nat) (hi : entAt Γ i = Es α x g) : Vw w Γ (Es α x g) := by
  intro S fp h
  obtain ⟨f, h1, h2⟩ := h.ent i
  rw [hi] at h1
  exact ⟨rfl, rd_mono (α := α) (fun b hb => .inl hb) h1.2⟩
theorem Vw.gl {g : Nat} {cs : List Value} (i : Nat) (hi : entAt Γ i = Gl g cs) : Vw w Γ (Gl g cs) := by
  intro S fp h
  obtain ⟨f, h1, h2⟩ := h.ent i
  rw [hi] at h1
  exact ⟨rfl, .inl h1.2.1, h1.2.2⟩
/-- entries that hold no memory of their own -/
def Pers (e : Ent) : Prop := ∀ w S fp, e.h w S fp → fp = []
theorem persS {α : Type} [Rep α] {x : α} {g : Gh α} : Pers (Es α x g) := fun _ _ _ h => h.1
/-- a new entry that holds no memory of its own -/
theorem Cx.add {e : Ent} (H : Cx w0 F S0 w Γ) (he : ∀ S fp, CxI w0 F S0 w Γ S fp → e.h w S []) : Cx w0 F S0 w (e :: Γ) := by
  obtain ⟨S, fp, H⟩ := H
  exact ⟨S, fp, H.upd, H.s0, H.sb, ⟨[], fp, rfl, he S fp H, H.all⟩, H.nd, H.out⟩
theorem Cx.dup {e : Ent} (H : Cx w0 F S0 w Γ) (i : Nat) (hi : entAt Γ i = e) (hp : Pers e) : Cx w0 F S0 w (e :: Γ) :=
  H.add fun S fp h => by
    obtain ⟨f, h1, _⟩ := h.all.ent i
    rw [hi] at h1
    have := hp _ _ _ h1
    subst this; exact h1
end
end Go.Proofs.YtnlbhdepagkjgaaDoor.RW
