/-
  Literals of several elements; lists whose elements are shared. Conditions: the engine's table holds ('EngOk').
-/
import Derived.Test.YtnlbhdepagkjgaaDoorZOps8
import Derived.Laws.Cover3
namespace Go.Proofs.YtnlbhdepagkjgaaDoor.RW
open Go
open Go.RowKit (Below)
open Rep RepZ
section
variable {P : Program} {G : Eng} {w : World}

/-! ### literals -/
def idxs : List Value → Nat → List (Nat × Value)
  | [], _ => []
  | u :: us, k => (k, u) :: idxs us (k + 1)
def cellsAll : List Value → List Value
  | [] => []
  | u :: us => u.cells.toList ++ cellsAll us
theorem fill_all (z : Array Value → Array Value) (se : Nat) : ∀ (us : List Value) (k : Nat) (cs : Array Value), (∀ u ∈ us, u.cells.size = se) → cs.size = (k + us.length) * se →
    Instr.fill (fun i => some (i * se, se)) cs (idxs us k) = some (cs.toList.take (k * se) ++ cellsAll us).toArray
  | [], k, cs, _, hs => by
    show some cs = _
    simp only [List.length_nil, Nat.add_zero] at hs
    rw [show cellsAll [] = [] from rfl, List.append_nil, List.take_of_length_le (by simp [hs])]
  | u :: us, k, cs, hu, hs => by
    have h1 := hu u (List.mem_cons_self ..)
    simp only [List.length_cons] at hs
    have h2 : (k + (us.length + 1)) * se = k * se + se + us.length * se := by rw [Nat.add_mul, Nat.add_mul]; omega
    have key : ∀ (l : List Value) (o : Nat) (cs : Array Value), o + l.length ≤ cs.size → (l.zipIdx 0).foldl (fun (cs : Array Value) (c, j) => cs.setIfInBounds (o + j) c) cs = (cs.toList.take o ++ l ++ cs.toList.drop (o + l.length)).toArray := by
      have key2 : ∀ (l : List Value) (o k : Nat) (cs : Array Value), o + k + l.length ≤ cs.size → (l.zipIdx k).foldl (fun (cs : Array Value) (c, j) => cs.setIfInBounds (o + j) c) cs = (cs.toList.take (o + k) ++ l ++ cs.toList.drop (o + k + l.length)).toArray := by
        intro l
        induction l with
        | nil => intro o k cs h; simp
        | cons v l ih =>
          intro o k cs h
          simp only [List.length_cons] at h
          rw [List.zipIdx_cons, List.foldl_cons, ih _ _ _ (by simp; omega)]
          congr 1
          simp only [Array.toList_setIfInBounds]
          rw [show o + (k + 1) = o + k + 1 by omega, List.take_succ_eq_append_getElem (by simp; omega), List.take_set_of_le (Nat.le_refl _), List.drop_set_of_lt (by omega)]
          rw [show o + k + (v :: l).length = o + k + 1 + l.length by simp only [List.length_cons]; omega]
          simp
      intro l o cs h
      have := key2 l o 0 cs (by omega)
      simpa using this
    show (if _ then none else _) = _
    have h3 : k * se + u.cells.size ≤ cs.size := by rw [h1, hs, h2]; omega
    rw [if_neg (by simp only [h1, ne_eq, not_true_eq_false, decide_false, Bool.false_or, decide_eq_true_eq, gt_iff_lt]; rw [h1] at h3; omega)]
    have h4 := key u.cells.toList (k * se) cs (by simpa using h3)
    rw [← Array.foldl_toList, Array.toList_zipIdx, h4]
    have h5 : ((cs.toList.take (k * se) ++ u.cells.toList ++ cs.toList.drop (k * se + u.cells.toList.length)).toArray).size = (k + 1 + us.length) * se := by
      simp only [List.size_toArray, List.length_append, List.length_take, List.length_drop, Array.length_toList, h1]
      rw [show (k + 1 + us.length) * se = k * se + se + us.length * se by rw [Nat.add_mul, Nat.add_mul]; omega]
      rw [hs, h2]; omega
    rw [fill_all z se us (k + 1) _ (fun v hv => hu v (List.mem_cons_of_mem _ hv)) h5]
    congr 2
    rw [show cellsAll (u :: us) = u.cells.toList ++ cellsAll us from rfl, ← List.append_assoc]
    congr 1
    rw [show (k + 1) * se = k * se + se by rw [Nat.add_mul]; omega]
    rw [List.take_append_of_le_length (by simp [h1]; omega), List.take_of_length_le (by simp [h1]; omega)]
theorem litN_ {t e st bt be se : Nat} {zt ze : Value} {ke : TK} {us : List Value} (ok : EngOk P G) (ht : nthO G.tt t = some ⟨.slice e, st, bt, zt⟩) (he : nthO G.tt e = some ⟨ke, se, be, ze⟩) (h0 : 0 < se) (h24 : us.length * se ≤ 16777216) (hx : ∀ u ∈ us, u.cells.size = se) : (Instr.buildSlice t us.length (idxs us 0).toArray).run P w = .ok (.slice (some ⟨w.heap.size, 0, none⟩) us.length us.length) (w.alloc (.cells (cellsAll us).toArray e)) := by
  have hu := und_slice (und_of ok ht)
  obtain ⟨i, hi, hiz, his, hib⟩ := inf_of ok he
  simp only at his hib hiz
  have hf := fill_all id se us 0 ((Array.range (us.length * se)).map (ze.cells[· % ze.cells.size]!)) hx (by simp)
  rw [Nat.zero_mul, List.take_zero, List.nil_append] at hf
  have hle : ¬ (us.length * se > 2 ^ 24) := by omega
  by_cases hz : us.length = 0
  · have : us = [] := List.eq_nil_of_length_eq_zero hz
    subst this
    simp only [Instr.buildSlice, Sem.run_bind, run_underlying hu, Result.andThen_ok, sizeOf, typeInfo, run_program, hi, Sem.run_pure, his]
    simp [Instr.fill, newRow, idxs, cellsAll]
    rw [show Array.range 0 = #[] from rfl, Array.map_empty]
  · have hne : ¬ (us.length * se = 0) := by
      have := Nat.mul_pos (Nat.pos_of_ne_zero hz) h0
      omega
    simp only [Instr.buildSlice, Sem.run_bind, run_underlying hu, Result.andThen_ok, sizeOf, typeInfo, run_program, hi, Sem.run_pure, his]
    simp only [if_neg hle, if_neg hne, zeroValue, typeInfo, Sem.run_bind, run_program, hi, Sem.run_pure, Result.andThen_ok, hiz, hf]
    simp [newRow]

variable {w0 : World} {F : List Nat} {S0 : Nat → Prop} {Γ : List Ent}
/-- several entries of one kind -/
def zipE {α : Type} [Rep α] : List α → List (Gh α) → List Ent
  | x :: xs, g :: gs => E α x g :: zipE xs gs
  | _, _ => []
def CellsL {α : Type} [Rep α] : List Value → List α → List (Gh α) → Prop
  | u :: us, x :: xs, g :: gs => u.cells = (cl x g).toArray ∧ CellsL us xs gs
  | [], [], [] => True
  | _, _, _ => False
theorem CellsL.len {α : Type} [Rep α] : ∀ {us : List Value} {xs : List α} {gs : List (Gh α)}, CellsL us xs gs → us.length = xs.length ∧ gs.length = xs.length
  | _ :: us, _ :: xs, _ :: gs, h => by obtain ⟨h1, h2⟩ := h.2.len; simp [h1, h2]
  | [], [], [], _ => ⟨rfl, rfl⟩
theorem CellsL.size {α : Type} [Rep α] : ∀ {us : List Value} {xs : List α} {gs : List (Gh α)}, CellsL us xs gs → ∀ u ∈ us, u.cells.size = sz α
  | _ :: us, _ :: xs, _ :: gs, h, u, hu => by
    rcases List.mem_cons.1 hu with rfl | hu
    · rw [h.1]; simp [cl_len]
    · exact h.2.size u hu
/-- the cells of a literal, element by element -/
theorem lit_own {α : Type} [Rep α] {S : Nat → Prop} {w' : World} (hS : ∀ b, S b → w'.heap[b]? = w.heap[b]?) : ∀ {us : List Value} {xs : List α} {gs : List (Gh α)} {fp : List Nat}, CellsL us xs gs → All w S (zipE xs gs) fp → (∀ b ∈ fp, w'.heap[b]? = w.heap[b]?) →
    ∃ fps : List (List Nat), fps.length = xs.length ∧ fp = fps.flatten ∧ ∀ i (h : i < xs.length) (h' : i < fps.length), qOf S w' fps[i] (((cellsAll us).drop (i * sz α)).take (sz α)) xs[i]
  | _ :: us, x :: xs, g :: gs, fp, h, ha, hf => by
    obtain ⟨f, r, rfl, h1, h2⟩ := ha
    obtain ⟨fps, k1, rfl, k3⟩ := lit_own hS h.2 h2 (fun b hb => hf b (List.mem_append_right _ hb))
    have h1 : own w S f x g := h1
    refine ⟨f :: fps, by simp [k1], rfl, fun i hi hi' => ?_⟩
    have hl : (cl x g).length = sz α := cl_len x g
    cases i with
    | zero =>
      refine ⟨g, ?_, own_keep hS (fun b hb => hf b (List.mem_append_left _ hb)) h1⟩
      rw [show cellsAll (_ :: us) = _ ++ cellsAll us from rfl, h.1, Nat.zero_mul, List.drop_zero]
      show ((cl x g) ++ _).take _ = _
      rw [List.take_append_of_le_length (by omega), List.take_of_length_le (by omega)]; rfl
    | succ i =>
      have i1 : i < xs.length := by simpa using hi
      have i2 : i < fps.length := by simpa using hi'
      have := k3 i i1 i2
      rw [show cellsAll (_ :: us) = _ ++ cellsAll us from rfl, h.1]
      show qOf S w' (fps[i]'i2) ((((cl x g) ++ _).drop _).take _) (xs[i]'i1)
      rw [show (i + 1) * sz α = (cl x g).length + i * sz α by rw [hl, Nat.add_mul]; omega, ← List.drop_drop, List.drop_left]
      exact this
  | [], [], [], fp, _, ha, _ => ⟨[], rfl, ha, fun i h => by simp at h⟩
theorem cellsAll_len {α : Type} [Rep α] : ∀ {us : List Value} {xs : List α} {gs : List (Gh α)}, CellsL us xs gs → (cellsAll us).length = us.length * sz α
  | _ :: us, x :: xs, g :: gs, h => by
    rw [show cellsAll (_ :: us) = _ ++ cellsAll us from rfl, List.length_append, cellsAll_len h.2, h.1, List.length_cons, Nat.add_mul, Nat.one_mul]
    show (cl x g).length + _ = _
    rw [cl_len]; omega
  | [], [], [], _ => by simp [cellsAll]
/-- []T{x, y, ..}: the elements go in -/
theorem litN {α : Type} [Rep α] {t e st bt be n : Nat} {zt ze : Value} {ke : TK} {us : List Value} {xs : List α} {gs : List (Gh α)} {K : Value → World → Prop} (ok : EngOk P G) (ht : nthO G.tt t = some ⟨.slice e, st, bt, zt⟩) (he : nthO G.tt e = some ⟨ke, sz α, be, ze⟩) (h0 : Nat.blt 0 (sz α) = true) (hx : CellsL us xs gs) (hn : us.length = n) (h24 : Nat.ble (n * sz α) 10000 = true) (H : Cx w0 F S0 w (zipE xs gs ++ Γ)) (hK : ∀ (h' : Hd) w', Ext w w' → Cx w0 F S0 w' (E (List α) xs h' :: Γ) → K h'.v w') :
    ERun P (Instr.buildSlice t n (idxs us 0).toArray) w K := by
  subst hn
  have h0 : 0 < sz α := by simpa [Nat.blt_eq] using h0
  have h24 := Nat.le_of_ble_eq_true h24
  have hr := litN_ (w := w) ok ht he h0 (by omega) hx.size
  obtain ⟨hl1, hl2⟩ := hx.len
  obtain ⟨S, f1, h1, h3⟩ := Cx.frame (Γ1 := zipE xs gs) H
  have hu : Ext w (w.alloc (.cells (cellsAll us).toArray e)) := Upd.alloc w _
  have hlt : ∀ b ∈ f1, b < w.heap.size := h1.all.lt
  obtain ⟨fps, k1, rfl, k3⟩ := lit_own (w' := w.alloc (.cells (cellsAll us).toArray e)) (fun b hb => hu.block b (h1.sb b hb).1 (by simp)) hx h1.all (fun b hb => hu.block b (hlt b hb) (by simp))
  have hus : us.length ≤ us.length * sz α := Nat.le_mul_of_pos_right _ h0
  have ho : OwnG (sz α) (qOf S) (w.alloc (.cells (cellsAll us).toArray e)) (w.heap.size :: fps.flatten) (some ⟨w.heap.size, 0, none⟩) us.length us.length xs := by
    refine .inr ⟨w.heap.size, 0, (cellsAll us).toArray, e, fps, rfl, heap_alloc_new w _, hl1, Nat.le_refl _, by unfold maxLen; omega, by simp [cellsAll_len hx], k1, rfl, ?_, ?_⟩
    · exact List.nodup_cons.2 ⟨fun h => by have := hlt _ h; omega, h1.nd⟩
    · intro i hi hi'
      have := k3 i hi hi'
      unfold chk
      rw [Nat.zero_add]
      exact this
  refine erun_of hr (hK ⟨some ⟨w.heap.size, 0, none⟩, us.length, us.length⟩ _ hu (h3 _ [E (List α) xs _] ⟨S, w.heap.size :: fps.flatten, hu.mono (fun _ h => by cases h), fun _ h => h, fun b hb => ⟨Nat.lt_of_lt_of_le (h1.sb b hb).1 hu.size, .inl hb⟩, ⟨_, [], by simp, ho, rfl⟩, ho.nodup, fun b hb => ?_⟩))
  rcases List.mem_cons.1 hb with rfl | hb
  · exact ⟨fun hS => by have := (h1.sb _ hS).1; omega, .inr (Nat.le_refl _)⟩
  · exact ⟨(h1.out b hb).1, .inl hb⟩

/-! ### lists whose elements are shared -/

/-! ### a slice against nil -/
/-! ### what is lent for a while -/
end
end Go.Proofs.YtnlbhdepagkjgaaDoor.RW
