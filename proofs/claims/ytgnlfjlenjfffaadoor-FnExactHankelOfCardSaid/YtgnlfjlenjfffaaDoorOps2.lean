/-
  More rules: make, slice literals, sources of an append, slice expressions, stores. Conditions: the engine's table holds ('EngOk'); lengths in range.
-/
import Derived.Test.YtgnlfjlenjfffaaDoorOps
namespace Go.Proofs.YtgnlfjlenjfffaaDoor.RW
open Go
open Go.RowKit (Below)
open Rep

/-- a type whose zero cells read as a zero -/
class RepZ (α : Type) extends Rep α where
  zero : α
  zcells : List Value
  own_zero : ∀ w, own w [] zcells zero
instance : RepZ Int where
  zero := 0
  zcells := [.int .i64 0]
  own_zero _ := ⟨rfl, rfl, by unfold inI; omega⟩
instance : RepZ Bool where
  zero := false
  zcells := [.bool false]
  own_zero _ := ⟨rfl, rfl⟩
instance {α : Type} [Rep α] : RepZ (List α) where
  zero := []
  zcells := [.slice none 0 0]
  own_zero _ := ⟨none, 0, 0, rfl, .inl ⟨rfl, rfl, rfl, rfl, rfl⟩⟩
instance {α β : Type} [RepZ α] [RepZ β] : RepZ (α × β) where
  zero := (RepZ.zero, RepZ.zero)
  zcells := RepZ.zcells α ++ RepZ.zcells β
  own_zero w := ⟨_, _, [], [], rfl, rfl, RepZ.own_zero w, RepZ.own_zero w, List.nodup_nil⟩
open RepZ

section
variable {P : Program} {G : Eng} {w : World}

theorem zcells_len {α : Type} [RepZ α] : (zcells α).length = sz α := rd_len (own_rd (own_zero (α := α) default))

theorem chk_made {zs : List Value} {n s i : Nat} (hz : zs.length = s) (hi : i < n) : chk (madeCells zs.toArray (n * s)) 0 s i = zs := by
  apply List.ext_getElem?
  intro j
  by_cases hj : j < s
  · rw [chk_get hj]
    have h1 : (i + 1) * s ≤ n * s := Nat.mul_le_mul_right _ hi
    rw [Nat.add_mul] at h1
    have h2 : 0 + i * s + j < n * s := by omega
    have h3 : (0 + i * s + j) % s = j := by rw [Nat.zero_add, Nat.mul_comm, Nat.mul_add_mod, Nat.mod_eq_of_lt hj]
    unfold madeCells
    rw [Array.getElem?_map, Array.getElem?_range, if_pos h2]
    simp only [List.size_toArray, hz, Option.map_some, h3]
    rw [List.getElem?_eq_getElem (by omega)]
    simp [hz, hj]
  · rw [chk_get_none (by omega), List.getElem?_eq_none (by omega)]

/-- make([]T, n, c) -/
theorem make_ {α : Type} [RepZ α] (ok : EngOk P G) {t e st bt be : Nat} {zt ze : Value} {ke : TK}
    (ht : nthO G.tt t = some ⟨.slice e, st, bt, zt⟩) (he : nthO G.tt e = some ⟨ke, sz α, be, ze⟩) (hz : ze.cells = (zcells α).toArray)
    {l c : Int} (n m : Nat) (hl : l = (n : Int)) (hc : c = (m : Int)) (hnm : n ≤ m) (hb : be * m ≤ 281474976710656) (hm : m ≤ maxLen) {K : Value → World → Prop}
    (hK : ∀ A w', OwnL w' [w.heap.size] A n m (List.replicate n (zero (α := α))) → Ext w w' → K (.slice A n m) w') :
    ERun P (Instr.makeSlice t (.int .i64 l) (.int .i64 c)) w K := by
  have hu := und_slice (und_of ok ht)
  obtain ⟨i, hi, hiz, his, hib⟩ := inf_of ok he
  simp only at his hib hiz
  subst hl; subst hc
  have hmm : maxLen = 9223372036854775807 := rfl
  have hb' : (i.bytes : Int) * (m : Int) ≤ 281474976710656 := by
    rw [hib]
    have h : ((be * m : Nat) : Int) ≤ 281474976710656 := by omega
    rwa [Int.natCast_mul] at h
  have hr := run_make (P := P) w t e i ze hu hi hiz .i64 .i64 n m (by omega) (by omega) hb' (by omega)
  simp only [Int.toNat_natCast] at hr
  refine erun_of hr (hK _ _ (.inr ⟨w.heap.size, 0, _, e, List.replicate n [], rfl, heap_alloc_new w _, by simp, hnm, hm, by rw [size_madeCells, his]; omega, by simp, ?_, ?_, ?_⟩) (Upd.alloc w _))
  · have : (List.replicate n ([] : List Nat)).flatten = [] := by simp
    rw [this]
  · simp
  · intro k hk hk'
    rw [List.getElem_replicate, List.getElem_replicate, hz, his]
    simp only [List.length_replicate] at hk
    rw [chk_made zcells_len (Nat.lt_of_lt_of_le hk hnm)]
    exact own_zero _

/-- []T{} -/
theorem lit0 {α : Type} [Rep α] (ok : EngOk P G) {t e st bt be se : Nat} {zt ze : Value} {ke : TK}
    (ht : nthO G.tt t = some ⟨.slice e, st, bt, zt⟩) (he : nthO G.tt e = some ⟨ke, se, be, ze⟩) {K : Value → World → Prop}
    (hK : ∀ A w', OwnL (α := α) w' [w.heap.size] A 0 0 [] → Ext w w' → K (.slice A 0 0) w') :
    ERun P (Instr.buildSlice t 0 #[]) w K := by
  have hu := und_slice (und_of ok ht)
  obtain ⟨i, hi, hiz, his, hib⟩ := inf_of ok he
  have hr : (Instr.buildSlice t 0 #[]).run P w = .ok (.slice (some ⟨w.heap.size, 0, none⟩) 0 0) (w.alloc (.cells #[] e)) := by
    simp [Instr.buildSlice, run_underlying hu, sizeOf, typeInfo, hi, Instr.fill, newRow]
    rw [show Array.range 0 = #[] from rfl, Array.map_empty]
  refine erun_of hr (hK _ _ (.inr ⟨w.heap.size, 0, _, e, [], rfl, heap_alloc_new w _, rfl, Nat.le_refl _, by unfold maxLen; omega, by simp, rfl, rfl, by simp, fun k hk => by simp at hk⟩) (Upd.alloc w _))

/-- a source that is a slice of one element just laid -/
def Laid (P : Program) (s t : Nat) (w : World) (x : Value) (news : List Value) : Prop := Src P s t x 1 news w
/-- []T{x}: one element, laid into a block of its own -/
theorem lit1 (ok : EngOk P G) {t e st bt be se : Nat} {zt ze : Value} {ke : TK}
    (ht : nthO G.tt t = some ⟨.slice e, st, bt, zt⟩) (he : nthO G.tt e = some ⟨ke, se, be, ze⟩) (h0 : 0 < se) (h24 : se ≤ 16777216) {x : Value} (hx : x.cells.size = se) (h1 : ∀ u ∈ x.cells.toList, u.oneCell' = true)
    {K : Value → World → Prop}
    (hK : ∀ a w', Ext w w' → a = w.heap.size → w'.heap[a]? = some (.cells x.cells e (0, 0)) → Src P se t (.slice (some ⟨a, 0, none⟩) 1 1) 1 x.cells.toList w' → K (.slice (some ⟨a, 0, none⟩) 1 1) w') :
    ERun P (Instr.buildSlice t 1 #[(0, x)]) w K := by
  have hu := und_slice (und_of ok ht)
  obtain ⟨i, hi, hiz, his, hib⟩ := inf_of ok he
  simp only at his hib hiz
  have key : ∀ (l : List Value) (k : Nat) (cs : Array Value), cs.size = k + l.length → (l.zipIdx k).foldl (fun (cs : Array Value) (c, j) => cs.setIfInBounds (0 + j) c) cs = ((cs.toList.take k) ++ l).toArray := by
    intro l
    induction l with
    | nil => intro k cs h; simp at h; subst h; apply Array.ext'; simp [← Array.length_toList]
    | cons v l ih =>
      intro k cs h
      simp only [List.length_cons] at h
      rw [List.zipIdx_cons, List.foldl_cons, ih _ _ (by simp; omega)]
      congr 1
      simp only [Nat.zero_add, Array.toList_setIfInBounds]
      rw [List.take_succ_eq_append_getElem (by simp; omega)]
      rw [List.take_set_of_le (Nat.le_refl _)]
      simp
  have hfill : Instr.fill (fun i => some (i * se, se)) ((Array.range (1 * se)).map (ze.cells[· % ze.cells.size]!)) [(0, x)] = some x.cells := by
    simp only [Instr.fill, Nat.zero_mul, hx, ne_eq, not_true_eq_false, Nat.zero_add, Array.size_map, Array.size_range, Nat.one_mul, gt_iff_lt, Nat.lt_irrefl, if_false, decide_false, Bool.or_self, Bool.false_eq_true]
    have := key x.cells.toList 0 ((Array.range se).map (ze.cells[· % ze.cells.size]!)) (by simp [hx])
    simp only [List.take_zero, List.nil_append, Array.toArray_toList] at this
    congr 1
    rw [← Array.foldl_toList, Array.toList_zipIdx]
    simpa using this
  have hr : (Instr.buildSlice t 1 #[(0, x)]).run P w = .ok (.slice (some ⟨w.heap.size, 0, none⟩) 1 1) (w.alloc (.cells x.cells e)) := by
    have hne : ¬ (se = 0) := by omega
    have hle : ¬ (16777216 < se) := by omega
    simp only [Instr.buildSlice, Sem.run_bind, run_underlying hu, Result.andThen_ok, sizeOf, typeInfo, run_program, hi, Sem.run_pure, his, Nat.one_mul]
    simp only [Nat.one_mul] at hfill
    simp [hne, hle, zeroValue, typeInfo, hi, hiz, hfill, newRow]
  refine erun_of hr (hK _ _ (Upd.alloc w _) rfl (heap_alloc_new w _) ?_)
  refine Src.ofSlice _ hu _ _ _ _ (by simp [hx]) (fun j u hj => ?_) h1
  rw [Addr.add_lit, Nat.zero_add, cell_of_row _ w.heap.size j x.cells e (0, 0) (heap_alloc_new w _), ← Array.getElem?_toList]
  exact hj
end
end Go.Proofs.YtgnlfjlenjfffaaDoor.RW
