/-
  Structs of numbers compared. Conditions: the engine's table holds ('EngOk').
-/
import Derived.Test.YtnlbhdepagkjgaaDoorZOps6
import Derived.Laws.StructEq
namespace Go.Proofs.YtnlbhdepagkjgaaDoor.RW
open Go
section
variable {P : Program} {G : Eng} {w : World}

/-- fields that are numbers, one behind the other -/
noncomputable def intFl (G : Eng) : List (Nat × Nat) → Nat → Prop
  | [], _ => True
  | (t, o) :: l, k => o = k ∧ (∃ b z, nthO G.tt t = some ⟨.int .i64, 1, b, z⟩) ∧ intFl G l (k + 1)
theorem und_int {t : Nat} (h : descK P t = some (.int .i64)) : P.underlying t = some (.int .i64) := by
  unfold descK at h; split at h <;> simp_all
theorem eqFields_run {xs ys : Array Value} {ls bs : List Int} (ok : EngOk P G) (d : Nat) (hx : xs.toList = ls.map (Value.int .i64)) (hy : ys.toList = bs.map (Value.int .i64)) (hl : ls.length = bs.length) :
    ∀ (fs : List Field) (fl : List (Nat × Nat)) (k : Nat), fs.map (fun f => (f.type, f.offset)) = fl → (∀ f ∈ fs, f.name ≠ "_") → intFl G fl k → fs.length + k = ls.length → (Op.eqFields (d + 1) xs ys fs).run P w = .ok (decide (ls.drop k = bs.drop k)) w
  | [], fl, k, _, _, _, hk => by
    rw [List.drop_of_length_le (by simp at hk; omega), List.drop_of_length_le (by simp at hk; omega)]
    simp [Op.eqFields]
  | f :: fs, fl, k, hfl, hn, hi, hk => by
    cases fl with
    | nil => simp at hfl
    | cons t fl =>
    obtain ⟨t, o⟩ := t
    simp only [List.map_cons, List.cons.injEq, Prod.mk.injEq] at hfl
    obtain ⟨⟨rfl, rfl⟩, hfl⟩ := hfl
    obtain ⟨ho, ⟨b, z, ht⟩, hi⟩ := hi
    have hd := und_of ok ht
    simp only at hd
    have hu := und_int hd
    have h1 := isAgg_run hd w
    have h2 := sizeOf_run ok ht w
    simp only at h2
    have ha : isAggK (.int .i64) = false := rfl
    rw [ha] at h1
    have hka : k < ls.length := by simp at hk; omega
    have hkb : k < bs.length := by omega
    have gx : xs[k]? = some (.int .i64 ls[k]) := by rw [← Array.getElem?_toList, hx, List.getElem?_map, List.getElem?_eq_getElem hka]; rfl
    have gy : ys[k]? = some (.int .i64 bs[k]) := by rw [← Array.getElem?_toList, hy, List.getElem?_map, List.getElem?_eq_getElem hkb]; rfl
    have p1 : (part f.type xs f.offset).run P w = .ok (.int .i64 ls[k]) w := by rw [ho]; simp [part, h1, gx]
    have p2 : (part f.type ys f.offset).run P w = .ok (.int .i64 bs[k]) w := by rw [ho]; simp [part, h1, gy]
    have he := run_equalIn_int (P := P) w d f.type .i64 .i64 ls[k] bs[k] hu
    have ih := eqFields_run ok d hx hy hl fs fl (k + 1) hfl (fun f hf => hn f (List.mem_cons_of_mem _ hf)) hi (by simp at hk ⊢; omega)
    rw [List.drop_eq_getElem_cons hka, List.drop_eq_getElem_cons hkb]
    simp only [Op.eqFields, if_pos (hn f (List.mem_cons_self ..)), Sem.run_bind, p1, p2, he, Result.andThen_ok, Sem.run_ite]
    generalize ls.drop (k + 1) = A at ih ⊢
    generalize bs.drop (k + 1) = B at ih ⊢
    by_cases hab : ls[k] = bs[k]
    · simp [hab, ih]
    · simp [hab]
/-- structs of numbers compared -/
theorem eqA {t n b : Nat} {fl : List (Nat × Nat)} {F : Array Field} {zt : Value} {x y : Operand} {xs ys : Array Value} {ls bs : List Int} {r : Bool} {K : Value → World → Prop} (ok : EngOk P G) (ht : nthO G.tt t = some ⟨.struct fl, n, b, zt⟩) (hu : P.underlying t = some (.struct F)) (hn : (F.toList.all fun f => f.name != "_") = true) (hg : P.eqGuardType P.depth t = false) (hs : P.stoodInHeld t = false) (hi : intFl G fl 0) (hx : xs.toList = ls.map (Value.int .i64)) (hy : ys.toList = bs.map (Value.int .i64)) (ha : fl.length = ls.length) (hb : fl.length = bs.length) (e : some (decide (ls = bs)) = some r) (hK : K (.bool r) w) : ERun P (do eqGuard .eql t x y (.agg xs) (.agg ys); binOp .eql t (.agg xs) (.agg ys)) w K := by
  obtain ⟨F', hF', hfl⟩ := und_struct (und_of ok ht)
  rw [hu] at hF'
  simp only [Option.some.injEq, TypeDesc.struct.injEq] at hF'
  subst hF'
  have hf : P.fieldsOf t = F := by unfold Program.fieldsOf; rw [hu]
  have hlen : F.toList.length = fl.length := by rw [← hfl, List.length_map]
  have h1 := eqFields_run (P := P) (w := w) ok 9998 hx hy (by omega) F.toList fl 0 hfl (fun f hf => by have := List.all_eq_true.1 hn f hf; simpa using this) hi (by omega)
  have h2 := run_equalIn_struct (P := P) w 9999 t xs ys (by rw [hf]; exact hu) hs
  rw [hf, h1] at h2
  refine erun_of (v := .bool r) (w' := w) ?_ hK
  have h3 : (Op.equal t (.agg xs) (.agg ys)).run P w = .ok (decide (ls = bs)) w := h2
  have h4 : (eqGuard .eql t x y (.agg xs) (.agg ys)).run P w = .ok () w := by
    simp [eqGuard, hg]
  have h5 : binOp .eql t (.agg xs) (.agg ys) = (do pure (.bool (← Op.equal t (.agg xs) (.agg ys)))) := by simp [binOp]
  rw [h5]
  simp only [Sem.run_bind, h4, Result.andThen_ok, h3, Sem.run_pure]
  rw [Option.some.inj e]
end
end Go.Proofs.YtnlbhdepagkjgaaDoor.RW
