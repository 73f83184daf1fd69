/-
  A part of a variable written at once. Conditions: the engine's table holds ('EngOk').
-/
import Derived.Test.YteimaohaeodbkaaGreatZOps12
namespace Go.Proofs.YteimaohaeodbkaaGreat.RW
open Go
open Rep RepZ
section
variable {P : Program} {G : Eng} {w0 w : World} {F : List Nat} {S0 : Nat → Prop} {Γ : List Ent}
theorem setCells_part (g : Nat) (e : TypeId) (fr : Nat × Nat) : ∀ (l : List Value) (o : Nat) (w : World) (cells : List Value), w.heap[g]? = some (.cells cells.toArray e fr) → o + l.length ≤ cells.length →
    (w.setCells g o l).heap[g]? = some (.cells (cells.take o ++ l ++ cells.drop (o + l.length)).toArray e fr)
  | [], o, w, cells, h, _ => by
    rw [List.append_nil, List.length_nil, Nat.add_zero, List.take_append_drop]; exact h
  | v :: l, o, w, cells, h, hs => by
    simp only [List.length_cons] at hs
    have h1 : (w.setCell ⟨g, o, none⟩ v).heap[g]? = some (.cells (cells.set o v).toArray e fr) := by
      have := setCell_heap (j := o) v h
      simpa using this
    have ih := setCells_part g e fr l (o + 1) (w.setCell ⟨g, o, none⟩ v) (cells.set o v) h1 (by simp; omega)
    have e1 : (cells.set o v).take (o + 1) ++ l ++ (cells.set o v).drop (o + 1 + l.length) = cells.take o ++ v :: l ++ cells.drop (o + (l.length + 1)) := by
      have ho : o < cells.length := by omega
      have a1 : (cells.set o v).take (o + 1) = cells.take o ++ [v] := by
        rw [List.take_add_one, List.getElem?_set_self ho, List.take_set_of_le (Nat.le_refl _)]; rfl
      have a2 : (cells.set o v).drop (o + 1 + l.length) = cells.drop (o + (l.length + 1)) := by
        rw [List.drop_set_of_lt (by omega)]; congr 1; omega
      rw [a1, a2]; simp
    rw [e1] at ih
    exact ih
theorem stAp {t bb b : Nat} {k : TK} {z : Value} {cs : List Value} {n : Nat} {K : World → Prop} (ok : EngOk P G) (j : Nat) (cs' : List Value) (ht : nthO G.tt t = some ⟨k, n, bb, z⟩) (H : Cx w0 F S0 w (Bx b cs :: Γ)) (hn : cs'.length = n) (hl : Nat.ble (j + n) cs.length = true) (h1 : allOne cs' = true) (hK : ∀ w', Cx w0 F S0 w' (Bx b (cs.take j ++ cs' ++ cs.drop (j + n)) :: Γ) → K w') : EDo P (Instr.storeAt t (.pointer (some (Addr.add ⟨b, 0, none⟩ j))) (.agg cs'.toArray)) w K := by
  subst hn
  have hl := Nat.le_of_ble_eq_true hl
  obtain ⟨i, hi, hiz, his, hib⟩ := inf_of ok ht
  simp only at his
  obtain ⟨S, f1, hh, h2⟩ := Cx.frame (Γ1 := [Bx b cs]) H
  obtain ⟨f, g, hfg, ⟨hf, e, h⟩, hgg⟩ := hh.all
  have hgg : g = [] := hgg
  subst hf hgg hfg
  have hth : w.there b j cs'.toArray.size := fun q hq => by
    have hq : q < cs'.length := by simpa using hq
    refine ⟨?_, frozen_of_row w b _ cs.toArray e h⟩
    rw [cell_of_row w b _ cs.toArray e (0, 0) h, List.getElem?_toArray, List.getElem?_eq_getElem (by omega)]; rfl
  have hr := run_storeAt_mid (P := P) w b j t cs'.toArray hth (by rw [hi]; simp [his]) (by
    rw [← Array.all_toList]; exact List.all_eq_true.2 (allOne_eq _ h1))
  have hu := Upd.setCells b j cs' w
  have hp := setCells_part b e (0, 0) cs' j w cs h hl
  rw [Addr.add_lit, Nat.zero_add]
  refine .mk ⟨_, hr, hK _ (h2 _ [Bx b (cs.take j ++ cs' ++ cs.drop (j + cs'.length))] ⟨S, [b], ⟨hu, fun _ h => h, fun x hx => ⟨Nat.lt_of_lt_of_le (hh.sb x hx).1 hu.size, .inl hx⟩, ⟨[b], [], rfl, ⟨rfl, e, hp⟩, rfl⟩, by simp, fun x hx => hh.out x hx⟩⟩)⟩
/-- structs of numbers, not equal -/
theorem neqA {t n b : Nat} {fl : List (Nat × Nat)} {F : Array Field} {zt : Value} {x y : Operand} {xs ys : Array Value} {ls bs : List Int} {r : Bool} {K : Value → World → Prop} (ok : EngOk P G) (ht : nthO G.tt t = some ⟨.struct fl, n, b, zt⟩) (hu : P.underlying t = some (.struct F)) (hn : (F.toList.all fun f => f.name != "_") = true) (hg : P.eqGuardType P.depth t = false) (hs : P.stoodInHeld t = false) (hi : intFl G fl 0) (hx : xs.toList = ls.map (Value.int .i64)) (hy : ys.toList = bs.map (Value.int .i64)) (ha : fl.length = ls.length) (hb : fl.length = bs.length) (e : some (!decide (ls = bs)) = some r) (hK : K (.bool r) w) : ERun P (do eqGuard .neq t x y (.agg xs) (.agg ys); binOp .neq t (.agg xs) (.agg ys)) w K := by
  obtain ⟨F', hF', hfl⟩ := und_struct (und_of ok ht)
  rw [hu] at hF'
  simp only [Option.some.injEq, TypeDesc.struct.injEq] at hF'
  subst hF'
  have hf : P.fieldsOf t = F := by unfold Program.fieldsOf; rw [hu]
  have hlen : F.toList.length = fl.length := by rw [← hfl, List.length_map]
  have h1 := eqFields_run (P := P) (w := w) ok 9998 hx hy (by omega) F.toList fl 0 hfl (fun f hf => by have := List.all_eq_true.1 hn f hf; simpa using this) hi (by omega)
  have h2 := run_equalIn_struct (P := P) w 9999 t xs ys (by rw [hf]; exact hu) hs
  rw [hf, h1] at h2
  refine erun_of (v := .bool r) (w' := w) ?_ hK
  have h3 : (Op.equal t (.agg xs) (.agg ys)).run P w = .ok (decide (ls = bs)) w := h2
  have h4 : (eqGuard .neq t x y (.agg xs) (.agg ys)).run P w = .ok () w := by
    simp [eqGuard, hg]
  have h5 : binOp .neq t (.agg xs) (.agg ys) = (do pure (.bool (!(← Op.equal t (.agg xs) (.agg ys))))) := by simp [binOp]
  rw [h5]
  simp only [Sem.run_bind, h4, Result.andThen_ok, h3, Sem.run_pure]
  rw [Option.some.inj e]
/-- types whose values hold no place: what is read is one's own -/
class Flat (α : Type) [Rep α] : Prop where
  flat : ∀ {w : World} {S S' : Nat → Prop} {x : α} {g : Gh α}, rd w S x g → own w S' [] x g
instance : Flat Int := ⟨fun _ => rfl⟩
instance : Flat Bool := ⟨fun _ => rfl⟩
instance : Flat By := ⟨fun _ => rfl⟩
instance : Flat ByteArray := ⟨fun _ => rfl⟩
instance {α β : Type} [Rep α] [Rep β] [Flat α] [Flat β] : Flat (α × β) := ⟨fun h => ⟨[], [], rfl, Flat.flat h.1, Flat.flat h.2, List.nodup_nil⟩⟩
theorem Cx.unSh {α : Type} [Rep α] [Flat α] {xs : List α} {h : Hd} (H : Cx w0 F S0 w (E (List (Sh α)) xs h :: Γ)) : Cx w0 F S0 w (E (List α) xs h :: Γ) := by
  obtain ⟨S, fp, H⟩ := H
  obtain ⟨f, r, rfl, h1, h2⟩ := H.all
  have h1 : OwnG (sz α) (fun w f cs x => ∃ g : Gh α, cs = cl (α := α) x g ∧ (f = [] ∧ rd (α := α) w S x g)) w f h.a h.n h.c xs := h1
  refine ⟨S, _, H.upd, H.s0, H.sb, ⟨f, r, rfl, ?_, h2⟩, H.nd, H.out⟩
  exact OwnG.keep (fun _ ⟨g, e1, e2, e3⟩ => ⟨g, e1, by subst e2; exact Flat.flat e3⟩) (fun _ _ => rfl) h1
end
end Go.Proofs.YteimaohaeodbkaaGreat.RW
