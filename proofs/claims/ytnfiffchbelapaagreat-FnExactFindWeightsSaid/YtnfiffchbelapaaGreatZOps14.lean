/-
  Maps of names to 'true' that a call makes for itself: made, asked, a new name put in. Conditions: the engine's table holds ('EngOk').
-/
import Derived.Test.YtnfiffchbelapaaGreatZOps13
import Derived.MapKept
import Derived.Carry
namespace Go.Proofs.YtnfiffchbelapaaGreat.RW
open Go
open Rep RepZ
/-- a map whose names are these -/
def Mp (b : Nat) (l : List ByteArray) : Ent := ⟨fun w _ fp => fp = [b] ∧ ∃ es clock, w.heap[b]? = some (.map es clock) ∧ es.toList.map (·.key) = l.map Value.string ∧ ∀ x ∈ es.toList, x.val = .bool true, fun _ h => h,
  fun _ hf h => ⟨h.1, by obtain ⟨es, c, he, h2⟩ := h.2; exact ⟨es, c, (hf b (by rw [h.1]; simp)).trans he, h2⟩⟩, fun h b hb => by obtain ⟨es, c, he, _⟩ := h.2; rw [h.1] at hb; simp at hb; subst hb; exact lt_of_some he⟩
section
variable {P : Program} {G : Eng} {w0 w : World} {F : List Nat} {S0 : Nat → Prop} {Γ : List Ent}
theorem makeMap_ {t : Nat} {K : Value → World → Prop} (H : Cx w0 F S0 w Γ) (hK : ∀ b w', Ext w w' → Cx w0 F S0 w' (Mp b [] :: Γ) → K (.map (some b)) w') : ERun P (Instr.makeMap t none) w K :=
  erun_of (v := .map (some w.heap.size)) (w' := w.alloc (.map #[] 0)) (RowKit.run_makeMap t w)
    (hK _ _ (Upd.alloc w _) (H.new (f := [w.heap.size]) (Upd.alloc w _) (fun S _ => ⟨rfl, #[], 0, (MapKept.heap_alloc w _).1, rfl, fun x hx => by cases hx⟩) (by simp) (by simp)))
theorem keys_str {es : Array MapEntry} {l : List ByteArray} (h : es.toList.map (·.key) = l.map Value.string) : ∀ x ∈ es.toList, MapKept.IsKey .string x.key := by
  intro x hx
  have : x.key ∈ l.map Value.string := by rw [← h]; exact List.mem_map_of_mem hx
  obtain ⟨s, _, e⟩ := List.mem_map.1 this
  rw [← e]; trivial
theorem key_mem {es : Array MapEntry} {l : List ByteArray} {s : ByteArray} (h : es.toList.map (·.key) = l.map Value.string) : (∃ x ∈ es.toList, x.key = .string s) ↔ inS l s = true := by
  unfold inS
  rw [List.any_eq_true]
  constructor
  · rintro ⟨x, hx, e⟩
    have : x.key ∈ l.map Value.string := by rw [← h]; exact List.mem_map_of_mem hx
    obtain ⟨a, ha, e2⟩ := List.mem_map.1 this
    rw [e] at e2
    exact ⟨a, ha, decide_eq_true (Value.string.inj e2)⟩
  · rintro ⟨a, ha, e⟩
    obtain rfl := of_decide_eq_true e
    have : Value.string a ∈ es.toList.map (·.key) := by rw [h]; exact List.mem_map_of_mem ha
    obtain ⟨x, hx, e2⟩ := List.mem_map.1 this
    exact ⟨x, hx, e2⟩
theorem look_ (ok : EngOk P G) {t k e n bb : Nat} {kk : TK} (ht : P.underlying t = some (.map k e)) (hk : P.underlying k = some .string) (he : nthO G.tt e = some ⟨kk, n, bb, .bool false⟩) {b : Nat} {l : List ByteArray} {s : ByteArray} {r : Bool} (H : Cx w0 F S0 w Γ) (i : Nat) (hi : entAt Γ i = Mp b l) (hr : some (inS l s) = some r) {K : Value → World → Prop}
    (hK : K (.bool r) w) : ERun P (Instr.lookup t (.map (some b)) (.string s) false) w K := by
  obtain ⟨S, fp, _, es, c, hb, h1, h2⟩ := H.at_ i hi
  obtain ⟨inf, hinf, hiz, _, _⟩ := inf_of ok he
  simp only at hiz
  have hz : (zeroValue e).run P w = .ok (.bool false) w := by simp [zeroValue, typeInfo, hinf, hiz]
  have hch := MapKept.run_checkKey (P := P) (w := w) hk (k := .string s) trivial es.isEmpty 9999
  have hm := key_mem (s := s) h1
  rcases MapKept.findNow_spec (d := .string) (k := .string s) trivial es.toList 0 (keys_str h1) with ⟨f1, f2⟩ | ⟨j, x, f1, f2, f3⟩
  · have hf := MapKept.run_findKey (P := P) (w := w) hk f1
    have : inS l s = false := by
      cases hq : inS l s with
      | false => rfl
      | true => obtain ⟨x, hx, hx2⟩ := hm.2 hq; exact (f2 x hx hx2).elim
    rw [this] at hr
    obtain rfl := Option.some.inj hr
    refine erun_of (v := .bool false) (w' := w) ?_ hK
    simp [Instr.lookup, run_underlying ht, MapKept.run_getObj_map hb, hch, hf, hz, Result.andThen]
  · have hf := MapKept.run_findKey (P := P) (w := w) hk f1
    have hx : x ∈ es.toList := by
      obtain ⟨hj, e⟩ := List.getElem?_eq_some_iff.1 f2
      rw [← e]; exact List.getElem_mem hj
    have : inS l s = true := hm.1 ⟨x, hx, f3⟩
    rw [this] at hr
    obtain rfl := Option.some.inj hr
    refine erun_of (v := .bool true) (w' := w) ?_ hK
    have hv := h2 x hx
    simp [Instr.lookup, run_underlying ht, MapKept.run_getObj_map hb, hch, hf, hv, Result.andThen]
theorem put_ {t k e : Nat} (ht : P.underlying t = some (.map k e)) (hk : P.underlying k = some .string) {b : Nat} {l l' : List ByteArray} {s : ByteArray} (H : Cx w0 F S0 w (Mp b l :: Γ)) (hp : putS l s = some l') {K : World → Prop}
    (hK : ∀ w', Cx w0 F S0 w' (Mp b l' :: Γ) → K w') : EDo P (Instr.mapUpdate t (.map (some b)) (.string s) (.bool true)) w K := by
  unfold putS at hp
  split at hp
  · cases hp
  · rename_i hn
    obtain rfl := Option.some.inj hp
    obtain ⟨S, f1, h1, h2⟩ := Cx.frame (Γ1 := [Mp b l]) H
    obtain ⟨f, g, hfg, ⟨hf, es, c, hb, k1, k2⟩, hgg⟩ := h1.all
    have hgg : g = [] := hgg
    subst hf hgg hfg
    have hch := MapKept.run_checkKey (P := P) (w := w) hk (k := .string s) trivial false 9999
    rcases MapKept.findNow_spec (d := .string) (k := .string s) trivial es.toList 0 (keys_str k1) with ⟨f1, f2⟩ | ⟨j, x, f1, f2, f3⟩
    · have hfk := MapKept.run_findKey (P := P) (w := w) hk f1
      have hset := MapKept.run_setObj_map (P := P) (.map (es.push { key := .string s, val := .bool true, born := c }) (c + 1)) hb
      have hh := MapKept.heap_set (o' := .map (es.push { key := .string s, val := .bool true, born := c }) (c + 1)) hb
      have hu : Upd [b] w { w with heap := w.heap.setIfInBounds b (.map (es.push { key := .string s, val := .bool true, born := c }) (c + 1)) } := ⟨rfl, rfl, rfl, by simp, fun x _ hx => hh.2 x (by simpa using hx)⟩
      refine .mk ⟨_, ?_, hK _ (h2 _ [Mp b (l ++ [s])] ⟨S, [b], ⟨hu, fun _ h => h, fun x hx => ⟨?_, .inl hx⟩, ⟨[b], [], rfl, ⟨rfl, _, _, hh.1, ?_, ?_⟩, rfl⟩, by simp, fun x hx => h1.out x hx⟩⟩)⟩
      · simp [Instr.mapUpdate, run_underlying ht, MapKept.run_getObj_map hb, hch, hfk, hset, Result.andThen]
      · have := (h1.sb x hx).1
        simpa using this
      · simp [k1]
      · intro x hx
        simp at hx
        rcases hx with hx | rfl
        · exact k2 x (by simpa using hx)
        · rfl
    · have hx : x ∈ es.toList := by
        obtain ⟨hj, e⟩ := List.getElem?_eq_some_iff.1 f2
        rw [← e]; exact List.getElem_mem hj
      exact (hn ((key_mem (s := s) k1).1 ⟨x, hx, f3⟩)).elim
end
end Go.Proofs.YtnfiffchbelapaaGreat.RW
