/-
  Trees: values behind an interface. Made, asked for their kind, their nodes asked for. Conditions: the engine's table holds ('EngOk').
-/
import Derived.Test.YteimaohaeodbkaaGreatZOps17
import Derived.Test.YteimaohaeodbkaaGreatZEng
import Derived.Lib.AppendZeros
namespace Go.Proofs.YteimaohaeodbkaaGreat.RW
open Go
open Rep RepZ
section
variable {P : Program} {G : Eng} {w w0 : World} {F : List Nat} {S0 : Nat → Prop} {Γ : List Ent} {K : Value → World → Prop}
theorem al1 {v : Value} {l : List Value} (h : v.oneCell' = true) (k : allOne l = true) : allOne (v :: l) = true := by
  show cond v.oneCell' (allOne l) false = true
  rw [h]; exact k
/-- nil with room for n elements -/
theorem growZ {α : Type} [Rep α] {t tn e ty st bt sn bn be n : Nat} {zt zn ze : Value} {ke : TK} {kn : IntKind} (ok : EngOk P G) (ht : nthO G.tt t = some ⟨.slice e, st, bt, zt⟩) (htn : nthO G.tt tn = some ⟨.int kn, sn, bn, zn⟩) (he : nthO G.tt e = some ⟨ke, sz α, be, ze⟩)
    (hz : ze.cells.size = sz α) (h0 : Nat.blt 0 (sz α) = true) (hbe : Nat.ble be 128 = true) (hn : 0 < n) (hn2 : n ≤ 1000000) (H : Cx w0 F S0 w Γ)
    (hK : ∀ (b c : Nat) w', Cx w0 F S0 w' (E (List α) [] (⟨some ⟨b, 0, none⟩, 0, c⟩ : Hd) :: Γ) → K (.slice (some ⟨b, 0, none⟩) n c) w') :
    ERun P (Builtin.append_ #[t, tn] ty #[.slice none 0 0, .int .i64 n]) w K := by
  have hu := und_slice (und_of ok ht)
  have hun := und_intK (und_of ok htn)
  obtain ⟨i, hi, hiz, his, hib⟩ := inf_of ok he
  simp only at his hib hiz
  have h0 : 0 < sz α := by simpa [Nat.blt_eq] using h0
  have hbe := Nat.le_of_ble_eq_true hbe
  have hb : n * i.bytes ≤ 281474976710656 := by
    rw [hib]
    exact Nat.le_trans (Nat.mul_le_mul hn2 hbe) (by omega)
  have hr := Lib.run_append_nil_zeros (P := P) w t tn ty e i ze .i64 kn hu hun hi hiz n hn (by omega) (by omega) hb
  have hge : n ≤ grownCap w n 0 e := grownCap_ge _ _ _ _
  have hle : grownCap w n 0 e ≤ maxLen := grownCap_le_maxLen _ _ _ _ (by unfold maxLen; omega)
  have hx : Ext w (w.drew.alloc (.cells (Builtin.zeroCells ze.cells n ++ Builtin.zeroCells ze.cells (grownCap w n 0 e - n)) e)) := (Upd.drew w).trans0 (Upd.alloc w.drew _)
  refine erun_of hr (hK _ _ _ (H.new (f := [w.heap.size]) hx (fun S _ => .inr ⟨w.heap.size, 0, _, e, [], rfl, heap_alloc_new w.drew _, rfl, Nat.zero_le _, hle, ?_, rfl, rfl, by simp, ?_⟩) (by simp) (by simp)))
  · show 0 + grownCap w n 0 e * sz α ≤ _
    rw [Array.size_append, size_zeroCells, size_zeroCells, hz, ← Nat.add_mul, Nat.zero_add]
    exact Nat.mul_le_mul_right _ (by omega)
  · intro k hk
    simp at hk
/-- the front of what has room, of no length -/
theorem front0 {t e st bt se be : Nat} {zt ze : Value} {ke : TK} {b n c : Nat} (ok : EngOk P G) (ht : nthO G.tt t = some ⟨.slice e, st, bt, zt⟩) (he : nthO G.tt e = some ⟨ke, se, be, ze⟩) (hk : K (.slice (some ⟨b, 0, none⟩) 0 c) w) :
    ERun P (Instr.sliceAt t (.slice (some ⟨b, 0, none⟩) n c) none (some (.int .i64 0)) none) w K := by
  have hu := und_slice (und_of ok ht)
  have hs := sizeOf_run ok he w
  simp only at hs
  refine erun_of (v := .slice (some ⟨b, 0, none⟩) 0 c) (w' := w) ?_ hk
  simp [Instr.sliceAt, Instr.slice, Instr.sliceBounds, Instr.sliceBound, asIntOf, run_underlying hu, hs, Addr.add]
/-- the capacity of nil -/
theorem cap0 {t e st bt ty : Nat} {zt : Value} (ok : EngOk P G) (ht : nthO G.tt t = some ⟨.slice e, st, bt, zt⟩) (hk : K (.int .i64 0) w) : ERun P (Builtin.cap_ #[t] ty #[.slice none 0 0]) w K := by
  have hu := und_slice (und_of ok ht)
  exact erun_of (by simp [Builtin.cap_, run_underlying hu, goInt]) hk
theorem frontN {t e st bt se be : Nat} {zt ze : Value} {ke : TK} (ok : EngOk P G) (ht : nthO G.tt t = some ⟨.slice e, st, bt, zt⟩) (he : nthO G.tt e = some ⟨ke, se, be, ze⟩) (hk : K (.slice none 0 0) w) :
    ERun P (Instr.sliceAt t (.slice none 0 0) none (some (.int .i64 0)) none) w K := by
  have hu := und_slice (und_of ok ht)
  have hs := sizeOf_run ok he w
  simp only at hs
  refine erun_of (v := .slice none 0 0) (w' := w) ?_ hk
  simp [Instr.sliceAt, Instr.slice, Instr.sliceBounds, Instr.sliceBound, asIntOf, run_underlying hu, hs]
/-! ### methods behind an interface -/
abbrev nodesN : String := "loop.example/g01073/impl.nodes"
def methOk (P : Program) (t : Nat) (name : String) : Option Nat :=
  match P.info? t with
  | some i => match i.methods.find? (·.name == name) with
    | some m => match m.path.toList, m.func with
      | [], some (f, false) => some f
      | _, _ => none
    | none => none
  | none => none
theorem method_run {t f : Nat} {name : String} {Fs : Array Field} (h : methOk P t name = some f) (hu : P.underlying t = some (.struct Fs)) (v : Value) (k : Nat) : (method (k + 1) t v name).run P w = .ok (f, v) w := by
  unfold methOk at h
  split at h
  · rename_i i hi
    split at h
    · rename_i m hm
      split at h
      · rename_i hp hf
        obtain rfl := Option.some.inj h
        have hp' : m.path = #[] := by apply Array.ext'; simpa using hp
        simp [method, typeInfo, hi, hm, hp', hf, follow, receiverAt, Place.get, run_underlying hu]
      · cases h
    · cases h
  · cases h
def ConI (P : Program) (G : Eng) (r : Value) (name : String) (R : Value → List Ent → Prop) : Prop :=
  ∃ t v f Fs, r = .iface t v ∧ P.underlying t = some (.struct Fs) ∧ methOk P t name = some f ∧ G.can f = true ∧ ConF P f #[v] [] [] R
theorem conI {t f : Nat} {v : Value} {name : String} {R : Value → List Ent → Prop} {Fs : Array Field} (hu : P.underlying t = some (.struct Fs)) (hc : ConF P f #[v] [] [] R) (hm : methOk P t name = some f) (hg : G.can f = true) : ConI P G (.iface t v) name R := ⟨t, v, f, Fs, rfl, hu, hm, hg, hc⟩
theorem depth_succ (P : Program) : ∃ k, P.types.size + Made.depth = k + 1 := ⟨P.types.size + Made.depth - 1, by
  have : 0 < Made.depth := by decide
  omega⟩
theorem invF {r : Value} {name : String} {R : Value → List Ent → Prop} (hc : ConI P G r name R) (H : Cx w0 F S0 w Γ) (hK : ∀ v Γ' w', R v Γ' → Cx w0 F S0 w' (Γ' ++ Γ) → K v w') : EInv P G r name #[] w K := by
  obtain ⟨t, v, f, Fs, rfl, hu, hm, hg, hc⟩ := hc
  obtain ⟨k, hk⟩ := depth_succ P
  exact ⟨t, v, f, v, rfl, by rw [hk]; exact method_run hm hu v k, hg, callF (Γi := []) hc H trivial hK⟩
theorem invFx {r : Value} {name : String} {R : Value → List Ent → Prop} (hc : ConI P G r name R) (H : Cx w0 F S0 w Γ) (hK : ∀ v Γ' w', R v Γ' → Ext w w' → Cx w0 F S0 w' (Γ' ++ Γ) → K v w') : EInv P G r name #[] w K := by
  obtain ⟨t, v, f, Fs, rfl, hu, hm, hg, hc⟩ := hc
  obtain ⟨k, hk⟩ := depth_succ P
  exact ⟨t, v, f, v, rfl, by rw [hk]; exact method_run hm hu v k, hg, callFx hc H trivial hK⟩
end
def tv : Tree → Value
  | .nl => .nilIface
  | .lf n => .iface 132 (.agg #[.int .i64 n.1, .int .i64 n.2.1, .string n.2.2])
  | .sq a b => .iface 129 (.agg #[tv a, tv b])
  | .pr a b => .iface 130 (.agg #[tv a, tv b])
theorem tv_one (x : Tree) : (tv x).oneCell' = true := by cases x <;> rfl
instance : Rep Tree where
  Gh := Unit
  sz := 1
  agg := false
  cl x _ := [tv x]
  rd _ _ _ _ := True
  own _ _ fp _ _ := fp = []
  cl_len _ _ := rfl
  cl_one x _ u hu := by
    rw [List.mem_singleton] at hu
    subst hu
    exact tv_one x
  rd_mono _ h := h
  rd_keep _ h := h
  own_rd _ := trivial
  own_mono _ h := h
  own_keep _ _ h := h
  own_lt h b hb := by rw [h] at hb; cases hb
  own_nd h := by rw [h]; exact List.nodup_nil
  cl_inj _ _ _ _ := rfl
instance : Sc Tree := ⟨tv, rfl, fun _ _ => rfl, tv_one, fun _ _ _ _ => trivial, fun _ _ _ _ _ => Iff.rfl, ()⟩
instance : RepZ Tree := ⟨.nl, (), fun _ _ => rfl⟩
instance : Closed Tree := ⟨fun h => h⟩
instance : Flat Tree := ⟨fun _ => rfl⟩

section
variable {w w0 : World} {F : List Nat} {S0 : Nat → Prop} {Γ : List Ent} {K : Value → World → Prop}
theorem mkT {P : Program} {t : Nat} {Fs : Array Field} {v : Value} (hu : P.underlying t = some (.struct Fs)) (hk : K (.iface t v) w) : ERun P (Instr.makeInterface t v) w K :=
  erun_of (v := .iface t v) (w' := w) (by simp [Instr.makeInterface, run_underlying hu]) hk
theorem mkSq {a b : Tree} (hk : K (tv (.sq a b)) w) : ERun Tryz.prog (Instr.makeInterface 129 (.agg #[tv a, tv b])) w K := mkT Tryz.underlying129 hk
theorem mkPr {a b : Tree} (hk : K (tv (.pr a b)) w) : ERun Tryz.prog (Instr.makeInterface 130 (.agg #[tv a, tv b])) w K := mkT Tryz.underlying130 hk
theorem mkLf {k i : Int} {s : ByteArray} (hk : K (tv (.lf (k, i, s))) w) : ERun Tryz.prog (Instr.makeInterface 132 (.agg #[.int .i64 k, .int .i64 i, .string s])) w K := mkT Tryz.underlying132 hk

theorem ta_run {P : Program} {G : Eng} (ok : EngOk P G) {t st bb : Nat} {k : TK} {z : Value} {Fs : Array Field} (ht : nthO G.tt t = some ⟨k, st, bb, z⟩) (hu : P.underlying t = some (.struct Fs)) (s : Nat) (x : Value) (hx : x = .nilIface ∨ ∃ t' v, x = .iface t' v) :
    (Instr.typeAssert x s t true).run P w = .ok (.tuple (match x with | .iface t' v => if t' = t then #[v, .bool true] else #[z, .bool false] | _ => #[z, .bool false])) w := by
  obtain ⟨i, hi, hiz, _, _⟩ := inf_of ok ht
  simp only at hiz
  have hz : (zeroValue t).run P w = .ok z w := by simp [zeroValue, typeInfo, hi, hiz]
  rcases hx with rfl | ⟨t', v, rfl⟩
  · simp [Instr.typeAssert, run_underlying hu, hz]
  · by_cases h : t' = t
    · subst h
      simp [Instr.typeAssert, run_underlying hu]
    · simp [Instr.typeAssert, run_underlying hu, hz, h]
theorem fillT (a b : Tree) : Instr.fill (fun i => [((0 : Nat), (1 : Nat)), (1, 1)][i]?) #[.nilIface, .nilIface] [(0, tv a), (1, tv b)] = some #[tv a, tv b] := by cases a <;> cases b <;> rfl
theorem tv_if (x : Tree) : tv x = .nilIface ∨ ∃ t' v, tv x = .iface t' v := by
  cases x
  · exact .inl rfl
  all_goals exact .inr ⟨_, _, rfl⟩
theorem taSq {x : Tree} {s : Nat} {z : Bool} (h : some (isSq x) = some z) (hk : K (.tuple #[.agg #[tv (sqA x), tv (sqB x)], .bool z]) w) : ERun Tryz.prog (Instr.typeAssert (tv x) s 129 true) w K := by
  obtain rfl := Option.some.inj h
  refine erun_of (ta_run gok rfl Tryz.underlying129 s (tv x) (tv_if x)) ?_
  cases x <;> exact hk
theorem taPr {x : Tree} {s : Nat} {z : Bool} (h : some (isPr x) = some z) (hk : K (.tuple #[.agg #[tv (prA x), tv (prB x)], .bool z]) w) : ERun Tryz.prog (Instr.typeAssert (tv x) s 130 true) w K := by
  obtain rfl := Option.some.inj h
  refine erun_of (ta_run gok rfl Tryz.underlying130 s (tv x) (tv_if x)) ?_
  cases x <;> exact hk
theorem taLf {x : Tree} {s : Nat} {z : Bool} (h : some (isLf x) = some z) (hk : K (.tuple #[.agg #[.int .i64 (lfN x).1, .int .i64 (lfN x).2.1, .string (lfN x).2.2], .bool z]) w) : ERun Tryz.prog (Instr.typeAssert (tv x) s 132 true) w K := by
  obtain rfl := Option.some.inj h
  refine erun_of (ta_run gok rfl Tryz.underlying132 s (tv x) (tv_if x)) ?_
  cases x <;> exact hk
end
end Go.Proofs.YteimaohaeodbkaaGreat.RW
