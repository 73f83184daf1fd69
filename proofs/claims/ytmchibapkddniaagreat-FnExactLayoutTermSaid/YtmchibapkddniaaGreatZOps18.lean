/-
  Trees: values behind an interface. Made, asked for their kind, their nodes asked for. Conditions: the engine's table holds ('EngOk').
-/
import Derived.Test.YtmchibapkddniaaGreatZOps17
import Derived.Test.YtmchibapkddniaaGreatZEng
import Derived.Lib.AppendZeros
namespace Go.Proofs.YtmchibapkddniaaGreat.RW
open Go
open Rep RepZ
section
variable {P : Program} {G : Eng} {w w0 : World} {F : List Nat} {S0 : Nat → Prop} {Γ : List Ent} {K : Value → World → Prop}
/-- nil with room for n elements -/
theorem growZ {α : Type} [Rep α] {t tn e ty st bt sn bn be n : Nat} {zt zn ze : Value} {ke : TK} {kn : IntKind} (ok : EngOk P G) (ht : nthO G.tt t = some ⟨.slice e, st, bt, zt⟩) (htn : nthO G.tt tn = some ⟨.int kn, sn, bn, zn⟩) (he : nthO G.tt e = some ⟨ke, sz α, be, ze⟩)
    (hz : ze.cells.size = sz α) (h0 : Nat.blt 0 (sz α) = true) (hbe : Nat.ble be 128 = true) (hn : 0 < n) (hn2 : n ≤ 1000000) (H : Cx w0 F S0 w Γ)
    (hK : ∀ (b c : Nat) w', Cx w0 F S0 w' (E (List α) [] (⟨some ⟨b, 0, none⟩, 0, c⟩ : Hd) :: Γ) → K (.slice (some ⟨b, 0, none⟩) n c) w') :
    ERun P (Builtin.append_ #[t, tn] ty #[.slice none 0 0, .int .i64 n]) w K := by
  have hu := und_slice (und_of ok ht)
  have hun := und_intK (und_of ok htn)
  obtain ⟨i, hi, hiz, his, hib⟩ := inf_of ok he
  simp only at his hib hiz
  have h0 : 0 < sz α := by simpa [Nat.blt_eq] using h0
  have hbe := Nat.le_of_ble_eq_true hbe
  have hb : n * i.bytes ≤ 281474976710656 := by
    rw [hib]
    exact Nat.le_trans (Nat.mul_le_mul hn2 hbe) (by omega)
  have hr := Lib.run_append_nil_zeros (P := P) w t tn ty e i ze .i64 kn hu hun hi hiz n hn (by omega) (by omega) hb
  have hge : n ≤ grownCap w n 0 e := grownCap_ge _ _ _ _
  have hle : grownCap w n 0 e ≤ maxLen := grownCap_le_maxLen _ _ _ _ (by unfold maxLen; omega)
  have hx : Ext w (w.drew.alloc (.cells (Builtin.zeroCells ze.cells n ++ Builtin.zeroCells ze.cells (grownCap w n 0 e - n)) e)) := (Upd.drew w).trans0 (Upd.alloc w.drew _)
  refine erun_of hr (hK _ _ _ (H.new (f := [w.heap.size]) hx (fun S _ => .inr ⟨w.heap.size, 0, _, e, [], rfl, heap_alloc_new w.drew _, rfl, Nat.zero_le _, hle, ?_, rfl, rfl, by simp, ?_⟩) (by simp) (by simp)))
  · show 0 + grownCap w n 0 e * sz α ≤ _
    rw [Array.size_append, size_zeroCells, size_zeroCells, hz, ← Nat.add_mul, Nat.zero_add]
    exact Nat.mul_le_mul_right _ (by omega)
  · intro k hk
    simp at hk
/-- the front of what has room, of no length -/
theorem front0 {t e st bt se be : Nat} {zt ze : Value} {ke : TK} {b n c : Nat} (ok : EngOk P G) (ht : nthO G.tt t = some ⟨.slice e, st, bt, zt⟩) (he : nthO G.tt e = some ⟨ke, se, be, ze⟩) (hk : K (.slice (some ⟨b, 0, none⟩) 0 c) w) :
    ERun P (Instr.sliceAt t (.slice (some ⟨b, 0, none⟩) n c) none (some (.int .i64 0)) none) w K := by
  have hu := und_slice (und_of ok ht)
  have hs := sizeOf_run ok he w
  simp only at hs
  refine erun_of (v := .slice (some ⟨b, 0, none⟩) 0 c) (w' := w) ?_ hk
  simp [Instr.sliceAt, Instr.slice, Instr.sliceBounds, Instr.sliceBound, asIntOf, run_underlying hu, hs, Addr.add]
/-- the capacity of nil -/
theorem cap0 {t e st bt ty : Nat} {zt : Value} (ok : EngOk P G) (ht : nthO G.tt t = some ⟨.slice e, st, bt, zt⟩) (hk : K (.int .i64 0) w) : ERun P (Builtin.cap_ #[t] ty #[.slice none 0 0]) w K := by
  have hu := und_slice (und_of ok ht)
  exact erun_of (by simp [Builtin.cap_, run_underlying hu, goInt]) hk
theorem frontN {t e st bt se be : Nat} {zt ze : Value} {ke : TK} (ok : EngOk P G) (ht : nthO G.tt t = some ⟨.slice e, st, bt, zt⟩) (he : nthO G.tt e = some ⟨ke, se, be, ze⟩) (hk : K (.slice none 0 0) w) :
    ERun P (Instr.sliceAt t (.slice none 0 0) none (some (.int .i64 0)) none) w K := by
  have hu := und_slice (und_of ok ht)
  have hs := sizeOf_run ok he w
  simp only at hs
  refine erun_of (v := .slice none 0 0) (w' := w) ?_ hk
  simp [Instr.sliceAt, Instr.slice, Instr.sliceBounds, Instr.sliceBound, asIntOf, run_underlying hu, hs]
/-! ### methods behind an interface -/
end
end Go.Proofs.YtmchibapkddniaaGreat.RW
