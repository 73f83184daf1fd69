/-
  Trees: values behind an interface. Made, asked for their kind, their nodes asked for. Conditions: the engine's table holds ('EngOk').
-/
import Derived.Test.YteimaohaeodbkaaGreatDoorZOps17
import Derived.Test.YteimaohaeodbkaaGreatDoorZEng
import Derived.Lib.AppendZeros
namespace Go.Proofs.YteimaohaeodbkaaGreatDoor.RW
open Go
open Rep RepZ
section
variable {P : Program} {G : Eng} {w w0 : World} {F : List Nat} {S0 : Nat → Prop} {Γ : List Ent} {K : Value → World → Prop}
theorem al1 {v : Value} {l : List Value} (h : v.oneCell' = true) (k : allOne l = true) : allOne (v :: l) = true := by
  show cond v.oneCell' (allOne l) false = true
  rw [h]; exact k
/-- a part of a text -/
theorem slZ {t st bt : Nat} {zt : Value} {s z : ByteArray} {lo hi : Int} (ok : EngOk P G) (ht : nthO G.tt t = some ⟨.string, st, bt, zt⟩) (h : cutO s lo hi = some z) (hk : K (.string z) w) :
    ERun P (Instr.sliceAt t (.string s) (some (.int .i64 lo)) (some (.int .i64 hi)) none) w K := by
  have hu := und_string (und_of ok ht)
  unfold cutO at h
  split at h
  · rename_i h0
    obtain ⟨h1, h2, h3⟩ := h0
    obtain ⟨l, rfl⟩ := Int.eq_ofNat_of_zero_le h1
    obtain ⟨m, rfl⟩ := Int.eq_ofNat_of_zero_le (Int.le_trans h1 h2)
    simp only [Int.ofNat_eq_natCast, Int.toNat_natCast] at h h3
    have h2 : l ≤ m := by omega
    rw [← Option.some.inj h] at hk
    refine erun_of (v := .string (s.extract l m)) (w' := w) ?_ hk
    simp [Instr.sliceAt, Instr.slice, Instr.sliceBounds, Instr.sliceBound, asIntOf, run_underlying hu, h2, h3]
  · cases h
/-! ### methods behind an interface -/
end
def tv : Tree → Value
  | .nl => .nilIface
  | .lf n => .iface 71 (.agg #[.int .i64 n.1, .int .i64 n.2.1, .string n.2.2])
  | .sq a b => .iface 64 (.agg #[tv a, tv b])
  | .pr a b => .iface 67 (.agg #[tv a, tv b])
theorem tv_one (x : Tree) : (tv x).oneCell' = true := by cases x <;> rfl
instance : Rep Tree where
  Gh := Unit
  sz := 1
  agg := false
  cl x _ := [tv x]
  rd _ _ _ _ := True
  own _ _ fp _ _ := fp = []
  cl_len _ _ := rfl
  cl_one x _ u hu := by
    rw [List.mem_singleton] at hu
    subst hu
    exact tv_one x
  rd_mono _ h := h
  rd_keep _ h := h
  own_rd _ := trivial
  own_mono _ h := h
  own_keep _ _ h := h
  own_lt h b hb := by rw [h] at hb; cases hb
  own_nd h := by rw [h]; exact List.nodup_nil
  cl_inj _ _ _ _ := rfl
instance : Sc Tree := ⟨tv, rfl, fun _ _ => rfl, tv_one, fun _ _ _ _ => trivial, fun _ _ _ _ _ => Iff.rfl, ()⟩
instance : RepZ Tree := ⟨.nl, (), fun _ _ => rfl⟩
instance : Closed Tree := ⟨fun h => h⟩
instance : Flat Tree := ⟨fun _ => rfl⟩

section
variable {w w0 : World} {F : List Nat} {S0 : Nat → Prop} {Γ : List Ent} {K : Value → World → Prop}
theorem mkT {P : Program} {t : Nat} {Fs : Array Field} {v : Value} (hu : P.underlying t = some (.struct Fs)) (hk : K (.iface t v) w) : ERun P (Instr.makeInterface t v) w K :=
  erun_of (v := .iface t v) (w' := w) (by simp [Instr.makeInterface, run_underlying hu]) hk
theorem mkSq {a b : Tree} (hk : K (tv (.sq a b)) w) : ERun Tryz.prog (Instr.makeInterface 64 (.agg #[tv a, tv b])) w K := mkT Tryz.underlying64 hk
theorem mkPr {a b : Tree} (hk : K (tv (.pr a b)) w) : ERun Tryz.prog (Instr.makeInterface 67 (.agg #[tv a, tv b])) w K := mkT Tryz.underlying67 hk
theorem mkLf {k i : Int} {s : ByteArray} (hk : K (tv (.lf (k, i, s))) w) : ERun Tryz.prog (Instr.makeInterface 71 (.agg #[.int .i64 k, .int .i64 i, .string s])) w K := mkT Tryz.underlying71 hk

theorem ta_run {P : Program} {G : Eng} (ok : EngOk P G) {t st bb : Nat} {k : TK} {z : Value} {Fs : Array Field} (ht : nthO G.tt t = some ⟨k, st, bb, z⟩) (hu : P.underlying t = some (.struct Fs)) (s : Nat) (x : Value) (hx : x = .nilIface ∨ ∃ t' v, x = .iface t' v) :
    (Instr.typeAssert x s t true).run P w = .ok (.tuple (match x with | .iface t' v => if t' = t then #[v, .bool true] else #[z, .bool false] | _ => #[z, .bool false])) w := by
  obtain ⟨i, hi, hiz, _, _⟩ := inf_of ok ht
  simp only at hiz
  have hz : (zeroValue t).run P w = .ok z w := by simp [zeroValue, typeInfo, hi, hiz]
  rcases hx with rfl | ⟨t', v, rfl⟩
  · simp [Instr.typeAssert, run_underlying hu, hz]
  · by_cases h : t' = t
    · subst h
      simp [Instr.typeAssert, run_underlying hu]
    · simp [Instr.typeAssert, run_underlying hu, hz, h]
theorem fillT (a b : Tree) : Instr.fill (fun i => [((0 : Nat), (1 : Nat)), (1, 1)][i]?) #[.nilIface, .nilIface] [(0, tv a), (1, tv b)] = some #[tv a, tv b] := by cases a <;> cases b <;> rfl
theorem tv_if (x : Tree) : tv x = .nilIface ∨ ∃ t' v, tv x = .iface t' v := by
  cases x
  · exact .inl rfl
  all_goals exact .inr ⟨_, _, rfl⟩
theorem taSq {x : Tree} {s : Nat} {z : Bool} (h : some (isSq x) = some z) (hk : K (.tuple #[.agg #[tv (sqA x), tv (sqB x)], .bool z]) w) : ERun Tryz.prog (Instr.typeAssert (tv x) s 64 true) w K := by
  obtain rfl := Option.some.inj h
  refine erun_of (ta_run gok rfl Tryz.underlying64 s (tv x) (tv_if x)) ?_
  cases x <;> exact hk
theorem taPr {x : Tree} {s : Nat} {z : Bool} (h : some (isPr x) = some z) (hk : K (.tuple #[.agg #[tv (prA x), tv (prB x)], .bool z]) w) : ERun Tryz.prog (Instr.typeAssert (tv x) s 67 true) w K := by
  obtain rfl := Option.some.inj h
  refine erun_of (ta_run gok rfl Tryz.underlying67 s (tv x) (tv_if x)) ?_
  cases x <;> exact hk
theorem taLf {x : Tree} {s : Nat} {z : Bool} (h : some (isLf x) = some z) (hk : K (.tuple #[.agg #[.int .i64 (lfN x).1, .int .i64 (lfN x).2.1, .string (lfN x).2.2], .bool z]) w) : ERun Tryz.prog (Instr.typeAssert (tv x) s 71 true) w K := by
  obtain rfl := Option.some.inj h
  refine erun_of (ta_run gok rfl Tryz.underlying71 s (tv x) (tv_if x)) ?_
  cases x <;> exact hk
end
end Go.Proofs.YteimaohaeodbkaaGreatDoor.RW
