/-
  Arrays: literals, addresses of elements; max and min of two ints. Conditions: the engine's table holds ('EngOk').
-/
import Derived.Test.YtnlbhdepagkjgaaDoorZOps10
namespace Go.Proofs.YtnlbhdepagkjgaaDoor.RW
open Go
open Rep RepZ
section
variable {P : Program} {G : Eng} {w0 w : World} {F : List Nat} {S0 : Nat → Prop} {Γ : List Ent}
theorem max_ {tys : Array TypeId} {ty : TypeId} {a b z : Int} {K : Value → World → Prop} (h : some (maxI2 a b) = some z) (hK : K (.int .i64 z) w) : ERun P (Builtin.max_ tys ty #[.int .i64 a, .int .i64 b]) w K := by
  obtain rfl := Option.some.inj h
  refine erun_of (v := .int .i64 (maxI2 a b)) (w' := w) ?_ hK
  simp [Builtin.max_, Builtin.max2, maxI2]
theorem min_ {tys : Array TypeId} {ty : TypeId} {a b z : Int} {K : Value → World → Prop} (h : some (minI2 a b) = some z) (hK : K (.int .i64 z) w) : ERun P (Builtin.min_ tys ty #[.int .i64 a, .int .i64 b]) w K := by
  obtain rfl := Option.some.inj h
  refine erun_of (v := .int .i64 (minI2 a b)) (w' := w) ?_ hK
  simp [Builtin.min_, Builtin.min2, minI2]
end
end Go.Proofs.YtnlbhdepagkjgaaDoor.RW
