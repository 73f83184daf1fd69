/-
  Bytes and strings: comparisons, indices, conversions, sums. Conditions: the engine's table holds ('EngOk').
-/
import Derived.Test.YtnlbhdepagkjgaaDoorZOps11
namespace Go.Proofs.YtnlbhdepagkjgaaDoor.RW
open Go
open Rep RepZ
instance : Rep By where
  Gh := Unit
  sz := 1
  agg := false
  cl x _ := [.int .u8 x]
  rd _ _ _ _ := True
  own _ _ fp _ _ := fp = []
  cl_len _ _ := rfl
  cl_one _ _ u hu := by simp at hu; subst hu; rfl
  rd_mono _ h := h
  rd_keep _ h := h
  own_rd _ := trivial
  own_mono _ h := h
  own_keep _ _ h := h
  own_lt h b hb := by rw [h] at hb; cases hb
  own_nd h := by rw [h]; exact List.nodup_nil
  cl_inj _ _ _ _ := rfl
instance : RepZ By := ⟨(0 : Int), (), fun _ _ => rfl⟩
instance : Closed By := ⟨fun h => h⟩
instance : Sc By := ⟨fun x => .int .u8 x, rfl, fun _ _ => rfl, fun _ => rfl, fun _ _ _ _ => trivial, fun _ _ _ _ _ => Iff.rfl, ()⟩
section
variable {P : Program} {G : Eng} {w0 w : World} {F : List Nat} {S0 : Nat → Prop} {Γ : List Ent} {t : Nat} {x y : Operand} {k : IntKind} {a b : Int} {r : Bool} {K : Value → World → Prop}
end
end Go.Proofs.YtnlbhdepagkjgaaDoor.RW
