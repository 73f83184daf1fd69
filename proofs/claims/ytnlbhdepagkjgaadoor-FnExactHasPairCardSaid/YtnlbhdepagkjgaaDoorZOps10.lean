/-
  Strings: a leaf of one cell. Conditions: the engine's table holds ('EngOk').
-/
import Derived.Test.YtnlbhdepagkjgaaDoorZOps9
namespace Go.Proofs.YtnlbhdepagkjgaaDoor.RW
open Go
open Rep RepZ
instance : Rep ByteArray where
  Gh := Unit
  sz := 1
  agg := false
  cl x _ := [.string x]
  rd _ _ _ _ := True
  own _ _ fp _ _ := fp = []
  cl_len _ _ := rfl
  cl_one _ _ u hu := by simp at hu; subst hu; rfl
  rd_mono _ h := h
  rd_keep _ h := h
  own_rd _ := trivial
  own_mono _ h := h
  own_keep _ _ h := h
  own_lt h b hb := by rw [h] at hb; cases hb
  own_nd h := by rw [h]; exact List.nodup_nil
  cl_inj _ _ _ _ := rfl
instance : RepZ ByteArray := ⟨.empty, (), fun _ _ => rfl⟩
instance : Closed ByteArray := ⟨fun h => h⟩
instance : Sc ByteArray := ⟨fun x => .string x, rfl, fun _ _ => rfl, fun _ => rfl, fun _ _ _ _ => trivial, fun _ _ _ _ _ => Iff.rfl, ()⟩
section
variable {P : Program} {G : Eng} {w : World}
end
end Go.Proofs.YtnlbhdepagkjgaaDoor.RW
