/-
  Variables that a drawn region makes for itself: what is written into them leaves all that was there before. Conditions: those of the rules.
-/
import Derived.Test.YtnlbhdepagkjgaaDoorZOps14
namespace Go.Proofs.YtnlbhdepagkjgaaDoor.RW
open Go
open Rep RepZ
section
variable {P : Program} {G : Eng} {w w0 : World} {F : List Nat} {S0 : Nat → Prop} {Γ : List Ent}
theorem Upd.fresh {a b c : World} {x : Nat} (h : Ext a b) (k : Upd [x] b c) (hx : a.heap.size ≤ x) : Ext a c := h.trans k fun y hy => .inr (by rw [List.mem_singleton.1 hy]; exact hx)
end
end Go.Proofs.YtnlbhdepagkjgaaDoor.RW
