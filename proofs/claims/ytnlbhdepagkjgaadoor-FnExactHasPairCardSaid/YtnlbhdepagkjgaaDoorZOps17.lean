/-
  Maps from int to int that a call makes for itself: made, asked, turned, walked in whatever order. Conditions: the engine's table holds ('EngOk').
-/
import Derived.Test.YtnlbhdepagkjgaaDoorZOps16
import Derived.Test.YtnlbhdepagkjgaaDoorZF
import Derived.MapKept
import Derived.ChangeMaps4
import Derived.Maps.RangeRun
namespace Go.Proofs.YtnlbhdepagkjgaaDoor.RW
open Go
open Rep RepZ
/-- a map's header -/
structure Mh where
  b : Nat
def Mh.v (h : Mh) : Value := .map (some h.b)
def entV (p : Int × Int) : Value × Value := (.int .i64 p.1, .int .i64 p.2)
def MRow (w : World) (b : Nat) (l : List (Int × Int)) : Prop := ∃ es clock, w.heap[b]? = some (.map es clock) ∧ es.toList.map (fun x => (x.key, x.val)) = l.map entV ∧ KeysOk l ∧ (es.toList.map (·.born)).Nodup ∧ ∀ x ∈ es.toList, x.born < clock
theorem MRow.keep {w w' : World} {b : Nat} {l : List (Int × Int)} (h : MRow w b l) (hb : w'.heap[b]? = w.heap[b]?) : MRow w' b l := by
  obtain ⟨es, c, h1, h2⟩ := h
  exact ⟨es, c, hb.trans h1, h2⟩
instance : Rep MI where
  Gh := Mh
  sz := 1
  agg := false
  cl _ g := [g.v]
  rd w S m g := S g.b ∧ MRow w g.b m.kvs
  own w _ fp m g := fp = [g.b] ∧ MRow w g.b m.kvs
  cl_len _ _ := rfl
  cl_one _ _ u hu := by simp at hu; subst hu; rfl
  rd_mono hS h := ⟨hS _ h.1, h.2⟩
  rd_keep hS h := ⟨h.1, h.2.keep (hS _ h.1)⟩
  own_rd h := ⟨.inr (by rw [h.1]; simp), h.2⟩
  own_mono _ h := h
  own_keep _ hf h := ⟨h.1, h.2.keep (hf _ (by rw [h.1]; simp))⟩
  own_lt h b hb := by
    obtain ⟨h1, es, c, h2, _⟩ := h
    rw [h1] at hb; simp at hb; subst hb
    exact lt_of_some h2
  own_nd h := by rw [h.1]; simp
  cl_inj _ g g' h := by
    cases g; cases g'
    simp [Mh.v] at h
    rw [h]
instance : Closed MI := ⟨fun h => h⟩
section
variable {P : Program} {G : Eng} {w0 w : World} {F : List Nat} {S0 : Nat → Prop} {Γ : List Ent}
end
/-! ### a loop over a map -/
section
variable {P : Program} {G : Eng} {w0 w : World} {F : List Nat} {S0 : Nat → Prop} {Γ : List Ent}
end
end Go.Proofs.YtnlbhdepagkjgaaDoor.RW
