/-
  A list that has been appended to another one and is read once more: the whole, and beside it what the second one still shows. Conditions: those of the rules.
-/
import Derived.Test.YtnlbhdepagkjgaaDoorZOps15
namespace Go.Proofs.YtnlbhdepagkjgaaDoor.RW
open Go
open Rep RepZ
/-- e, and beside it v, which may read what e owns -/
def EV (e v : Ent) : Ent := ⟨fun w S fp => ∃ f1 f2, fp = f1 ++ f2 ∧ e.h w S f1 ∧ (∀ b ∈ f2, b < w.heap.size) ∧ v.h w (fun b => S b ∨ b ∈ fp) [],
  fun hS ⟨f1, f2, h1, h2, h3, h4⟩ => ⟨f1, f2, h1, e.mono hS h2, h3, v.mono (fun b hb => hb.imp (hS b) id) h4⟩,
  fun hS hf ⟨f1, f2, h1, h2, h3, h4⟩ => ⟨f1, f2, h1, e.keep hS (fun b hb => hf b (by rw [h1]; exact List.mem_append_left _ hb)) h2,
    fun b hb => by
      have := hf b (by rw [h1]; exact List.mem_append_right _ hb)
      rw [Array.getElem?_eq_getElem (h3 b hb)] at this
      exact lt_of_some this,
    v.keep (fun b hb => hb.elim (hS b) (hf b)) (fun b hb => by cases hb) h4⟩,
  fun ⟨f1, f2, h1, h2, h3, h4⟩ b hb => by
    rw [h1] at hb
    rcases List.mem_append.1 hb with hb | hb
    · exact e.lt h2 b hb
    · exact h3 b hb⟩
section
variable {P : Program} {G : Eng} {w w0 : World} {F : List Nat} {S0 : Nat → Prop} {Γ : List Ent}
theorem Vw.ev {e v : Ent} (i : Nat) (hi : entAt Γ i = EV e v) : Vw w Γ v := by
  intro S fp h
  obtain ⟨f, h1, h2⟩ := h.ent i
  rw [hi] at h1
  obtain ⟨f1, f2, k1, k2, k3, k4⟩ := h1
  exact v.mono (fun b hb => hb.imp id (h2 b)) k4
end
end Go.Proofs.YtnlbhdepagkjgaaDoor.RW
