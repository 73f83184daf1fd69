/-
  A list's end handed over to be changed in its place ('EW'), and copy. Conditions: the engine's table holds ('EngOk').
-/
import Derived.Test.YtnlbhdepagkjgaaDoorZOps18
namespace Go.Proofs.YtnlbhdepagkjgaaDoor.RW
open Go
open Rep RepZ
section
variable {P : Program} {G : Eng} {w w0 : World} {F : List Nat} {S0 : Nat → Prop} {Γ : List Ent} {K : Value → World → Prop}
/-- a list of one's own, of which one looks at the end: pre ++ suf lies there (header h), h' is the end's header -/
def EW (pre suf : List Int) (h h' : Hd) : Ent :=
  ⟨fun w S fp => own w S fp (pre ++ suf) h ∧ h'.n = suf.length ∧ h'.n ≤ h'.c ∧ h'.c ≤ maxLen ∧ (suf ≠ [] → h'.a = h.a.map (·.add (pre.length * 1))),
    fun hS ⟨h1, h2⟩ => ⟨own_mono hS h1, h2⟩, fun hS hf ⟨h1, h2⟩ => ⟨own_keep hS hf h1, h2⟩, fun ⟨h1, _⟩ => own_lt h1⟩
theorem Cx.rw {pre suf : List Int} {h h' : Hd} (H : Cx w0 F S0 w Γ) (i : Nat) (hi : entAt Γ i = EW pre suf h h') : Rdb w suf h' := by
  obtain ⟨S, fp, I⟩ := H
  obtain ⟨f, h1, _⟩ := I.all.ent i
  rw [hi] at h1
  obtain ⟨h1, h2, h3, h4, h5⟩ := h1
  have hr : RdG 1 (rOf (fun b => S b ∨ b ∈ f)) w (fun b => S b ∨ b ∈ f) h.a h.n h.c (pre ++ suf) := own_rd h1
  refine ⟨fun b => S b ∨ b ∈ f, h2, h3, h4, fun hp => ?_⟩
  have hne : suf ≠ [] := fun e => by subst e; exact absurd hp (by simp)
  obtain ⟨b, o, ha, hb, hc⟩ := hr.2.2.2 (by rw [List.length_append]; omega)
  refine ⟨b, o + pre.length * 1, by rw [h5 hne, ha]; show some (Addr.add _ _) = _; rw [Addr.add_lit], hb, fun j hj => ?_⟩
  obtain ⟨cs, k1, k2⟩ := hc (pre.length + j) (by rw [List.length_append]; omega)
  have e1 : (pre ++ suf)[pre.length + j]'(by rw [List.length_append]; omega) = suf[j] := by
    rw [List.getElem_append_right (by omega)]
    simp
  rw [e1] at k2
  refine ⟨cs, fun q u hu => ?_, k2⟩
  have := k1 q u hu
  show w.cell? ⟨b, o + pre.length * 1 + j * 1 + q, none⟩ = some u
  rw [show o + pre.length * 1 + j * 1 + q = o + (pre.length + j) * 1 + q by omega]
  exact this
end
end Go.Proofs.YtnlbhdepagkjgaaDoor.RW
