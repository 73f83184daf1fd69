/-
  Trees: values behind an interface. Made, asked for their kind, their nodes asked for. Conditions: the engine's table holds ('EngOk').
-/
import Derived.Test.YtnlbhdepagkjgaaDoorZOps17
import Derived.Test.YtnlbhdepagkjgaaDoorZEng
import Derived.Lib.AppendZeros
namespace Go.Proofs.YtnlbhdepagkjgaaDoor.RW
open Go
open Rep RepZ
section
variable {P : Program} {G : Eng} {w w0 : World} {F : List Nat} {S0 : Nat → Prop} {Γ : List Ent} {K : Value → World → Prop}
/-! ### methods behind an interface -/
def methOk (P : Program) (t : Nat) (name : String) : Option Nat :=
  match P.info? t with
  | some i => match i.methods.find? (·.name == name) with
    | some m => match m.path.toList, m.func with
      | [], some (f, false) => some f
      | _, _ => none
    | none => none
  | none => none
theorem method_run {t f : Nat} {name : String} {Fs : Array Field} (h : methOk P t name = some f) (hu : P.underlying t = some (.struct Fs)) (v : Value) (k : Nat) : (method (k + 1) t v name).run P w = .ok (f, v) w := by
  unfold methOk at h
  split at h
  · rename_i i hi
    split at h
    · rename_i m hm
      split at h
      · rename_i hp hf
        obtain rfl := Option.some.inj h
        have hp' : m.path = #[] := by apply Array.ext'; simpa using hp
        simp [method, typeInfo, hi, hm, hp', hf, follow, receiverAt, Place.get, run_underlying hu]
      · cases h
    · cases h
  · cases h
def ConI (P : Program) (G : Eng) (r : Value) (name : String) (R : Value → List Ent → Prop) : Prop :=
  ∃ t v f Fs, r = .iface t v ∧ P.underlying t = some (.struct Fs) ∧ methOk P t name = some f ∧ G.can f = true ∧ ConF P f #[v] [] [] R
theorem depth_succ (P : Program) : ∃ k, P.types.size + Made.depth = k + 1 := ⟨P.types.size + Made.depth - 1, by
  have : 0 < Made.depth := by decide
  omega⟩
theorem invF {r : Value} {name : String} {R : Value → List Ent → Prop} (hc : ConI P G r name R) (H : Cx w0 F S0 w Γ) (hK : ∀ v Γ' w', R v Γ' → Cx w0 F S0 w' (Γ' ++ Γ) → K v w') : EInv P G r name #[] w K := by
  obtain ⟨t, v, f, Fs, rfl, hu, hm, hg, hc⟩ := hc
  obtain ⟨k, hk⟩ := depth_succ P
  exact ⟨t, v, f, v, rfl, by rw [hk]; exact method_run hm hu v k, hg, callF (Γi := []) hc H trivial hK⟩
end
end Go.Proofs.YtnlbhdepagkjgaaDoor.RW
