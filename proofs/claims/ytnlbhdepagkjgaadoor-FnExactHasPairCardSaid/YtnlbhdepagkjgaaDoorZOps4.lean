/-
  Small rules that the printed walks use. Condition: the engine's table holds ('EngOk') where a type's number is looked up.
-/
import Derived.Test.YtnlbhdepagkjgaaDoorZHeld
namespace Go.Proofs.YtnlbhdepagkjgaaDoor.RW
open Go
open Go.RowKit (Below)
open Rep RepZ

section
variable {P : Program} {G : Eng} {w0 w : World} {F : List Nat} {S0 : Nat → Prop} {Γ : List Ent}

theorem Cx.part {α β : Type} [Rep α] [Rep β] {x : α} {g : Gh α} (H : Cx w0 F S0 w Γ) (x' : β) (g' : Gh β) (i : Nat) (hi : entAt Γ i = Es α x g) (hp : ∀ S, rd w S x g → rd w S x' g') : Cx w0 F S0 w (Es β x' g' :: Γ) :=
  H.add fun S fp I => by
    obtain ⟨f, h1, _⟩ := I.all.ent i
    rw [hi] at h1
    exact ⟨rfl, hp _ h1.2⟩
/-- two parts of a struct -/
theorem Cx.join {α β : Type} [Rep α] [Rep β] {x : α} {g : Gh α} {y : β} {k : Gh β} (H : Cx w0 F S0 w (E α x g :: E β y k :: Γ)) : Cx w0 F S0 w (E (α × β) (x, y) (g, k) :: Γ) := by
  obtain ⟨S, fp, I⟩ := H
  obtain ⟨f1, r, rfl, h1, f2, r2, rfl, h2, h3⟩ := I.all
  have hn := I.nd
  rw [← List.append_assoc] at hn
  exact ⟨S, (f1 ++ f2) ++ r2, I.upd, I.s0, I.sb, ⟨f1 ++ f2, r2, rfl, ⟨f1, f2, rfl, h1, h2, (List.nodup_append.1 hn).1⟩, h3⟩, hn, fun b hb => I.out b (by rwa [List.append_assoc] at hb)⟩
/-- and apart again -/
theorem Cx.split {α β : Type} [Rep α] [Rep β] {x : α} {g : Gh α} {y : β} {k : Gh β} (H : Cx w0 F S0 w (E (α × β) (x, y) (g, k) :: Γ)) : Cx w0 F S0 w (E α x g :: E β y k :: Γ) := by
  obtain ⟨S, fp, I⟩ := H
  obtain ⟨f, r, rfl, ⟨f1, f2, rfl, h1, h2, _⟩, h3⟩ := I.all
  have hn := I.nd
  rw [List.append_assoc] at hn
  exact ⟨S, f1 ++ (f2 ++ r), I.upd, I.s0, I.sb, ⟨f1, f2 ++ r, rfl, h1, f2, r, rfl, h2, h3⟩, hn, fun b hb => I.out b (by rwa [List.append_assoc])⟩
/-- a[i] of an array value -/
theorem indexI {t n e st bt be : Nat} {zt ze : Value} {ke : TK} {cs : Array Value} {l : List Int} {i a : Int} {K : Value → World → Prop} (ok : EngOk P G) (ht : nthO G.tt t = some ⟨.array n e, st, bt, zt⟩) (he : nthO G.tt e = some ⟨ke, 1, be, ze⟩) (hk : isAggK ke = false) (hc : cs.toList = l.map (Value.int .i64)) (hn : Nat.beq l.length n = true) (hx : idxO l i = some a) (h : K (.int .i64 a) w) : ERun P (Instr.index t (.agg cs) (.int .i64 i)) w K := by
  obtain ⟨k, rfl, hm, hlt⟩ := idxO_some hx
  have hn := Nat.eq_of_beq_eq_true hn
  have hu := und_array (und_of ok ht)
  have h1 := isAgg_run (und_of ok he) w
  have h2 := sizeOf_run ok he w
  rw [hk] at h1
  have h3 : (0 : Int) ≤ (k : Int) ∧ (k : Int) < n := ⟨by omega, by omega⟩
  have h4 : cs[k]? = some (.int .i64 a) := by rw [← Array.getElem?_toList, hc, List.getElem?_map, hm]; rfl
  refine erun_of (v := .int .i64 a) (w' := w) ?_ h
  simp [Instr.index, asIntOf, run_underlying hu, h3, h2, part, h1, h4]
  intro h'; omega
end
end Go.Proofs.YtnlbhdepagkjgaaDoor.RW
