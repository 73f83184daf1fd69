/-
  Bytes and strings: comparisons, indices, conversions, sums. Conditions: the engine's table holds ('EngOk').
-/
import Derived.Test.YtocpeclcoikdpaaDoorZOps11
namespace Go.Proofs.YtocpeclcoikdpaaDoor.RW
open Go
open Rep RepZ
instance : Rep By where
  Gh := Unit
  sz := 1
  agg := false
  cl x _ := [.int .u8 x]
  rd _ _ _ _ := True
  own _ _ fp _ _ := fp = []
  cl_len _ _ := rfl
  cl_one _ _ u hu := by simp at hu; subst hu; rfl
  rd_mono _ h := h
  rd_keep _ h := h
  own_rd _ := trivial
  own_mono _ h := h
  own_keep _ _ h := h
  own_lt h b hb := by rw [h] at hb; cases hb
  own_nd h := by rw [h]; exact List.nodup_nil
  cl_inj _ _ _ _ := rfl
instance : RepZ By := ⟨(0 : Int), (), fun _ _ => rfl⟩
instance : Closed By := ⟨fun h => h⟩
instance : Sc By := ⟨fun x => .int .u8 x, rfl, fun _ _ => rfl, fun _ => rfl, fun _ _ _ _ => trivial, fun _ _ _ _ _ => Iff.rfl, ()⟩
section
variable {P : Program} {G : Eng} {w0 w : World} {F : List Nat} {S0 : Nat → Prop} {Γ : List Ent} {t : Nat} {x y : Operand} {k : IntKind} {a b : Int} {r : Bool} {K : Value → World → Prop}
/-- xs[lo:hi] of one's own, in a region that draws its order: the rest is let go -/
theorem slOX {α : Type} [Rep α] (ok : EngOk P G) {S' : World → Prop} {t e st bt be : Nat} {zt ze : Value} {ke : TK} (ht : nthO G.tt t = some ⟨.slice e, st, bt, zt⟩) (he : nthO G.tt e = some ⟨ke, sz α, be, ze⟩) {xs zs : List α} {h : Hd} {lo hi : Option Value} {l m : Int}
    (H : Cx w0 F S0 w (E (List α) xs h :: Γ)) (hz : sliceO xs l m = some zs) (hlo : optI 0 lo = some l) (hhi : optI h.n hi = some m) {K : Value → Prop} (hK : ∀ h' : Hd, Cx w0 F S0 w (E (List α) zs h' :: Γ) → K h'.v) : EHAny P S' (Instr.sliceAt t h.v lo hi none) K := by
  obtain ⟨l', m', rfl, rfl, hlm, hmn, rfl⟩ := sliceO_some hz
  have hc := (H.ro 0 rfl).cap
  exact anyH (v := (h.sub l' m' h.c (sz α)).v) (fun w' => erun_of (sl_run ok ht he l' m' hlo hhi hlm (by omega)) ⟨rfl, rfl⟩) (hK (h.sub l' m' h.c (sz α)) (H.subO hlm hmn ⟨by omega, Nat.le_refl _⟩))
end
end Go.Proofs.YtocpeclcoikdpaaDoor.RW
