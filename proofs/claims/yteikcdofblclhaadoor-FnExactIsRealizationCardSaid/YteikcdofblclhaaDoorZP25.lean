/-
  Plain laws: the states that are reached; realizations of a response. No program in sight. No condition.
-/
import Derived.Test.YteikcdofblclhaaDoorZP20
import Derived.Test.YteikcdofblclhaaDoorZP14
import Derived.Test.YteikcdofblclhaaDoorZP9
import Derived.Test.YteikcdofblclhaaDoorZLem1
namespace Go.Proofs.YteikcdofblclhaaDoor
set_option linter.unusedVariables false

/-! ### rows after rows -/

/-! ### the states that are reached -/
section
variable {p : Int} {n : Nat} {A B : Rows}
end

/-! ### realizations -/
def realB (p : Int) (s : SSt) (l : List Mat) : Bool := ssB p s && (respB p l && (decide (((gm l 0).2.length : Int) = s.2.1) && decide ((gm l 0).1 = s.2.2.1)))
def wIsRealization (p : Int) (s : SSt) (l : List Mat) : Bool × Bool :=
  if realB p s l then (decide ((mkv p s.1.toNat s.2.2.1.toNat s l.length).1 = l), true) else (false, false)
theorem realB_ok {p : Int} {s : SSt} {l : List Mat} (h : realB p s l = true) : ∃ n k o, SSok p n k o s ∧ 0 < l.length ∧ l.length ≤ 60 ∧ ∀ x ∈ l, x.1 = (o : Int) := by
  unfold realB at h
  simp only [Bool.and_eq_true, decide_eq_true_eq] at h
  obtain ⟨h1, h2, h3, h4⟩ := h
  obtain ⟨n, k, o, sa⟩ := ssB_ok h1
  obtain ⟨R, C, hr⟩ := respB_ok h2
  refine ⟨n, k, o, sa, hr.len.1, hr.len.2, fun x hx => ?_⟩
  have e := (hr.mat _ (mem_of_get (gm_get hr.len.1))).1
  have := (hr.mat x hx).1
  have := sa.h3
  omega
theorem specIsRealization (p : Int) (s : SSt) (l : List Mat) : F_spec_IsRealization p s l = some (wIsRealization p s l) := by
  refine bnd (a := !realB p s l) ?_ ?_
  · unfold realB
    refine bndN (ssGood p s) (fun _ => rfl) (fun _ => stp (cFW rfl ?_))
    refine bndN (rzResponse_ p l) (fun _ => rfl) (fun hr => stp (cFW rfl ?_))
    obtain ⟨R, C, hr'⟩ := respB_ok hr
    refine bnd (idx_gm hr'.len.1) (stp ?_)
    cases decide (((gm l 0).2.length : Int) = s.2.1) with
    | false => rfl
    | true => exact cFW rfl (bnd (idx_gm hr'.len.1) (stp rfl))
  · unfold wIsRealization
    cases h : realB p s l with
    | false => rfl
    | true =>
      obtain ⟨n, k, o, sa, hl0, hl1, hc⟩ := realB_ok h
      have e1 := sa.h1; have e3 := sa.h3
      rw [if_pos rfl, show s.1.toNat = n by omega, show s.2.2.1.toNat = o by omega]
      refine cFW rfl (bnd (a := decide ((mkv p n o s l.length).1 = l)) ?_ rfl)
      refine bnd (ssMarkov_ sa l.length (by omega)) ?_
      refine sqW (forO_eq9 _ l 0 (mkv_ok sa l.length).1 ?_) ?_
      · intro j x y hx hy
        rw [Nat.zero_add]
        refine bnd (idxO_of hx) (bnd (idxO_of hy) (bnd (spSame x.2 y.2) ?_))
        have f1 := mkv_fst p n o s l.length x (mem_of_get hx)
        have f2 := hc y (mem_of_get hy)
        have hxy : (x.2 = y.2) ↔ x = y := ⟨fun h => Prod.ext (by omega) h, fun h => by rw [h]⟩
        rw [show decide (x.2 = y.2) = decide (x = y) from decide_eq_decide.2 hxy]
        exact stepE
      · by_cases h : (mkv p n o s l.length).1 = l
        · rw [if_pos h, dT h]; rfl
        · rw [if_neg h, dF h]; rfl
theorem implIsRealization (p : Int) (s : SSt) (l : List Mat) : F_impl_IsRealization p s l = some (wIsRealization p s l) := by
  refine bnd (a := !realB p s l) ?_ ?_
  · unfold realB
    refine bndN (isSS p s) (fun _ => rfl) (fun _ => stp (cFW rfl ?_))
    refine bndN (isResponse_ p l) (fun _ => rfl) (fun hr => stp (cFW rfl ?_))
    obtain ⟨R, C, hr'⟩ := respB_ok hr
    refine bnd (idx_gm hr'.len.1) (stp ?_)
    cases decide (((gm l 0).2.length : Int) = s.2.1) with
    | false => rfl
    | true => exact cFW rfl (bnd (idx_gm hr'.len.1) (stp rfl))
  · unfold wIsRealization
    cases h : realB p s l with
    | false => rfl
    | true =>
      obtain ⟨n, k, o, sa, hl0, hl1, hc⟩ := realB_ok h
      have e1 := sa.h1; have e3 := sa.h3
      rw [if_pos rfl, show s.1.toNat = n by omega, show s.2.2.1.toNat = o by omega]
      exact cFW rfl (bnd (markov_ sa l.length (by omega)) (bnd (equalMats _ _) rfl))
end Go.Proofs.YteikcdofblclhaaDoor
