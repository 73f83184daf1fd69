/-
  Plain law of MarkovParameters: the law's partial function yields true. No program in sight. No condition.
-/
import Derived.Test.YtnlbhdepagkjgaaDoorYP7
namespace Go.Proofs.YtnlbhdepagkjgaaDoor

theorem bndO {m : Option Bool} {b c : Bool} {k : Bool → Option Bool} (h : m = some b) (h0 : b = false → k false = some true) (h1 : b = true → k true = some (!c)) : m.bind k = some (!(b && c)) := bndN h h0 h1
def mkvL (p : Int) (s : SSt) (q : Int) : List Mat × Bool := if ssB p s && rng q 0 60 then ((mkv p s.1.toNat s.2.2.1.toNat s q.toNat).1, true) else ([], false)
theorem specMarkov (p : Int) (s : SSt) (q : Int) : F_spec_MarkovParameters p s q = some (mkvL p s q) := by
  refine bnd (a := !(ssB p s && rng q 0 60)) (bndN (ssGood p s) (fun _ => rfl) (fun _ => stp (cFW rfl (bnd (l1In _ _ _) rfl)))) ?_
  unfold mkvL
  cases h : (ssB p s && rng q 0 60) with
  | false => rfl
  | true =>
    rw [Bool.and_eq_true] at h
    obtain ⟨n, k, o, hs⟩ := ssB_ok h.1
    have hq := rng_true.1 h.2
    rw [show s.1.toNat = n by have := hs.h1; omega, show s.2.2.1.toNat = o by have := hs.h3; omega]
    have := ssMarkov_ hs q.toNat (by omega)
    rw [show ((q.toNat : Nat) : Int) = q by omega] at this
    exact cFW rfl (bnd this rfl)
theorem implMarkov (p : Int) (s : SSt) (q : Int) : F_impl_MarkovParameters p s q = some (mkvL p s q) := by
  refine bnd (a := !(ssB p s && rng q 0 60)) (bndN (isSS p s) (fun _ => rfl) (fun _ => stp (cFW rfl (bnd (within_ _ _ _) rfl)))) ?_
  unfold mkvL
  cases h : (ssB p s && rng q 0 60) with
  | false => rfl
  | true =>
    rw [Bool.and_eq_true] at h
    obtain ⟨n, k, o, hs⟩ := ssB_ok h.1
    have hq := rng_true.1 h.2
    rw [show s.1.toNat = n by have := hs.h1; omega, show s.2.2.1.toNat = o by have := hs.h3; omega]
    have := markov_ hs q.toNat (by omega)
    rw [show ((q.toNat : Nat) : Int) = q by omega] at this
    exact cFW rfl (bnd this rfl)
theorem tot_le {α : Type} {n : α → Nat} {c : Nat} {l : List α} (h : ∀ a ∈ l, n a ≤ c) : tot n l ≤ l.length * c := by
  induction l with
  | nil => simp [tot]
  | cons a l ih =>
    rw [tot_cons, List.length_cons, Nat.succ_mul]
    have := ih (fun x hx => h x (List.mem_cons_of_mem _ hx))
    have := h a (List.mem_cons_self ..)
    omega
/-- the results are small -/
structure MSok (l : List Mat) : Prop where
  len : l.length ≤ 60
  row : ∀ m ∈ l, m.2.length ≤ 8 ∧ ∀ r ∈ m.2, r.length ≤ 8
theorem MSok.tots {l : List Mat} (h : MSok l) : tot matN l ≤ 4000 := by
  have := tot_le (n := matN) (c := 65) (l := l) (fun m hm => by
    have h1 := h.row m hm
    have := tot_le (n := rowN) (c := 8) (l := m.2) (fun r hr => h1.2 r hr)
    have h2 : m.2.length * 8 ≤ 8 * 8 := Nat.mul_le_mul_right _ h1.1
    unfold matN; omega)
  have h2 : l.length * 65 ≤ 60 * 65 := Nat.mul_le_mul_right _ h.len
  omega
theorem mkvL_ok (p : Int) (s : SSt) (q : Int) : MSok (mkvL p s q).1 := by
  unfold mkvL
  cases h : (ssB p s && rng q 0 60) with
  | false => exact ⟨by simp, by intro m hm; simp at hm⟩
  | true =>
    rw [Bool.and_eq_true] at h
    obtain ⟨n, k, o, hs⟩ := ssB_ok h.1
    have hq := rng_true.1 h.2
    rw [if_pos rfl, show s.1.toNat = n by have := hs.h1; omega, show s.2.2.1.toNat = o by have := hs.h3; omega]
    obtain ⟨h1, _, _, h4⟩ := mkv_ok hs q.toNat
    have := hs.hk; have := hs.ho
    exact ⟨by rw [h1]; omega, fun m hm => ⟨by rw [(h4 m hm).1]; omega, fun r hr => by rw [((h4 m hm).2 r hr).1]; omega⟩⟩
theorem MSok.eq {l : List Mat} (h : MSok l) : F_laws_eqMatrixS l l = some true := by
  refine eqMatrixS_same l (by unfold lenOk; have := h.len; omega) (fun m hm => ⟨?_, fun r hr => ?_⟩)
  · unfold lenOk; have := (h.row m hm).1; omega
  · unfold lenOk; have := (h.row m hm).2 r hr; omega
theorem MSok.big {l : List Mat} (h : MSok l) : ∀ m ∈ l, (m.2.length : Int) ≤ bigN := by
  intro m hm; have := (h.row m hm).1; unfold bigN; omega
theorem MSok.mark {l : List Mat} (h : MSok l) : F_laws_markMatrixS l 1 = some (mkMS l 1) :=
  markMatrixS l 1 (by decide) (by have := h.len; unfold bigN; omega) h.big (by have := h.tots; unfold bigN; omega)
theorem MSok.held {l : List Mat} (h : MSok l) : F_laws_heldMatrixS (mkMS l 1).1 1 = some (1 + (tot matN l : Int)) :=
  heldMatrixS l 1 (by decide) (by have := h.len; unfold bigN; omega) h.big (by have := h.tots; unfold bigN; omega)

theorem lawMarkovParameters (p : Int) (s : SSt) (q : Int) (hl : ssLens s) : F_laws_FnExactMarkovParameters p s q = some true := by
  refine bnd (szSS s 1048576 (by decide) (by decide) hl) (stp ?_)
  by_cases h : (ssN s : Int) ≤ 1048576
  · rw [if_pos h]
    have hn : ssN s ≤ 1048576 := by omega
    have hok := mkvL_ok p s q
    have e1 : (!decide ((mkvL p s q).2 = (mkvL p s q).2)) = false := nT (dT rfl)
    refine cFW (dF (by omega)) ?_
    refine bnd (toSS s hn) (bnd (specMarkov p s q) ?_)
    refine bnd (toSS s hn) (bnd (implMarkov p s q) ?_)
    refine bnd (a := false) (bnd hok.eq (stp (cFW rfl (stp (by rw [e1]))))) (cFW rfl ?_)
    refine bnd (toSS s hn) (bnd (eqSS s hn) (stp (cFW rfl ?_)))
    obtain ⟨s', k', hm, hk⟩ := markSS s 1 hn (by decide) (by decide)
    refine bnd hm ?_
    refine bnd (a := false) (stp (cFW (dF (by dsimp only; omega)) (bnd hok.eq (stp (cFW rfl (stp (by rw [e1]))))))) (cFW rfl ?_)
    refine bnd hok.mark (bnd hok.held (stp (cFW (dF (by omega)) (stp (cFW (nT (dT (mkMS_snd _ _).symm)) ?_)))))
    refine bnd (toSS s hn) (bnd (implMarkov p s q) ?_)
    refine bnd (a := false) (bnd hok.eq (stp (cFW rfl (stp (by rw [e1]))))) (cFW rfl ?_)
    exact bnd hok.held (stp (cFW (dF (by omega)) (stp (cFW (nT (dT (mkMS_snd _ _).symm)) rfl))))
  · rw [if_neg h]
    exact cTW (dT (by omega)) rfl
theorem lawN_MarkovParameters (p : Int) (s : SSt) (q : Int) (_ : Nice.ok p) (n1 : Nice.ok s) (_ : Nice.ok q) : F_laws_FnExactMarkovParameters p s q = some true :=
  lawMarkovParameters p s q ⟨niceLens n1.2.2.2.1, niceLens n1.2.2.2.2.1, niceLens n1.2.2.2.2.2.1, niceLens n1.2.2.2.2.2.2⟩
end Go.Proofs.YtnlbhdepagkjgaaDoor
