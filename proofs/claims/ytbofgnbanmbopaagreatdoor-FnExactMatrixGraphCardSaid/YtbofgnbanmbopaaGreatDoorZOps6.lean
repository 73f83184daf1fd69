/-
  Two elements of a list of one's own exchanged, by two stores ('EZ': the first is done); another element of a list that has a hole is read. No condition.
-/
import Derived.Test.YtbofgnbanmbopaaGreatDoorZOps5
namespace Go.Proofs.YtbofgnbanmbopaaGreatDoor

namespace RW
open Go
open Go.RowKit (Below)
open Rep RepZ

section
variable {P : Program} {G : Eng} {w0 w : World} {F : List Nat} {S0 : Nat → Prop} {Γ : List Ent}

/-- another element of a list that has a hole -/
theorem Vw.ex {α : Type} [Rep α] {xs : List α} {h : Hd} {m : Nat} {cs : List Value} {k : Kn α} (i : Nat) (hi : entAt Γ i = EX α m cs xs h) (hk : KnOk w xs h k) (hm : k.m ≠ m) : Vw w Γ (Es α k.x k.g) := by
  intro S fp hA
  obtain ⟨f, h1, h2⟩ := hA.ent i
  rw [hi] at h1
  obtain ⟨b, o, cells, e, fps, ha, hg, hn, hnc, hcm, hsz, hl, hml, hc, rfl, hnd, hqs⟩ := h1
  obtain ⟨hx, b', o', ha', hcl⟩ := hk
  rw [ha] at ha'
  simp only [Option.some.injEq, Addr.mk.injEq, and_true] at ha'
  obtain ⟨rfl, rfl⟩ := ha'
  obtain ⟨hkl, he⟩ := List.getElem?_eq_some_iff.1 hx
  have hkf : k.m < fps.length := by omega
  obtain ⟨g, k1, k2⟩ := hqs k.m hkl hkf hm
  rw [he] at k1 k2
  have hgg : g = k.g := by
    refine cl_inj k.x _ _ (List.ext_getElem? fun j => ?_)
    by_cases hj : j < sz α
    · have l1 : j < (cl k.x g).length := by rw [cl_len]; exact hj
      have l2 : j < (cl k.x k.g).length := by rw [cl_len]; exact hj
      have e1 := chk_cell (s := sz α) (o := o) (i := k.m) (j := j) hg (u := (cl k.x g)[j]) (by rw [k1]; exact List.getElem?_eq_getElem l1)
      have e2 := hcl j _ (List.getElem?_eq_getElem l2)
      rw [e1] at e2
      rw [List.getElem?_eq_getElem l1, List.getElem?_eq_getElem l2]; exact e2
    · rw [List.getElem?_eq_none (by rw [cl_len]; omega), List.getElem?_eq_none (by rw [cl_len]; omega)]
  subst hgg
  refine ⟨rfl, rd_mono (fun y hy => ?_) (own_rd k2)⟩
  rcases hy with hy | hy
  · exact .inl hy
  · refine .inr (h2 y (List.mem_cons_of_mem _ (List.mem_flatten.2 ⟨fps[k.m], ?_, hy⟩)))
    have : (fps.set m [])[k.m]'(by simpa using hkf) = fps[k.m] := List.getElem_set_ne (Ne.symm hm) _
    rw [← this]; exact List.getElem_mem _

end
end RW
end Go.Proofs.YtbofgnbanmbopaaGreatDoor
