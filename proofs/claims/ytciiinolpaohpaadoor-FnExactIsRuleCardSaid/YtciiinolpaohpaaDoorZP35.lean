/-
  Plain law of ReachableOutputs: the reference's function and the program's answer alike. No program in sight. No condition.
-/
import Derived.Test.YtciiinolpaohpaaDoorZP34
import Derived.Test.YtciiinolpaohpaaDoorZLem3
namespace Go.Proofs.YtciiinolpaohpaaDoor

structure GOk (g : Gra) (n : Nat) : Prop where
  w : g.1 = (n : Int)
  n100 : n ≤ 100
  e60 : g.2.1.length ≤ 60
  i12 : g.2.2.1.length ≤ 12
  o12 : g.2.2.2.length ≤ 12
  i : inRg n g.2.2.1
  o : inRg n g.2.2.2
  e : edRg n g.2.1
  ar : g.2.1.all arB = true
  ti : totE g.2.1 edI ≤ 120
  to : totE g.2.1 edO ≤ 120
  cov : ∀ k : Nat, k < n → (k : Int) ∈ allW g
theorem gOk_facts {g : Gra} (h : gOk g = true) : ∃ n, GOk g n := by
  unfold gOk at h
  simp only [Bool.and_eq_true, decide_eq_true_eq] at h
  obtain ⟨h1, h2, h3, h4, h5, h6, h7, h8⟩ := h
  have hr := rng_true.1 h1
  obtain ⟨n, hn⟩ : ∃ n : Nat, g.1 = (n : Int) := ⟨g.1.toNat, by omega⟩
  rw [hn] at h5 h6 h7 h8
  have h9 := totE_le (edW_arB h7)
  refine ⟨n, hn, by omega, h2, h3, h4, inW_rng h5, inW_rng h6, edW_rng h7, edW_arB h7, by omega, by omega, fun k hk => ?_⟩
  rw [Int.toNat_natCast] at h8
  exact of_decide_eq_true (List.all_eq_true.1 h8 k (List.mem_range.2 hk))

end Go.Proofs.YtciiinolpaohpaaDoor
