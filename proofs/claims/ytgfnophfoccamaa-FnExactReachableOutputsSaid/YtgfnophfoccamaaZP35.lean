/-
  Plain law of ReachableOutputs: the reference's function and the program's answer alike. No program in sight. No condition.
-/
import Derived.Test.YtgfnophfoccamaaZP34
import Derived.Test.YtgfnophfoccamaaZLem3
namespace Go.Proofs.Ytgfnophfoccamaa

theorem forS_congr {σ : Type} {f g : Nat → σ → Option σ} : ∀ (n k : Nat) (s : σ), (∀ j s, k ≤ j → j < k + n → f j s = g j s) → forS f n k s = forS g n k s
  | 0, _, _, _ => rfl
  | n + 1, k, s, h => by
    show (f k s).bind _ = (g k s).bind _
    rw [h k s (Nat.le_refl _) (by omega)]
    cases g k s with
    | none => rfl
    | some s' => exact forS_congr n (k + 1) s' (fun j s hj hl => h j s (by omega) (by omega))
theorem forS_eq {σ : Type} {f g : Nat → σ → Option σ} {n : Nat} {s : σ} (h : ∀ j s, j < n → f j s = g j s) : forS f n 0 s = forS g n 0 s := forS_congr n 0 s (fun j s _ hl => h j s (by omega))

structure GOk (g : Gra) (n : Nat) : Prop where
  w : g.1 = (n : Int)
  n100 : n ≤ 100
  e60 : g.2.1.length ≤ 60
  i12 : g.2.2.1.length ≤ 12
  o12 : g.2.2.2.length ≤ 12
  i : inRg n g.2.2.1
  o : inRg n g.2.2.2
  e : edRg n g.2.1
  ar : g.2.1.all arB = true
  ti : totE g.2.1 edI ≤ 120
  to : totE g.2.1 edO ≤ 120
  cov : ∀ k : Nat, k < n → (k : Int) ∈ allW g
theorem gOk_facts {g : Gra} (h : gOk g = true) : ∃ n, GOk g n := by
  unfold gOk at h
  simp only [Bool.and_eq_true, decide_eq_true_eq] at h
  obtain ⟨h1, h2, h3, h4, h5, h6, h7, h8⟩ := h
  have hr := rng_true.1 h1
  obtain ⟨n, hn⟩ : ∃ n : Nat, g.1 = (n : Int) := ⟨g.1.toNat, by omega⟩
  rw [hn] at h5 h6 h7 h8
  have h9 := totE_le (edW_arB h7)
  refine ⟨n, hn, by omega, h2, h3, h4, inW_rng h5, inW_rng h6, edW_rng h7, edW_arB h7, by omega, by omega, fun k hk => ?_⟩
  rw [Int.toNat_natCast] at h8
  exact of_decide_eq_true (List.all_eq_true.1 h8 k (List.mem_range.2 hk))

/-- the two searches find the same -/
theorem reach_same {n : Nat} {E : List Edg} {I O : List Int} {x : Int} (hn : n ≤ 100) (hE : edRg n E) (hT : totE E edO ≤ 120) (hx : 0 ≤ x ∧ x < (n : Int)) :
    ∃ s, F_spec_rbReach ((n : Int), E, I, O) x = some s ∧ F_impl_Graph_reachable ((n : Int), E, I, O) [x] = some s ∧ s.length = n := by
  obtain ⟨s, h1, h2, h3⟩ := rbReach_ (I := I) (O := O) (by omega) hE hx
  obtain ⟨t, k1, k2, k3⟩ := reachable_ (I := I) (O := O) (ws := [x]) (by omega) hE (by omega) (fun y hy => by simp at hy; subst hy; exact hx) (by simp)
  have : t = s := M_uniq (by rw [h2, k2]) fun y => by
    rw [h3, k3]
    constructor
    · exact Rch.mono (fun z hz => .base (by simpa using hz))
    · exact Rch.mono (fun z hz => .base (by simpa using hz))
  rw [this] at k1
  exact ⟨s, h1, k1, h2⟩
/-- the outputs that are marked -/
theorem outs_loop {n : Nat} {O : List Int} {s : List Bool} (hO : inRg n O) (hs : s.length = n) (hl : O.length ≤ 12) : ∃ l, forS (fun (k288 : Nat) (s347 : List Int) =>
            (idxO O ((k288 : Nat) : Int)).bind fun a364 =>
            (idxO s a364).bind fun a372 =>
            cond a372
            ((appO s347 [((k288 : Nat) : Int)]).bind fun a379 =>
              some a379)
            (some s347)) O.length 0 [] = some l ∧ l.length ≤ 12 := by
  have hm : maxN = 1099511627776 := rfl
  obtain ⟨l, h1, h2⟩ := forS_rel (n := O.length) (s := ([] : List Int)) (f := fun (k288 : Nat) (s347 : List Int) =>
            (idxO O ((k288 : Nat) : Int)).bind fun a364 =>
            (idxO s a364).bind fun a372 =>
            cond a372
            ((appO s347 [((k288 : Nat) : Int)]).bind fun a379 =>
              some a379)
            (some s347)) (fun j l => l.length ≤ j) (by simp) (fun j l hj hlj => by
    have ho := hO _ (List.getElem_mem hj)
    have h1 := M_idx (s := s) ho.1 (by rw [hs]; exact ho.2)
    cases hM : decide (M s O[j]) with
    | true =>
      rw [hM] at h1
      exact ⟨_, bnd (idxO_of (List.getElem?_eq_getElem hj)) (bnd h1 (cTW rfl (bnd (appO_of (by simp; omega)) rfl))), by simp; omega⟩
    | false =>
      rw [hM] at h1
      exact ⟨l, bnd (idxO_of (List.getElem?_eq_getElem hj)) (bnd h1 rfl), by omega⟩)
  exact ⟨l, h1, by omega⟩
theorem bothReachableOutputs (g : Gra) : ∃ w, F_spec_ReachableOutputs g = some w ∧ F_impl_ReachableOutputs g = some w ∧ nIntSS w.1 ≤ 1048576 := by
  have hm : maxN = 1099511627776 := rfl
  cases hg : gOk g with
  | false =>
    refine ⟨([], false), bnd (hgValid_ g) (stp ?_), bnd (isGraph_ g) (stp ?_), by unfold nIntSS rowsN tot; simp⟩
    · rw [hg]; rfl
    · rw [hg]; rfl
  | true =>
    obtain ⟨n, h⟩ := gOk_facts hg
    obtain ⟨w, E, I, O⟩ := g
    obtain rfl : w = (n : Int) := h.w
    obtain ⟨r, h1, h2⟩ := forS_rel (n := I.length) (s := ([] : List (List Int))) (f := fun (k13 : Nat) (s264 : List (List Int)) =>
        (idxO I ((k13 : Nat) : Int)).bind fun a281 =>
        (F_spec_rbReach ((n : Int), E, I, O) a281).bind fun y283 =>
        (forS (fun (k288 : Nat) (s347 : List Int) =>
            (idxO O ((k288 : Nat) : Int)).bind fun a364 =>
            (idxO y283 a364).bind fun a372 =>
            cond a372
            ((appO s347 [((k288 : Nat) : Int)]).bind fun a379 =>
              some a379)
            (some s347)) O.length 0 []).bind fun (s386 : List Int) =>
        (appO s264 [s386]).bind fun a392 =>
        some a392) (fun j r => r.length = j ∧ ∀ x ∈ r, List.length (α := Int) x ≤ 12) ⟨rfl, fun x hx => by cases hx⟩ (fun j r hj ⟨r1, r2⟩ => by
      have hi := h.i _ (List.getElem_mem hj)
      have hi12 : I.length ≤ 12 := h.i12
      obtain ⟨s, k1, _, k3⟩ := reach_same (I := I) (O := O) h.n100 h.e h.to hi
      obtain ⟨l, k4, k5⟩ := outs_loop (s := s) h.o k3 h.o12
      refine ⟨r ++ [l], bnd (idxO_of (List.getElem?_eq_getElem hj)) (bnd k1 (bnd k4 (bnd (appO_of (by simp; omega)) rfl))), by simp [r1], fun x hx => ?_⟩
      rcases List.mem_append.1 hx with hx | hx
      · exact r2 x hx
      · rw [List.mem_singleton.1 hx]; exact k5)
    refine ⟨(r, true), bnd (hgValid_ _) (stp ?_), bnd (isGraph_ _) (stp ?_), ?_⟩
    · rw [hg]; exact bnd h1 rfl
    · rw [hg]
      refine bnd ((forS_eq fun j s hj => ?_).trans h1) rfl
      have hi := h.i _ (List.getElem_mem hj)
      obtain ⟨t, k1, k2, _⟩ := reach_same (I := I) (O := O) h.n100 h.e h.to hi
      dsimp only
      rw [idxO_of (List.getElem?_eq_getElem hj)]
      show (F_impl_Graph_reachable ((n : Int), E, I, O) [I[j]]).bind _ = (F_spec_rbReach ((n : Int), E, I, O) I[j]).bind _
      rw [k1, k2]
    · have hi12 : I.length ≤ 12 := h.i12
      have : tot rowN r ≤ 12 * r.length := by
        have h2 := h2.2
        clear h1
        revert h2
        generalize r = r
        intro h2
        induction r with
        | nil => exact Nat.le_refl _
        | cons x r ih =>
          rw [tot_cons, List.length_cons]
          have := ih (fun y hy => h2 y (List.mem_cons_of_mem _ hy))
          have h3 : rowN x ≤ 12 := h2 x (List.mem_cons_self ..)
          omega
      have h3 := h2.1
      show r.length + tot rowN r ≤ 1048576
      omega
noncomputable def wReachableOutputs (g : Gra) : List (List Int) × Bool := (F_spec_ReachableOutputs g).getD ([], false)
theorem specReachableOutputs (g : Gra) : F_spec_ReachableOutputs g = some (wReachableOutputs g) := by
  obtain ⟨w, h, _⟩ := bothReachableOutputs g
  unfold wReachableOutputs; rw [h]; rfl
theorem implReachableOutputs (g : Gra) : F_impl_ReachableOutputs g = some (wReachableOutputs g) := by
  obtain ⟨w, h, k, _⟩ := bothReachableOutputs g
  unfold wReachableOutputs; rw [h, k]; rfl
theorem boundReachableOutputs_0 (g : Gra) : nIntSS (wReachableOutputs g).1 ≤ 1048576 := by
  obtain ⟨w, h, _, k⟩ := bothReachableOutputs g
  unfold wReachableOutputs; rw [h]; exact k
end Go.Proofs.Ytgfnophfoccamaa
