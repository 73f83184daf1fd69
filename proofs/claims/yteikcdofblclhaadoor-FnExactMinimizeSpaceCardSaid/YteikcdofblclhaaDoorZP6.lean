/-
  Plain laws: sums of rows, products of rows and matrices. No program in sight. No condition.
-/
import Derived.Test.YteikcdofblclhaaDoorZP5
namespace Go.Proofs.YteikcdofblclhaaDoor

/-- a loop that changes each element of a list by the element of another list at the same place -/
theorem set_loop {α β : Type} (Pa : α → Prop) (Pb : β → Prop) (g : β → α → α) {f : Nat → List α → Option (List α)} (W : List β)
    (hf : ∀ (j : Nat) (b : β) (a : α) (s : List α), W[j]? = some b → s[j]? = some a → Pa a → Pb b → j < s.length → f j s = some (s.set j (g b a))) :
    ∀ (rest preW : List β) (pre rest' : List α), W = preW ++ rest → pre.length = preW.length → rest'.length = rest.length → (∀ b ∈ rest, Pb b) → (∀ a ∈ rest', Pa a) → forS f rest.length preW.length (pre ++ rest') = some (pre ++ List.zipWith g rest rest')
  | [], preW, pre, [], _, _, _, _, _ => by simp [forS]
  | [], _, _, _ :: _, _, _, h, _, _ => by simp at h
  | _ :: _, _, _, [], _, _, h, _, _ => by simp at h
  | b :: rest, preW, pre, a :: rest', hW, hp, hr, hb, ha => by
    have h1 := hf pre.length b a (pre ++ a :: rest') (by rw [hW, hp]; exact get_app _ _ _) (get_app _ _ _) (ha a (List.mem_cons_self ..)) (hb b (List.mem_cons_self ..)) (by simp)
    have ih := set_loop Pa Pb g W hf rest (preW ++ [b]) (pre ++ [g b a]) rest' (by rw [hW, app1]) (by simp [hp]) (by simpa using hr) (fun x hx => hb x (List.mem_cons_of_mem _ hx)) (fun x hx => ha x (List.mem_cons_of_mem _ hx))
    rw [set_app, app1 pre rest' (g b a)] at h1
    rw [hp] at h1
    show (f preW.length (pre ++ a :: rest')).bind _ = _
    rw [h1]
    show forS f rest.length (preW.length + 1) _ = _
    rw [show preW.length + 1 = (preW ++ [b]).length by simp, ih]
    simp

def fold2 {α β σ : Type} (g : σ → α → β → σ) : List α → List β → σ → σ
  | a :: l, b :: m, s => fold2 g l m (g s a b)
  | _, _, s => s
/-- a loop over two lists -/
theorem two_loop {α β σ : Type} (g : σ → α → β → σ) (I : σ → Prop) {f : Nat → σ → Option σ} (A : List α) (B : List β)
    (hf : ∀ (j : Nat) (a : α) (b : β) (s : σ), A[j]? = some a → B[j]? = some b → I s → f j s = some (g s a b) ∧ I (g s a b)) :
    ∀ (rest preA : List α) (rest' preB : List β) (s : σ), A = preA ++ rest → B = preB ++ rest' → preA.length = preB.length → rest.length ≤ rest'.length → I s → forS f rest.length preA.length s = some (fold2 g rest rest' s) ∧ I (fold2 g rest rest' s)
  | [], _, m, _, s, _, _, _, _, hI => by
    have : fold2 g [] m s = s := by cases m <;> rfl
    rw [this]; exact ⟨rfl, hI⟩
  | _ :: _, _, [], _, _, _, _, _, h, _ => by simp at h
  | a :: rest, preA, b :: rest', preB, s, hA, hB, hp, hr, hI => by
    obtain ⟨h1, h2⟩ := hf preA.length a b s (by rw [hA]; exact get_app _ _ _) (by rw [hB, hp]; exact get_app _ _ _) hI
    obtain ⟨h3, h4⟩ := two_loop g I A B hf rest (preA ++ [a]) rest' (preB ++ [b]) (g s a b) (by rw [hA, app1]) (by rw [hB, app1]) (by simp [hp]) (by simpa using hr) h2
    refine ⟨?_, h4⟩
    show (f preA.length s).bind _ = _
    rw [h1]
    show forS f rest.length (preA.length + 1) _ = _
    rw [show preA.length + 1 = (preA ++ [a]).length by simp, h3]
    rfl

theorem mul_lt {p c y : Int} (hp : 2 ≤ p ∧ p ≤ 97) (hc : 0 ≤ c ∧ c < p) (hy : 0 ≤ y ∧ y < p) : 0 ≤ c * y ∧ c * y ≤ 9409 := by
  refine ⟨Int.mul_nonneg hc.1 hy.1, ?_⟩
  calc c * y ≤ 97 * 97 := Int.mul_le_mul (by omega) (by omega) hy.1 (by omega)
    _ = 9409 := by decide
theorem emod_in {p x : Int} (hp : 2 ≤ p) : 0 ≤ x % p ∧ x % p < p := ⟨Int.emod_nonneg _ (by omega), Int.emod_lt_of_pos _ (by omega)⟩
/-- adds c times a row -/
def addR (p c : Int) (acc row : List Int) : List Int := List.zipWith (fun y x => (x + c * y) % p) row acc
theorem zip_in {p : Int} (hp : 2 ≤ p) (c : Int) : ∀ (row acc : List Int), inP p (addR p c acc row)
  | [], _ => by intro x hx; simp [addR] at hx
  | _ :: _, [] => by intro x hx; simp [addR] at hx
  | y :: row, x :: acc => by
    intro z hz
    have : z ∈ (x + c * y) % p :: addR p c acc row := hz
    cases this with
    | head => exact emod_in hp
    | tail _ h => exact zip_in hp c row acc z h
theorem addR_len {p c : Int} {acc row : List Int} (h : row.length = acc.length) : (addR p c acc row).length = acc.length := by simp [addR, h]
/-- the sum of rows with coefficients -/
def combR (p : Int) (n : Nat) (rows : List (List Int)) (cs : List Int) : List Int := fold2 (fun acc row c => addR p c acc row) rows cs (List.replicate n 0)
def okR (p : Int) (n : Nat) (l : List Int) : Prop := l.length = n ∧ inP p l
theorem okR_zero {p : Int} (hp : 2 ≤ p) (n : Nat) : okR p n (List.replicate n 0) := ⟨by simp, by intro x hx; have := List.eq_of_mem_replicate hx; omega⟩

theorem mod_ {p a : Int} (hp : 2 ≤ p) (ha : 0 ≤ a) : F_impl_mod p a = some (a % p) := by
  refine bnd (remO_of (by omega)) (stp ?_)
  rw [Int.tmod_eq_emod_of_nonneg ha]
  exact cFW (dF (by have := emod_in (x := a) hp; omega)) rfl
theorem addTimes_ {p c : Int} {n : Nat} {acc row : List Int} (hp : 2 ≤ p ∧ p ≤ 97) (hc : 0 ≤ c ∧ c < p) (ha : okR p n acc) (hr : okR p n row) : F_impl_addTimes p acc c row = some (addR p c acc row) := by
  refine bnd (set_loop (fun x => 0 ≤ x ∧ x < p) (fun x => 0 ≤ x ∧ x < p) (fun y x => (x + c * y) % p) row ?_ row [] [] acc rfl rfl (by rw [ha.1, hr.1]) hr.2 ha.2) rfl
  intro j y x s hy hx hxp hyp hj
  have := mul_lt hp hc hyp
  refine bnd (idxO_of hy) (bnd (idxO_of hx) (bnd (mulO_of (by omega) (by omega)) (bnd (addO_of (by omega) (by omega)) (bnd (mod_ (by omega) (by omega)) ?_))))
  exact bnd (setO_of _ hj) rfl
theorem zeros_ {n : Nat} (h : n ≤ maxN) : F_impl_zeros (n : Int) = some (List.replicate n 0) := bnd (makeO_of _ h) rfl
theorem combine_ {p : Int} {n : Nat} {rows : List (List Int)} {cs : List Int} (hp : 2 ≤ p ∧ p ≤ 97) (hn : n ≤ maxN) (hr : rowsP p n rows) (hc : inP p cs) (hl : rows.length ≤ cs.length) : F_impl_combine p cs rows (n : Int) = some (combR p n rows cs) ∧ okR p n (combR p n rows cs) := by
  have := two_loop (fun acc row c => addR p c acc row) (okR p n) (f := fun (k8 : Nat) (s55 : List Int) =>
      (idxO rows ((k8 : Nat) : Int)).bind fun a70 =>
      (idxO cs ((k8 : Nat) : Int)).bind fun a80 =>
      (F_impl_addTimes p s55 a80 a70).bind fun y82 =>
      some y82) rows cs (by
    intro j row c s hrow hc' hs
    have h1 := hr row (mem_of_get hrow)
    refine ⟨bnd (idxO_of hrow) (bnd (idxO_of hc') (bnd (addTimes_ hp (hc c (mem_of_get hc')) hs h1) rfl)), ?_, zip_in hp.1 c row s⟩
    rw [addR_len (by rw [h1.1, hs.1]), hs.1]) rows [] cs [] _ rfl rfl rfl hl (okR_zero hp.1 n)
  exact ⟨bnd (zeros_ hn) (bnd this.1 rfl), this.2⟩
theorem spSum_ {p : Int} {n : Nat} {rows : List (List Int)} {cs : List Int} (hp : 2 ≤ p ∧ p ≤ 97) (hn : n ≤ maxN) (hr : rowsP p n rows) (hc : inP p cs) (hl : rows.length ≤ cs.length) : F_spec_spSum p (n : Int) rows cs = some (combR p n rows cs) := by
  refine bnd (makeO_of _ hn) (bnd (two_loop (fun acc row c => addR p c acc row) (okR p n) rows cs ?_ rows [] cs [] _ rfl rfl rfl hl (okR_zero hp.1 n)).1 rfl)
  intro j row c s hrow hc' hs
  have h1 := hr row (mem_of_get hrow)
  have hcp := hc c (mem_of_get hc')
  refine ⟨bnd (idxO_of hrow) (bnd (set_loop (fun x => 0 ≤ x ∧ x < p) (fun x => 0 ≤ x ∧ x < p) (fun y x => (x + c * y) % p) row ?_ row [] [] s rfl rfl (by rw [h1.1, hs.1]) h1.2 hs.2) rfl), ?_, zip_in hp.1 c row s⟩
  · intro i y x t hy hx hxp hyp hi
    have := mul_lt hp hcp hyp
    refine bnd (idxO_of hy) (bnd (idxO_of hx) (bnd (idxO_of hc') (bnd (mulO_of (by omega) (by omega)) (bnd (addO_of (by omega) (by omega)) (bnd (remO_of (by omega)) ?_)))))
    rw [Int.tmod_eq_emod_of_nonneg (by omega)]
    exact bnd (setO_of _ hi) rfl
  · rw [addR_len (by rw [h1.1, hs.1]), hs.1]

/-- the product of rows and a matrix of n columns -/
def mulM (p : Int) (n : Nat) (rows m : List (List Int)) : List (List Int) := rows.map (combR p n m)
theorem mulM_ok {p : Int} {n k : Nat} {rows m : List (List Int)} (hp : 2 ≤ p ∧ p ≤ 97) (hn : n ≤ maxN) (hm : rowsP p n m) (hr : rowsP p k rows) (hk : m.length ≤ k) : rowsP p n (mulM p n rows m) := by
  intro r hr'
  obtain ⟨x, hx, rfl⟩ := List.mem_map.1 hr'
  exact (combine_ hp hn hm (hr x hx).2 (by rw [(hr x hx).1]; exact hk)).2
theorem mulM_len (p : Int) (n : Nat) (rows m : List (List Int)) : (mulM p n rows m).length = rows.length := by simp [mulM]
theorem product_ {p : Int} {n k : Nat} {rows m : List (List Int)} (hp : 2 ≤ p ∧ p ≤ 97) (hn : n ≤ maxN) (hm : rowsP p n m) (hr : rowsP p k rows) (hk : m.length ≤ k) (hl : rows.length ≤ maxN) : F_impl_product p rows m (n : Int) = some (mulM p n rows m) := by
  refine bnd (forS_map (combR p n m) rows [] (by simpa using hl) ?_) rfl
  intro j x s hx hs
  have h1 := hr x (mem_of_get hx)
  have hj : j < rows.length := (List.getElem?_eq_some_iff.1 hx).1
  exact bnd (idxO_of hx) (bnd (combine_ hp hn hm h1.2 (by rw [h1.1]; exact hk)).1 (bnd (appO_of (by simp at hs ⊢; omega)) rfl))
theorem ssTimes_ {p : Int} {n k : Nat} {rows m : List (List Int)} (hp : 2 ≤ p ∧ p ≤ 97) (hn : n ≤ maxN) (hm : rowsP p n m) (hr : rowsP p k rows) (hk : m.length ≤ k) (hl : rows.length ≤ maxN) : F_spec_ssTimes p (n : Int) rows m = some (mulM p n rows m) := by
  refine bnd (forS_map (combR p n m) rows [] (by simpa using hl) ?_) rfl
  intro j x s hx hs
  have h1 := hr x (mem_of_get hx)
  have hj : j < rows.length := (List.getElem?_eq_some_iff.1 hx).1
  exact bnd (idxO_of hx) (bnd (spSum_ hp hn hm h1.2 (by rw [h1.1]; exact hk)) (bnd (appO_of (by simp at hs ⊢; omega)) rfl))
theorem own_ {l : List Int} (h : l.length ≤ maxN) : F_spec_l1Own l = some l := bnd (appO_of (by simpa using h)) rfl
theorem clone_ {l : List Int} (h : l.length ≤ maxN) : F_impl_clone l = some l := bnd (appO_of (by simpa using h)) rfl
theorem ssCopy_ {m : List (List Int)} (hl : m.length ≤ maxN) (h : ∀ r ∈ m, r.length ≤ maxN) : F_spec_ssCopy m = some m := by
  refine bnd (a := m) ?_ rfl
  refine (forS_map (fun r => r) m [] (by simpa using hl) ?_).trans (by simp)
  intro j x s hx hs
  have hj : j < m.length := (List.getElem?_eq_some_iff.1 hx).1
  exact bnd (idxO_of hx) (bnd (own_ (h x (mem_of_get hx))) (bnd (appO_of (by simp at hs ⊢; omega)) rfl))
theorem clones_ {m : List (List Int)} (hl : m.length ≤ maxN) (h : ∀ r ∈ m, r.length ≤ maxN) : F_impl_clones m = some m := by
  refine bnd (makeCO_of0 _ hl) (bnd (a := m) ?_ rfl)
  refine (forS_map (fun r => r) m [] (by simpa using hl) ?_).trans (by simp)
  intro j x s hx hs
  have hj : j < m.length := (List.getElem?_eq_some_iff.1 hx).1
  exact bnd (idxO_of hx) (bnd (clone_ (h x (mem_of_get hx))) (bnd (appO_of (by simp at hs ⊢; omega)) rfl))
end Go.Proofs.YteikcdofblclhaaDoor
