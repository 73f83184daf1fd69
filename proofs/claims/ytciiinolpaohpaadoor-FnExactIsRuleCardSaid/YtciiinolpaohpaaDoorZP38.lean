/-
  Plain laws: graphs with other wires, graphs beside each other; ParGraphs. No program in sight. No condition.
-/
import Derived.Test.YtciiinolpaohpaaDoorZP35
namespace Go.Proofs.YtciiinolpaohpaaDoor

/-! ### tables that a loop fills -/
def tabF {α : Type} (f f0 : Nat → α) (j : Nat) : Nat → α := fun k => if k < j then f k else f0 k
theorem tabF_step {α : Type} {n : Nat} (f f0 : Nat → α) (j : Nat) : (tabl n fun k => if k = j then f j else tabF f f0 j k) = tabl n (tabF f f0 (j + 1)) := by
  refine tabl_ext fun k _ => ?_
  unfold tabF
  by_cases h : k = j
  · subst h; rw [if_pos rfl, if_pos (by omega)]
  · rw [if_neg h]
    by_cases h2 : k < j
    · rw [if_pos h2, if_pos (by omega)]
    · rw [if_neg h2, if_neg (by omega)]
theorem fill_loop {α : Type} {n : Nat} (f f0 : Nat → α) {g : Nat → List α → Option (List α)} (hg : ∀ j, j < n → g j (tabl n (tabF f f0 j)) = some (tabl n fun k => if k = j then f j else tabF f f0 j k)) : forS g n 0 (tabl n f0) = some (tabl n f) := by
  have := forS_is (f := g) (n := n) (fun j => tabl n (tabF f f0 j)) (fun j hj => by rw [hg j hj, tabF_step])
  have e0 : tabl n (tabF f f0 0) = tabl n f0 := tabl_ext fun k _ => by unfold tabF; rw [if_neg (by omega)]
  have e1 : tabl n (tabF f f0 n) = tabl n f := tabl_ext fun k hk => by unfold tabF; rw [if_pos hk]
  rw [e0, e1] at this
  exact this
theorem upT_ {n : Nat} (h : n ≤ 1048576) : F_impl_upTo (n : Int) = some (tabl n fun k => (k : Int)) := by
  have hm : maxN = 1099511627776 := rfl
  refine bnd (zeros_ (by omega)) ?_
  rw [tabl_rep, tabl_len]
  exact bnd (fill_loop (fun k => (k : Int)) (fun _ => 0) (fun j hj => bnd (tabl_setO _ _ hj) rfl)) rfl
theorem from_ {n a : Nat} (h : n ≤ 1048576) (ha : a ≤ 1048576) : F_impl_from (a : Int) (n : Int) = some (tabl n fun k => (k : Int) + a) := by
  refine bnd (upT_ h) ?_
  rw [tabl_len]
  refine bnd (fill_loop (fun k => (k : Int) + a) (fun k => (k : Int)) (fun j hj => ?_)) rfl
  have e : tabF (fun k => (k : Int) + a) (fun k => (k : Int)) j j = (j : Int) := by unfold tabF; rw [if_neg (by omega)]
  refine bnd (tabl_idx _ hj) ?_
  rw [e]
  exact bnd (addO_of (by omega) (by omega)) (bnd (tabl_setO _ _ hj) rfl)

/-! ### other wires -/
def mp (t : Nat → Int) (l : List Int) : List Int := l.map fun x => t x.toNat
def mpE (t : Nat → Int) (e : Edg) : Edg := (e.1, e.2.1, mp t (edI e), mp t (edO e))
def mpG (n : Int) (t : Nat → Int) (g : Gra) : Gra := (n, g.2.1.map (mpE t), mp t g.2.2.1, mp t g.2.2.2)
theorem mp_id {n : Nat} {l : List Int} (h : inRg n l) : mp (fun k => (k : Int)) l = l := by
  unfold mp
  refine (List.map_congr_left fun x hx => ?_).trans (List.map_id _)
  have := h x hx
  show ((x.toNat : Nat) : Int) = x
  omega
theorem hgList_ {n : Nat} {l : List Int} (t : Nat → Int) (h : inRg n l) (hl : l.length ≤ 1048576) : F_spec_hgList l (tabl n t) = some (mp t l) := by
  have hm : maxN = 1099511627776 := rfl
  refine bnd (forS_map (fun x => t x.toNat) l [] (by simp; omega) (fun j x s' hj hs => ?_)) rfl
  have hx := h x (mem_of_get hj)
  obtain ⟨k, rfl⟩ : ∃ k : Nat, x = (k : Int) := ⟨x.toNat, by omega⟩
  have hjl := (List.getElem?_eq_some_iff.1 hj).1
  refine bnd (idxO_of hj) (bnd (tabl_idx _ (by omega)) (bnd (appO_of (by simp at hs ⊢; omega)) ?_))
  rfl
theorem mapped_ {n : Nat} {l : List Int} (t : Nat → Int) (h : inRg n l) (hl : l.length ≤ 1048576) : F_impl_mapped l (tabl n t) = some (mp t l) := by
  have hm : maxN = 1099511627776 := rfl
  refine bnd (bnd (makeCO_of0 _ (by omega)) (bnd (forS_map (fun x => t x.toNat) l [] (by simp; omega) (fun j x s' hj hs => ?_)) rfl)) rfl
  have hx := h x (mem_of_get hj)
  obtain ⟨k, rfl⟩ : ∃ k : Nat, x = (k : Int) := ⟨x.toNat, by omega⟩
  have hjl := (List.getElem?_eq_some_iff.1 hj).1
  refine bnd (idxO_of hj) (bnd (tabl_idx _ (by omega)) (bnd (appO_of (by simp at hs ⊢; omega)) ?_))
  rfl
theorem len_tot {E : List Edg} {e : Edg} (s : Edg → List Int) (h : e ∈ E) : (s e).length ≤ totE E s := by
  unfold totE
  induction E with
  | nil => cases h
  | cons x E ih =>
    rw [List.map_cons, List.flatten_cons, List.length_append]
    rcases List.mem_cons.1 h with rfl | h
    · omega
    · have := ih h; omega
/-- a graph's parts in range, and short -/
structure Rgd (n : Nat) (g : Gra) : Prop where
  i : inRg n g.2.2.1
  o : inRg n g.2.2.2
  e : edRg n g.2.1
  li : g.2.2.1.length ≤ 1000
  lo : g.2.2.2.length ≤ 1000
  le : g.2.1.length ≤ 1000
  ti : totE g.2.1 edI ≤ 1000
  to : totE g.2.1 edO ≤ 1000
theorem GOk.rgd {g : Gra} {n : Nat} (h : GOk g n) : Rgd n g := by
  have := h.i12; have := h.o12; have := h.e60; have := h.ti; have := h.to
  exact ⟨h.i, h.o, h.e, by omega, by omega, by omega, by omega, by omega⟩
theorem hgMap_ {n : Nat} {g : Gra} (t : Nat → Int) (w : Int) (h : Rgd n g) : F_spec_hgMap g (tabl n t) w = some (mpG w t g) := by
  have hm : maxN = 1099511627776 := rfl
  obtain ⟨w0, E, I, O⟩ := g
  obtain ⟨h1, h2, h3, h4, h5, h6, h7, h8⟩ := h
  dsimp only at h1 h2 h3 h4 h5 h6 h7 h8
  refine bnd (bnd (hgList_ t h1 (by dsimp only; omega)) (bnd (hgList_ t h2 (by dsimp only; omega)) rfl)) ?_
  refine bnd (forS_map (mpE t) E [] (by simp; omega) (fun j e s' hj hs => ?_)) rfl
  have he := mem_of_get hj
  have hjl := (List.getElem?_eq_some_iff.1 hj).1
  have l1 := len_tot edI he
  have l2 := len_tot edO he
  exact bnd (idxO_of hj) (bnd (hgList_ t (h3 e he).1 (show (edI e).length ≤ _ by omega)) (bnd (hgList_ t (h3 e he).2 (show (edO e).length ≤ _ by omega)) (bnd (appO_of (by simp at hs ⊢; omega)) rfl)))
theorem moved_ {n : Nat} {g : Gra} (t : Nat → Int) (w : Int) (h : Rgd n g) : F_impl_Graph_moved g w (tabl n t) = some (mpG w t g) := by
  have hm : maxN = 1099511627776 := rfl
  obtain ⟨w0, E, I, O⟩ := g
  obtain ⟨h1, h2, h3, h4, h5, h6, h7, h8⟩ := h
  dsimp only at h1 h2 h3 h4 h5 h6 h7 h8
  refine bnd (bnd (mapped_ t h1 (by dsimp only; omega)) (bnd (mapped_ t h2 (by dsimp only; omega)) rfl)) ?_
  refine bnd (forS_map (mpE t) E [] (by simp; omega) (fun j e s' hj hs => ?_)) rfl
  have he := mem_of_get hj
  have hjl := (List.getElem?_eq_some_iff.1 hj).1
  have l1 := len_tot edI he
  have l2 := len_tot edO he
  exact bnd (idxO_of hj) (bnd (mapped_ t (h3 e he).1 (show (edI e).length ≤ _ by omega)) (bnd (mapped_ t (h3 e he).2 (show (edO e).length ≤ _ by omega)) (bnd (appO_of (by simp at hs ⊢; omega)) rfl)))
theorem mpG_id {n : Nat} {g : Gra} (h : Rgd n g) : mpG g.1 (fun k => (k : Int)) g = g := by
  obtain ⟨w0, E, I, O⟩ := g
  obtain ⟨h1, h2, h3, _, _, _, _, _⟩ := h
  unfold mpG
  refine Prod.ext rfl (Prod.ext ?_ (Prod.ext (mp_id h1) (mp_id h2)))
  refine (List.map_congr_left fun e he => ?_).trans (List.map_id _)
  obtain ⟨k, v, a, b⟩ := e
  have := h3 _ he
  unfold mpE
  exact Prod.ext rfl (Prod.ext rfl (Prod.ext (mp_id this.1) (mp_id this.2)))
theorem hgOwn_ {n : Nat} {g : Gra} (hn : n ≤ 1000) (hw : g.1 = (n : Int)) (h : Rgd n g) : F_spec_hgOwn g = some g := by
  have hm : maxN = 1099511627776 := rfl
  have e := mpG_id h
  unfold F_spec_hgOwn
  rw [hw] at e ⊢
  refine bnd (tabl_make _ (by omega)) ?_
  rw [tabl_len]
  refine bnd (fill_loop (fun k => (k : Int)) (fun _ => 0) (fun j hj => bnd (tabl_setO _ _ hj) rfl)) ?_
  have h2 := hgMap_ (g := g) (fun k => (k : Int)) (n : Int) h
  rw [e] at h2
  obtain ⟨w0, E, I, O⟩ := g
  obtain rfl : w0 = (n : Int) := hw
  exact bnd h2 rfl

/-! ### beside each other -/
def pPar (n m : Nat) (a b : Gra) : Gra :=
  (((n + m : Nat) : Int), a.2.1 ++ b.2.1.map (mpE fun k => (k : Int) + n), a.2.2.1 ++ mp (fun k => (k : Int) + n) b.2.2.1, a.2.2.2 ++ mp (fun k => (k : Int) + n) b.2.2.2)
theorem mp_len (t : Nat → Int) (l : List Int) : (mp t l).length = l.length := by unfold mp; rw [List.length_map]
theorem hgBeside_ {n m : Nat} {a b : Gra} (hn : n ≤ 1000) (hm : m ≤ 1000) (wa : a.1 = (n : Int)) (wb : b.1 = (m : Int)) (ha : Rgd n a) (hb : Rgd m b) : F_spec_hgBeside a b = some (pPar n m a b) := by
  have hmm : maxN = 1099511627776 := rfl
  obtain ⟨w0, E, I, O⟩ := a
  obtain ⟨w1, E', I', O'⟩ := b
  obtain rfl : w0 = (n : Int) := wa
  obtain rfl : w1 = (m : Int) := wb
  have l1 := ha.li; have l2 := ha.lo; have l3 := ha.le; have k1 := hb.li; have k2 := hb.lo; have k3 := hb.le
  dsimp only at l1 l2 l3 k1 k2 k3
  refine bnd (tabl_make _ (by omega)) ?_
  rw [tabl_len]
  refine bnd (fill_loop (fun k => (k : Int) + n) (fun _ => 0) (fun j hj => bnd (addO_of (by omega) (by omega)) (bnd (tabl_setO _ _ hj) rfl))) ?_
  refine bnd (hgOwn_ hn rfl ha) (bnd (hgMap_ _ _ hb) (bnd (addO_of (by dsimp only; omega) (by dsimp only; omega)) (bnd (appO_of ?_) (bnd (appO_of ?_) (bnd (appO_of ?_) ?_)))))
  · unfold mpG; dsimp only; rw [mp_len]; omega
  · unfold mpG; dsimp only; rw [mp_len]; omega
  · unfold mpG; dsimp only; rw [List.length_map]; omega
  · unfold mpG pPar; dsimp only; push_cast; rfl
theorem beside_ {n m : Nat} {a b : Gra} (hn : n ≤ 1000) (hm : m ≤ 1000) (wa : a.1 = (n : Int)) (wb : b.1 = (m : Int)) (ha : Rgd n a) (hb : Rgd m b) : F_impl_Graph_beside a b = some (((n + m : Nat) : Int), a.2.1 ++ b.2.1.map (mpE fun k => (k : Int) + n), [], []) := by
  have hmm : maxN = 1099511627776 := rfl
  have e := mpG_id ha
  obtain ⟨w0, E, I, O⟩ := a
  obtain ⟨w1, E', I', O'⟩ := b
  obtain rfl : w0 = (n : Int) := wa
  obtain rfl : w1 = (m : Int) := wb
  have l3 := ha.le; have k3 := hb.le
  dsimp only at l3 k3
  have h1 := moved_ (g := ((n : Int), E, I, O)) (fun k => (k : Int)) (n : Int) ha
  dsimp only at e
  rw [e] at h1
  refine bnd (addO_of (by dsimp only; omega) (by dsimp only; omega)) (bnd (bnd (upT_ (by omega)) (bnd h1 rfl)) (bnd (bnd (from_ (by omega) (by omega)) (bnd (moved_ _ _ hb) rfl)) (bnd (appO_of ?_) ?_)))
  · unfold mpG; dsimp only; rw [List.length_map]; omega
  · unfold mpG; dsimp only; push_cast; rfl
theorem joined2_ {a b : List Int} (h : a.length + b.length ≤ 1048576) : F_impl_joined [a, b] = some (a ++ b) := by
  have hm : maxN = 1099511627776 := rfl
  refine bnd (a := a ++ b) ?_ rfl
  refine bnd (a := a) (bnd (a := a) rfl (bnd (appO_of (by simp; omega)) rfl)) (bnd (a := a ++ b) (bnd (a := b) rfl (bnd (appO_of (by omega)) rfl)) rfl)
theorem parGraphs_ {n m : Nat} {a b : Gra} (hn : n ≤ 1000) (hm : m ≤ 1000) (wa : a.1 = (n : Int)) (wb : b.1 = (m : Int)) (ha : Rgd n a) (hb : Rgd m b) : F_impl_parGraphs a b = some (pPar n m a b) := by
  obtain ⟨w0, E, I, O⟩ := a
  obtain ⟨w1, E', I', O'⟩ := b
  obtain rfl : w0 = (n : Int) := wa
  obtain rfl : w1 = (m : Int) := wb
  have l1 := ha.li; have l2 := ha.lo; have k1 := hb.li; have k2 := hb.lo
  dsimp only at l1 l2 k1 k2
  refine bnd (beside_ hn hm rfl rfl ha hb) (bnd (from_ (by omega) (by omega)) (bnd (mapped_ _ hb.i (by dsimp only; omega)) (bnd (joined2_ ?_) (bnd (mapped_ _ hb.o (by dsimp only; omega)) (bnd (joined2_ ?_) rfl)))))
  · dsimp only; rw [mp_len]; omega
  · dsimp only; rw [mp_len]; omega
def noG : Gra := (0, [], [], [])
def ifG (g : Gra) : Gra × Bool := if gOk g = true then (g, true) else (noG, false)
theorem hgIf_ (g : Gra) : F_spec_hgIf g = some (ifG g) := by
  refine bnd (hgValid_ g) (stp ?_)
  unfold ifG
  cases gOk g <;> rfl
end Go.Proofs.YtciiinolpaohpaaDoor
