/-
  The rows of a Hankel matrix: plain maths, and what the reference and the program return. Conditions: the blocks are a response; the indices are in range.
-/
import Derived.Test.YtgnlfjlenjfffaaDoorC5
namespace Go.Proofs.YtgnlfjlenjfffaaDoor
open Go
open Go.RowKit (Below)
open Go.Proofs.YtgnlfjlenjfffaaDoor.RW
open Rep Szn MkE

theorem getDq {α : Type} {l : List α} {d : α} {i : Nat} (h : i < l.length) : l.getD i d = l[i] := by simp [List.getD, h]
def hkRow (m : List Mx) (i u : Nat) : Nat → List Int
  | 0 => []
  | j + 1 => hkRow m i u j ++ (m.getD (i + j + 1) (0, [])).2.getD u []
def hkBlk (m : List Mx) (i cols : Nat) : Nat → List (List Int)
  | 0 => []
  | u + 1 => hkBlk m i cols u ++ [hkRow m i u cols]
def hk (m : List Mx) (cols : Nat) : Nat → List (List Int)
  | 0 => []
  | i + 1 => hk m cols i ++ hkBlk m i cols (m.getD 0 (0, [])).2.length
theorem hkBlk_len (m : List Mx) (i cols : Nat) : ∀ u, (hkBlk m i cols u).length = u
  | 0 => rfl
  | u + 1 => by rw [hkBlk, List.length_append, hkBlk_len m i cols u]; rfl

theorem resp_shape {p : Int} {m : List Mx} (h : respOk p m = true) : 1 ≤ m.length ∧ m.length ≤ 60 ∧ goodP p = true ∧ (m.getD 0 (0, [])).2.length ≤ 8 ∧ 0 ≤ (m.getD 0 (0, [])).1 ∧ (m.getD 0 (0, [])).1 ≤ 8 ∧
    ∀ k (hk : k < m.length), m[k].2.length = (m.getD 0 (0, [])).2.length ∧ ∀ u (hu : u < m[k].2.length), (m[k].2[u].length : Int) = (m.getD 0 (0, [])).1 := by
  cases m with
  | nil => simp [respOk] at h
  | cons x r =>
    simp only [respOk, Bool.and_eq_true, decide_eq_true_eq, List.all_eq_true] at h
    obtain ⟨⟨⟨⟨h1, h2⟩, h3⟩, h4⟩, h5⟩ := h
    have hx : (x :: r).getD 0 (0, []) = x := rfl
    rw [hx]
    have h6 := h3 x (by simp)
    simp only [shaped, mxOk, Bool.and_eq_true, decide_eq_true_eq] at h6
    refine ⟨by simp, h2, h1, h4, h6.1.1.1.1.2.1, h5, fun k hk => ?_⟩
    have h7 := h3 _ (List.getElem_mem hk)
    simp only [shaped, mxOk, Bool.and_eq_true, decide_eq_true_eq, rowsOk, List.all_eq_true] at h7
    refine ⟨by omega, fun u hu => ?_⟩
    have h8 := h7.1.1.2 _ (List.getElem_mem hu)
    omega

set_option maxRecDepth 10000 in
theorem rzHankel_c (p : Int) (v : Value) (m : List Mx) (rows cols : Nat) (S : Nat → Prop) (w : World) (h : RdV w S v m) (hS : ∀ b, S b → b < w.heap.size) (hm : respOk p m = true) (hr60 : rows ≤ 60) (hc60 : cols ≤ 60) (hrc : 0 < rows → 0 < cols → rows + cols ≤ m.length) :
    Calls Tryd.prog 29 #[v, .int .i64 rows, .int .i64 cols] w fun e w' => ∃ r, e = .returned r ∧ Fresh w.heap.size w' r (hk m cols rows) ∧ Ext w w' := by
  obtain ⟨A, n, c, rfl, hr⟩ := h.list
  obtain rfl := hr.1
  obtain ⟨hm1, hm2, hg, hR8, hC0, hC8, hsh⟩ := resp_shape hm
  have hmm : maxLen = 9223372036854775807 := rfl
  have h0 : 0 < m.length := by omega
  have e0 : m.getD 0 (0, []) = m[0] := getDq h0
  refine enter (args := [_, _, _]) gok Tryd.func29 rfl rfl rfl rfl rfl ?_
  refine loop (fun st : Nat × Value => [(0, .slice A m.length c), (1, .int .i64 rows), (2, .int .i64 cols), (7, st.2), (8, .int .i64 st.1)])
    (fun st w' => Ext w w' ∧ st.1 ≤ rows ∧ (hk m cols st.1).length ≤ 8 * st.1 ∧ Fresh w.heap.size w' st.2 (hk m cols st.1)) (fun st => rows - st.1) (0, .slice none 0 0) ⟨rfl, rfl, rfl, rfl, rfl, trivial⟩
    ⟨Upd.refl _ _, Nat.zero_le _, Nat.zero_le _, [], OwnV.list_mk (.inl ⟨rfl, rfl, rfl, rfl, rfl⟩), fun b hb => by cases hb⟩ ?_
  rintro T0 ⟨i, out⟩ w2 ⟨hu, hi, hl1, hf⟩
  simp only at hi hl1 hf ⊢
  refine cmp (fun hlt => ?_) (fun hlt => ?_)
  rotate_left
  · have : i = rows := by omega
    subst this
    exact ⟨_, rfl, hf, hu⟩
  have hlt' : i < rows := by omega
  have hr2 := hr.ext_ hS hu
  obtain ⟨b0, o0, A0, n0, c0, hA0, _, hc0, hi0, hv0⟩ := hr2.atM h0
  subst hA0
  refine idx 0 rfl h0 ?_
  refine fld gok rfl rfl rfl rfl (load1 (hc0 1 _ rfl) ?_)
  have en0 : n0 = (m.getD 0 (0, [])).2.length := by rw [e0]; exact hv0.1
  subst en0
  refine loop (fun st : Nat × Value => [(0, .slice (some ⟨b0, o0, none⟩) m.length c), (1, .int .i64 rows), (2, .int .i64 cols), (7, st.2), (8, .int .i64 i), (21, .int .i64 (m.getD 0 (0, [])).2.length), (22, .int .i64 st.1)])
    (fun st w' => Ext w w' ∧ st.1 ≤ (m.getD 0 (0, [])).2.length ∧ Fresh w.heap.size w' st.2 (hk m cols i ++ hkBlk m i cols st.1)) (fun st => (m.getD 0 (0, [])).2.length - st.1) (0, out) ⟨rfl, rfl, rfl, rfl, rfl, rfl, rfl, trivial⟩
    ⟨hu, Nat.zero_le _, by simpa [hkBlk] using hf⟩ ?_
  rintro T1 ⟨u, out⟩ w3 ⟨hu3, hu8, hf3⟩
  simp only at hu8 hf3 ⊢
  refine cmp (fun hlt2 => ?_) (fun hlt2 => ?_)
  rotate_left
  · have : u = (m.getD 0 (0, [])).2.length := by omega
    subst this
    refine ar (by omega) ?_
    refine ⟨(i + 1, out), ⟨rfl, rfl, rfl, rfl, rfl, trivial⟩, ⟨hu3, hlt', ?_, hf3⟩, by simp only; omega⟩
    simp only [hk, List.length_append, hkBlk_len]; omega
  have hlt2' : u < (m.getD 0 (0, [])).2.length := by omega
  obtain ⟨fpo, hoo, hBo⟩ := hf3
  refine loop (fun st : Nat × Value => [(0, .slice (some ⟨b0, o0, none⟩) m.length c), (1, .int .i64 rows), (2, .int .i64 cols), (7, out), (8, .int .i64 i), (9, .int .i64 u), (10, st.2), (11, .int .i64 st.1), (21, .int .i64 (m.getD 0 (0, [])).2.length), (22, .int .i64 u)])
    (fun st w' => Ext w3 w' ∧ st.1 ≤ cols ∧ (hkRow m i u st.1).length ≤ 8 * st.1 ∧ Fresh w3.heap.size w' st.2 (hkRow m i u st.1)) (fun st => cols - st.1) (0, .slice none 0 0) ⟨rfl, rfl, rfl, rfl, rfl, rfl, rfl, rfl, rfl, rfl, trivial⟩
    ⟨Upd.refl _ _, Nat.zero_le _, Nat.zero_le _, [], OwnV.list_mk (.inl ⟨rfl, rfl, rfl, rfl, rfl⟩), fun b hb => by cases hb⟩ ?_
  rintro T2 ⟨j, row⟩ w4 ⟨hu4, hj, hl4, fpr, hor, hBr⟩
  simp only at hj hl4 hor ⊢
  have hu34 : Ext w w4 := hu3.trans hu4 (fun _ h => by cases h)
  refine cmp (fun hlt3 => ?_) (fun hlt3 => ?_)
  · have hlt3' : j < cols := by omega
    have hrc' := hrc (by omega) (by omega)
    have hk' : i + j + 1 < m.length := by omega
    have ek : m.getD (i + j + 1) (0, []) = m[i + j + 1] := getDq hk'
    obtain ⟨hs1, hs2⟩ := hsh _ hk'
    have hu' : u < m[i + j + 1].2.length := by omega
    have eu : m[i + j + 1].2.getD u [] = m[i + j + 1].2[u] := getDq hu'
    have hs3 := hs2 u hu'
    refine ar (by omega) (ar (by omega) ?_)
    obtain ⟨b1, o1, A1, n1, c1, hA1, _, hc1, hi1, hv1⟩ := (hr.ext_ hS hu34).atM hk'
    obtain ⟨rfl, rfl⟩ : b0 = b1 ∧ o0 = o1 := by simpa using hA1
    refine idx (i + j + 1) (by omega) hk' ?_
    refine fld gok rfl rfl rfl rfl (load1 (hc1 1 _ rfl) ?_)
    obtain ⟨b2, o2, v2, rfl, hc2, hv2⟩ := RdL.atL hv1 hu'
    refine idx u rfl (by have := hv1.1; omega) (load1 hc2 ?_)
    obtain ⟨A3, n3, c3, rfl, hv3⟩ := hv2.list
    obtain ⟨Ar, nr, cr, rfl, hol⟩ := hor.list
    have enr := hol.n_eq
    have en3 := hv3.1
    refine appS gok rfl rfl hol hv3 (by omega) ?_
    intro A5 c5 w5 fp5 ho5 hu5 hf5
    refine ar (by omega) ?_
    refine ⟨(j + 1, _), ⟨rfl, rfl, rfl, rfl, rfl, rfl, rfl, rfl, rfl, rfl, trivial⟩, ⟨hu4.trans (fp := []) hu5 (fun b hb => .inr (hBr b hb)), hlt3', ?_, fp5, ?_, fun b hb => ?_⟩, by simp only; omega⟩
    · simp only [hkRow, List.length_append, ek, eu]; omega
    · simp only [hkRow, ek, eu]; exact OwnV.list_mk ho5
    · rcases hf5 b hb with h | h
      · exact hBr b h
      · exact Nat.le_trans hu4.size h
  · have : j = cols := by omega
    subst this
    have hoo4 := hoo.ext hu4
    obtain ⟨Ao, no, co, rfl, hol⟩ := hoo4.list
    have eno := hol.n_eq
    rw [List.length_append, hkBlk_len] at eno
    refine appR gok rfl rfl hol hor (fun b hb h => by have := hBr b h; have := hoo.lt b hb; omega) (by omega) ?_
    intro _ w5 A' c' w6 fp' ho6 hu6 hf6
    refine ar (by omega) ?_
    refine ⟨(u + 1, _), ⟨rfl, rfl, rfl, rfl, rfl, rfl, rfl, trivial⟩, ⟨hu34.trans (fp := []) hu6 (fun b hb => .inr (hBo b hb)), hlt2', fp', ?_, fun b hb => ?_⟩, by simp only; omega⟩
    · simp only [hkBlk, ← List.append_assoc]; exact OwnV.list_mk ho6
    · rcases hf6 b hb with h | h | h
      · exact hBo b h
      · exact Nat.le_trans hu3.size (hBr b h)
      · exact Nat.le_trans hu34.size h
end Go.Proofs.YtgnlfjlenjfffaaDoor
