/-
  The Hankel matrix: the program's rows; appending rows of one's own to rows of one's own. Conditions: the blocks are a response; the indices are in range.
-/
import Derived.Test.YtgnlfjlenjfffaaDoorC7
namespace Go.Proofs.YtgnlfjlenjfffaaDoor.RW
open Go
open Go.RowKit (Below)
open Rep
section
variable {P : Program} {G : Eng} {w : World}
/-- append(out, rows...): rows of one's own go in -/
theorem appRS {β : Type} [Rep β] (ok : EngOk P G) {t e ty st bt : Nat} {zt : Value} {ke : TK}
    (ht : nthO G.tt t = some ⟨.slice e, st, bt, zt⟩) (he : nthO G.tt e = some ⟨ke, 1, 24, .slice none 0 0⟩)
    {fp fp2 : List Nat} {A A2 : Option Addr} {n c m c2 : Nat} {xs ys : List (List β)} (hown : OwnL w fp A n c xs) (hown2 : OwnL w fp2 A2 m c2 ys) (hd : ∀ b ∈ fp, b ∉ fp2) (hb : n + m ≤ 5864062014804) {K : Value → World → Prop}
    (hK : ∀ A' c' w' fp', OwnL w' fp' A' (n + m) c' (xs ++ ys) → Upd fp w w' → (∀ b ∈ fp', b ∈ fp ∨ b ∈ fp2 ∨ w.heap.size ≤ b) → K (.slice A' (n + m) c') w') :
    ERun P (Builtin.append_ #[t, t] ty #[.slice A n c, .slice A2 m c2]) w K := by
  have hu := und_slice (und_of ok ht)
  have hs1 : sz (List β) = 1 := rfl
  have key : ∃ (news : List Value) (fps : List (List Nat)), Src P 1 t (.slice A2 m c2) m news w ∧ fps.length = m ∧ (∀ b ∈ fps.flatten, b ∈ fp2) ∧ fps.flatten.Nodup ∧ ∀ i (h : i < ys.length) (h' : i < fps.length), own w fps[i] ((news.drop (i * 1)).take 1) ys[i] := by
    rcases hown2 with ⟨rfl, rfl, rfl, rfl, rfl⟩ | ⟨g, o, cells, el, fps, rfl, hg, hn, hnc, hcm, hsz, hl, rfl, hnd, hqs⟩
    · exact ⟨[], [], Src.ofNil w hu 0, rfl, fun b hb => by simp at hb, by simp, fun i h => by simp at h⟩
    · rw [hs1] at hsz hqs
      have hnl : ((cells.toList.drop o).take m).length = m := by rw [List.length_take, List.length_drop, Array.length_toList]; omega
      refine ⟨(cells.toList.drop o).take m, fps, Src.ofSlice w hu ⟨g, o, none⟩ m c2 _ (by rw [hnl]; simp) (fun j u hj => ?_) (fun u hu' => ?_), by omega, fun b hb => List.mem_cons_of_mem _ hb, (List.nodup_cons.1 hnd).2, fun i h h' => ?_⟩
      · rw [Addr.add_lit, cell_of_row w g _ cells el (0, 0) hg]
        have hj' : j < m := by have := (List.getElem?_eq_some_iff.1 hj).1; omega
        rw [List.getElem?_take, if_pos hj', List.getElem?_drop] at hj
        rw [← Array.getElem?_toList]; exact hj
      · obtain ⟨j, hj, rfl⟩ := List.mem_iff_getElem.1 hu'
        have hj' : j < ys.length := by omega
        have h1 := hqs j hj' (by omega)
        have h2 : ((cells.toList.drop o).take m)[j] ∈ chk cells o 1 j := by
          refine List.mem_iff_getElem?.2 ⟨0, ?_⟩
          rw [chk_get (by decide)]
          simp only [List.getElem_take, List.getElem_drop, Nat.add_zero, Nat.mul_one]
          rw [← Array.getElem?_toList, List.getElem?_eq_getElem]
        exact rd_one (own_rd h1) _ h2
      · have e1 : (((cells.toList.drop o).take m).drop (i * 1)).take 1 = chk cells o 1 i := by
          unfold chk
          rw [List.drop_take, List.take_take, List.drop_drop, Nat.min_eq_left (by omega)]
        rw [e1]; exact hqs i h h'
  obtain ⟨news, fps, hsrc, hfl, hsub, hnd2, hq⟩ := key
  have hm : ys.length = m := hown2.n_eq.symm
  refine append_own ok ht he rfl hown own_hq hsrc ys fps hm hfl hq (fun b hb => ?_) ?_ (by omega) (by unfold maxLen; omega) ?_
  · rcases List.mem_append.1 hb with h | h
    · exact hown.lt own_lt b h
    · exact hown2.lt own_lt b (hsub b h)
  · exact List.nodup_append.2 ⟨hown.nodup, hnd2, fun a ha b hb e => hd a ha (e ▸ hsub b hb)⟩
  · intro A' c' w' fp' ho hu2 hmm
    refine hK _ _ _ _ ho (hu2.mono fun b hb => .inl (List.mem_of_mem_take hb)) fun b hb => ?_
    rcases hmm b hb with h | h | h
    · exact .inl h
    · exact .inr (.inl (hsub b h))
    · exact .inr (.inr h)
end
end Go.Proofs.YtgnlfjlenjfffaaDoor.RW
namespace Go.Proofs.YtgnlfjlenjfffaaDoor
open Go
open Go.RowKit (Below)
open Go.Proofs.YtgnlfjlenjfffaaDoor.RW
open Rep Szn MkE

theorem bsRow_hk (m : List Mx) (i u cols : Nat) : ∀ j, j ≤ cols → bsRow ((m.drop (i + 1)).take cols) u j = hkRow m i u j
  | 0, _ => rfl
  | j + 1, h => by
    rw [bsRow, hkRow, bsRow_hk m i u cols j (by omega)]
    congr 3
    simp only [List.getD_eq_getElem?_getD]
    rw [List.getElem?_take, if_pos (by omega), List.getElem?_drop]
    congr 2; omega
theorem hkBlk_map (m : List Mx) (i cols : Nat) : ∀ u, hkBlk m i cols u = (List.range u).map fun u => hkRow m i u cols
  | 0 => rfl
  | u + 1 => by rw [hkBlk, hkBlk_map m i cols u, List.range_succ, List.map_append]; rfl
theorem bsAll_hk (m : List Mx) (i cols rows : Nat) (h : i + 1 + cols ≤ m.length) : bsAll ((m.drop (i + 1)).take cols) rows = hkBlk m i cols rows := by
  rw [hkBlk_map, bsAll]
  have : ((m.drop (i + 1)).take cols).length = cols := by rw [List.length_take, List.length_drop]; omega
  rw [this]
  exact List.map_congr_left fun u _ => bsRow_hk m i u cols cols (Nat.le_refl _)

set_option maxRecDepth 10000 in
theorem hankel_c (p : Int) (v : Value) (m : List Mx) (rows cols : Nat) (S : Nat → Prop) (w : World) (h : RdV w S v m) (hS : ∀ b, S b → b < w.heap.size) (hm : respOk p m = true) (hrc : 0 < rows → rows + cols ≤ m.length) :
    Calls Tryd.prog 32 #[v, .int .i64 rows, .int .i64 cols] w fun e w' => ∃ r, e = .returned r ∧ Fresh w.heap.size w' r (hk m cols rows) ∧ Ext w w' := by
  obtain ⟨A, n, c, rfl, hr⟩ := h.list
  obtain rfl := hr.1
  obtain ⟨hm1, hm2, hg, hR8, hC0, hC8, hsh⟩ := resp_shape hm
  have hmm : maxLen = 9223372036854775807 := rfl
  have hnc := hr.2.1
  have h0 : 0 < m.length := by omega
  have e0 : m.getD 0 (0, []) = m[0] := getDq h0
  refine enter (args := [_, _, _]) gok Tryd.func32 rfl rfl rfl rfl rfl ?_
  refine lit0 (α := List Int) gok rfl rfl ?_
  intro Al wl hol hul
  refine loop (fun st : Nat × Value => [(0, .slice A m.length c), (2, .int .i64 cols), (7, st.2), (10, .int .i64 rows), (11, .int .i64 st.1)])
    (fun st w' => Ext w w' ∧ st.1 ≤ rows ∧ (hk m cols st.1).length ≤ 8 * st.1 ∧ Fresh w.heap.size w' st.2 (hk m cols st.1)) (fun st => rows - st.1) (0, .slice Al 0 0) ⟨rfl, rfl, rfl, rfl, rfl, trivial⟩
    ⟨hul, Nat.zero_le _, Nat.zero_le _, _, OwnV.list_mk hol, fun b hb => by simp only [List.mem_singleton] at hb; omega⟩ ?_
  rintro T0 ⟨i, out⟩ w2 ⟨hu, hi, hl1, fp, ho, hfp⟩
  simp only at hi hl1 ho ⊢
  refine cmp (fun hlt => ?_) (fun hlt => ?_)
  rotate_left
  · have : i = rows := by omega
    subst this
    exact ⟨_, rfl, ⟨fp, ho, hfp⟩, hu⟩
  have hlt' : i < rows := by omega
  have hrc' := hrc (by omega)
  have hr2 := hr.ext_ hS hu
  obtain ⟨b0, o0, A0, n0, c0, hA0, _, hc0, hi0, hv0⟩ := hr2.atM h0
  subst hA0
  have en0 : n0 = (m.getD 0 (0, [])).2.length := by rw [e0]; exact hv0.1
  subst en0
  have hsub := RdL.sub hr2 (show i + 1 ≤ i + 1 + cols by omega) (show i + 1 + cols ≤ m.length by omega)
  have hbl : ((m.drop (i + 1)).take (i + 1 + cols - (i + 1))) = (m.drop (i + 1)).take cols := by congr 1; omega
  rw [hbl] at hsub
  have hcl : i + 1 + cols - (i + 1) = cols := by omega
  obtain ⟨Ao, no, co, rfl, hol2⟩ := ho.list
  have eno := hol2.n_eq
  refine held (Upd fp w2) [(false, 0), (false, 1), (false, 2), (false, 3), (false, 6), (false, 7), (false, 8), (false, 9), (false, 10), (false, 11), (false, 12), (false, 13), (true, 4), (false, 5), (true, 14), (true, 15), (false, 16)] mixed (by kernel_rfl) ((ext_drewN 1).mono (fun _ h => by cases h)) ?_
  refine idx 0 rfl h0 ?_
  refine anyH (fun w' => fld gok rfl rfl rfl rfl ⟨rfl, rfl⟩) ?_
  refine ar (by omega) (ar (by omega) (ar (by omega) ?_))
  refine anyH (fun w' => sl gok rfl rfl (i + 1) (i + 1 + cols) (by omega) (by omega) (by omega) (by omega) ⟨rfl, rfl⟩) ?_
  refine load1 (hc0 1 _ rfl) (hold ((ext_drewN 1).mono (fun _ h => by cases h)) ?_)
  have hblen : ((m.drop (i + 1)).take cols).length = cols := by rw [List.length_take, List.length_drop]; omega
  refine call (beside_c _ ((m.drop (i + 1)).take cols) _ S _ ((RdV.list_mk hsub).drewN 1) (fun b hb => Nat.lt_of_lt_of_le (hS b hb) hu.size) hR8 (by omega) (fun k hk => ?_)) ?_
  · have hk' : i + 1 + k < m.length := by omega
    have ek : ((m.drop (i + 1)).take cols)[k] = m[i + 1 + k] := by simp
    rw [ek]
    obtain ⟨s1, s2⟩ := hsh _ hk'
    exact ⟨s1, fun u hu => by have := s2 u hu; omega⟩
  rintro _ w3 ⟨r, rfl, ⟨fr, hor, hfr⟩, hu3⟩
  have hu3' : Ext w2 w3 := (ext_drewN 1).trans hu3 (fun _ h => by cases h)
  refine ⟨_, rfl, hold (hu3'.mono (fun _ h => by cases h)) ?_⟩
  rw [bsAll_hk m i cols _ (by omega)] at hor
  obtain ⟨Ar, nr, cr, rfl, horL⟩ := hor.list
  have enr := horL.n_eq
  rw [hkBlk_len] at enr
  refine appRS gok rfl rfl (OwnL.ext hol2 hu3') horL (fun b hb h => ?_) (by omega) ?_
  · have := hfr b h; have := hol2.lt own_lt b hb
    have e : (w2.drewN 1).heap.size = w2.heap.size := rfl
    omega
  intro A' c' w4 fp4 ho4 hu4 hf4
  refine hold ((hu3'.mono (fun _ h => by cases h)).trans hu4 (fun b hb => .inl hb)) ?_
  refine ar (by omega) ?_
  refine ⟨(i + 1, _), ⟨rfl, rfl, rfl, rfl, rfl, trivial⟩, ⟨(hu.trans hu3' (fun _ h => by cases h)).trans (fp := []) hu4 (fun b hb => .inr (hfp b hb)), hlt', ?_, fp4, OwnV.list_mk ho4, fun b hb => ?_⟩, by simp only; omega⟩
  · simp only [hk, List.length_append, hkBlk_len]; omega
  · rcases hf4 b hb with h | h | h
    · exact hfp b h
    · have := hfr b h; have := hu.size
      have e : (w2.drewN 1).heap.size = w2.heap.size := rfl
      omega
    · exact Nat.le_trans (hu.trans hu3' (fun _ h => by cases h)).size h
end Go.Proofs.YtgnlfjlenjfffaaDoor
