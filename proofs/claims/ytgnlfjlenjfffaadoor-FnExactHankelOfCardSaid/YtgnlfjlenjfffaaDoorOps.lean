/-
  The engine's rules for operations on memory: make, a slice literal, append, a slice expression, a store into a row of one's own, a struct's parts. Conditions: the engine's table holds ('EngOk'); lengths in range.
-/
import Derived.Test.YtgnlfjlenjfffaaDoorMem
namespace Go.Proofs.YtgnlfjlenjfffaaDoor.RW
open Go
open Go.RowKit (Below)
open Rep

section
variable {P : Program} {G : Eng} {w : World}

/-! ### cells of one block written -/
theorem setCell_heap {g j : Nat} {cells : Array Value} {e : TypeId} {fr : Nat × Nat} (v : Value) (h : w.heap[g]? = some (.cells cells e fr)) :
    (w.setCell ⟨g, j, none⟩ v).heap[g]? = some (.cells (cells.setIfInBounds j v) e fr) := by
  simp [World.setCell, Array.getElem?_modify, h]
theorem setCells_heap (g : Nat) (e : TypeId) (fr : Nat × Nat) : ∀ (l : List Value) (o : Nat) (w : World) (cells : Array Value), w.heap[g]? = some (.cells cells e fr) → o + l.length ≤ cells.size →
    ∃ cells' : Array Value, (w.setCells g o l).heap[g]? = some (.cells cells' e fr) ∧ cells'.size = cells.size ∧ (∀ j, j < o → cells'[j]? = cells[j]?) ∧ (∀ j u, l[j]? = some u → cells'[o + j]? = some u)
  | [], o, w, cells, h, _ => ⟨cells, h, rfl, fun _ _ => rfl, fun j u hu => by simp at hu⟩
  | v :: l, o, w, cells, h, hs => by
    simp only [List.length_cons] at hs
    obtain ⟨cells', h1, h2, h3, h4⟩ := setCells_heap g e fr l (o + 1) (w.setCell ⟨g, o, none⟩ v) _ (setCell_heap v h) (by simp; omega)
    refine ⟨cells', h1, by simpa using h2, fun j hj => ?_, fun j u hu => ?_⟩
    · rw [h3 j (by omega), Array.getElem?_setIfInBounds_ne (by omega)]
    · cases j with
      | zero =>
        simp only [List.getElem?_cons_zero, Option.some.injEq] at hu
        subst hu
        rw [Nat.add_zero, h3 o (by omega), Array.getElem?_setIfInBounds_self_of_lt (by omega)]
      | succ j =>
        have := h4 j u (by simpa using hu)
        rwa [show o + 1 + j = o + (j + 1) from by omega] at this

theorem chk_get {cells : Array Value} {o s i j : Nat} (hj : j < s) : (chk cells o s i)[j]? = cells[o + i * s + j]? := by
  unfold chk
  rw [List.getElem?_take, if_pos hj, List.getElem?_drop, Array.getElem?_toList]
theorem chk_get_none {cells : Array Value} {o s i j : Nat} (hj : s ≤ j) : (chk cells o s i)[j]? = none := by
  unfold chk
  rw [List.getElem?_take, if_neg (by omega)]
theorem chk_congr {c c' : Array Value} {o o' s i i' : Nat} (h : ∀ j, j < s → c'[o' + i' * s + j]? = c[o + i * s + j]?) : chk c' o' s i' = chk c o s i := by
  apply List.ext_getElem?
  intro j
  by_cases hj : j < s
  · rw [chk_get hj, chk_get hj, h j hj]
  · rw [chk_get_none (by omega), chk_get_none (by omega)]
theorem chk_news {c : Array Value} {news : List Value} {o o' s i : Nat} (h : ∀ j, j < s → c[o + j]? = news[i * s + j]?) (hi : o = o' + i * s) : chk c o' s i = (news.drop (i * s)).take s := by
  apply List.ext_getElem?
  intro j
  by_cases hj : j < s
  · rw [chk_get hj, ← hi, h j hj, List.getElem?_take, if_pos hj, List.getElem?_drop]
  · rw [chk_get_none (by omega), List.getElem?_take, if_neg (by omega)]

/-! ### the rows -/
theorem flatten_nodup_append {g : Nat} {a b : List (List Nat)} (h : ((g :: a.flatten) ++ b.flatten).Nodup) : (g :: (a ++ b).flatten).Nodup := by
  rw [List.flatten_append, ← List.cons_append]; exact h

/-- append: onto nil or onto a row of one's own -/
theorem append_own {α : Type} {s : Nat} {q : World → List Nat → List Value → α → Prop} (ok : EngOk P G) {t e ty st bt be : Nat} {zt ze : Value} {ke : TK}
    (ht : nthO G.tt t = some ⟨.slice e, st, bt, zt⟩) (he : nthO G.tt e = some ⟨ke, s, be, ze⟩) (hz : ze.cells.size = s)
    {fp : List Nat} {A : Option Addr} {n c : Nat} {xs : List α} (hown : OwnG s q w fp A n c xs)
    (hq : ∀ (w' : World) f cs x, Upd (fp.take 1) w w' → (∀ b ∈ f, b ∉ fp.take 1) → q w f cs x → q w' f cs x)
    {x : Value} {m : Nat} {news : List Value} (hsrc : Src P s t x m news w)
    (ys : List α) (fpy : List (List Nat)) (hm : ys.length = m) (hl : fpy.length = m) (hy : ∀ i (h : i < ys.length) (h' : i < fpy.length), q w fpy[i] ((news.drop (i * s)).take s) ys[i])
    (hlt : ∀ b ∈ fp ++ fpy.flatten, b < w.heap.size) (hnd : (fp ++ fpy.flatten).Nodup) (hb : (n + m) * be ≤ 140737488355328) (hmax : n + m ≤ maxLen) {K : Value → World → Prop}
    (hK : ∀ A' c' w' fp', OwnG s q w' fp' A' (n + m) c' (xs ++ ys) → Upd (fp.take 1) w w' → (∀ b ∈ fp', b ∈ fp ∨ b ∈ fpy.flatten ∨ w.heap.size ≤ b) → K (.slice A' (n + m) c') w') :
    ERun P (Builtin.append_ #[t, t] ty #[.slice A n c, x]) w K := by
  have hu := und_slice (und_of ok ht)
  obtain ⟨i, hi, hiz, his, hib⟩ := inf_of ok he
  simp only at his hib hiz
  subst his
  subst hib
  subst hm
  have hnl := hsrc.newsLen
  have hn := hown.n_eq
  have hmm : maxLen = 9223372036854775807 := rfl
  -- a new row
  have grow : ∀ (A0 : Option Addr) (olds : List Value), A0 = A → c < n + ys.length → (Builtin.firstCells i.size n (.slice A n c)).run P w.drew = .ok olds.toArray w.drew → olds.length = n * i.size →
      (∀ fps : List (List Nat), (fp = [] ∧ xs = [] ∧ fps = []) ∨ (∃ g, fp = g :: fps.flatten) → fps.length = xs.length → (∀ k (h : k < xs.length) (h' : k < fps.length), q w fps[k] ((olds.drop (k * i.size)).take i.size) xs[k]) →
      ERun P (Builtin.append_ #[t, t] ty #[.slice A n c, x]) w K) := by
    intro _ olds _ hc hold hol fps hfp hfl hqs
    have hfit : Builtin.nextslicecap (n + ys.length) c * i.bytes ≤ 281474976710656 := growslice_fits hc hb
    have hr := run_append_grow_src (P := P) w t t ty e i ze hu hi hiz A n c olds hold x ys.length news hsrc hc (by omega) hfit
    refine erun_of hr ?_
    have hge : n + ys.length ≤ grownCap w (n + ys.length) c e := grownCap_ge _ _ _ _
    have hle : grownCap w (n + ys.length) c e ≤ maxLen := grownCap_le_maxLen _ _ _ _ hmax
    have hupd : Upd (fp.take 1) w (w.drew.alloc (.cells ((olds ++ news).toArray ++ Builtin.zeroCells ze.cells (grownCap w (n + ys.length) c e - (n + ys.length))) e)) :=
      ((Upd.drew w).trans0 (Upd.alloc w.drew _)).mono (fun _ h => by cases h)
    have hsub : ∀ b ∈ fps.flatten, b ∈ fp := by
      rcases hfp with ⟨_, _, rfl⟩ | ⟨g, rfl⟩
      · intro b hb; cases hb
      · intro b hb; exact List.mem_cons_of_mem _ hb
    have hnd2 : (fps.flatten ++ fpy.flatten).Nodup := by
      rcases hfp with ⟨_, _, rfl⟩ | ⟨g, rfl⟩
      · simpa using hnd.sublist (List.sublist_append_right _ _)
      · exact hnd.sublist (List.Sublist.append_right (List.sublist_cons_self _ _) _)
    have hg1 : ∀ b ∈ fps.flatten ++ fpy.flatten, b ∉ fp.take 1 := by
      rcases hfp with ⟨rfl, _, rfl⟩ | ⟨g, rfl⟩
      · intro b _ hb; cases hb
      · intro b hb hb'
        simp only [List.take_succ_cons, List.take_zero, List.mem_singleton] at hb'
        subst hb'
        rw [List.cons_append, List.nodup_cons] at hnd
        exact hnd.1 hb
    have hlt2 : ∀ b ∈ fps.flatten ++ fpy.flatten, b < w.heap.size := by
      intro b hb
      refine hlt b ?_
      rcases List.mem_append.1 hb with h | h
      · exact List.mem_append_left _ (hsub b h)
      · exact List.mem_append_right _ h
    refine hK _ _ _ (w.heap.size :: (fps ++ fpy).flatten) (.inr ⟨w.heap.size, 0, _, e, fps ++ fpy, rfl, heap_alloc_new w.drew _, by rw [List.length_append, hn], hge, hle, ?_, by rw [List.length_append, List.length_append, hfl, hl], rfl, ?_, ?_⟩) hupd ?_
    · simp only [Array.size_append, List.size_toArray, List.length_append, size_zeroCells, hz, hol, hnl, ← Nat.add_mul]
      rw [Nat.zero_add]
      refine Nat.mul_le_mul_right _ ?_
      omega
    · rw [List.flatten_append, List.nodup_cons]
      exact ⟨fun h => by have := hlt2 _ h; omega, hnd2⟩
    · intro k hk hk'
      by_cases hkx : k < xs.length
      · have e1 : (fps ++ fpy)[k] = fps[k]'(by omega) := List.getElem_append_left (by omega)
        have e2 : (xs ++ ys)[k] = xs[k] := List.getElem_append_left hkx
        rw [e1, e2]
        have e3 : chk ((olds ++ news).toArray ++ Builtin.zeroCells ze.cells (grownCap w (n + ys.length) c e - (n + ys.length))) 0 i.size k = (olds.drop (k * i.size)).take i.size := by
          refine chk_news (o := k * i.size) ?_ (by omega)
          intro j hj
          have : k * i.size + j < olds.length := by
            rw [hol, hn]
            have : (k + 1) * i.size ≤ xs.length * i.size := Nat.mul_le_mul_right _ hkx
            rw [Nat.add_mul] at this; omega
          rw [Array.getElem?_append_left (by simp; omega), List.getElem?_toArray, List.getElem?_append_left this]
        rw [e3]
        refine hq _ _ _ _ hupd (fun b hb => hg1 b (List.mem_append_left _ (List.mem_flatten.2 ⟨_, List.getElem_mem _, hb⟩))) (hqs k hkx (by omega))
      · have hk2 : k - xs.length < ys.length := by rw [List.length_append] at hk; omega
        have e1 : (fps ++ fpy)[k] = fpy[k - xs.length]'(by omega) := by rw [List.getElem_append_right (by omega)]; simp only [hfl]
        have e2 : (xs ++ ys)[k] = ys[k - xs.length] := List.getElem_append_right (by omega)
        rw [e1, e2]
        have e3 : chk ((olds ++ news).toArray ++ Builtin.zeroCells ze.cells (grownCap w (n + ys.length) c e - (n + ys.length))) 0 i.size k = (news.drop ((k - xs.length) * i.size)).take i.size := by
          apply List.ext_getElem?
          intro j
          by_cases hj : j < i.size
          · have hlt3 : (k - xs.length) * i.size + j < news.length := by
              rw [hnl]
              have : (k - xs.length + 1) * i.size ≤ ys.length * i.size := Nat.mul_le_mul_right _ hk2
              rw [Nat.add_mul] at this; omega
            have hpos : 0 + k * i.size + j = olds.length + ((k - xs.length) * i.size + j) := by
              rw [hol, hn]
              have : k * i.size = xs.length * i.size + (k - xs.length) * i.size := by rw [← Nat.add_mul]; congr 1; omega
              omega
            rw [chk_get hj, List.getElem?_take, if_pos hj, List.getElem?_drop, hpos, Array.getElem?_append_left (by simp; omega), List.getElem?_toArray, List.getElem?_append_right (by omega), Nat.add_sub_cancel_left]
          · rw [chk_get_none (by omega), List.getElem?_take, if_neg (by omega)]
        rw [e3]
        refine hq _ _ _ _ hupd (fun b hb => hg1 b (List.mem_append_right _ (List.mem_flatten.2 ⟨_, List.getElem_mem _, hb⟩))) (hy _ hk2 (by omega))
    · intro b hb
      rcases List.mem_cons.1 hb with rfl | hb
      · exact .inr (.inr (Nat.le_refl _))
      · rw [List.flatten_append] at hb
        rcases List.mem_append.1 hb with h | h
        · exact .inl (hsub b h)
        · exact .inr (.inl h)
  rcases hown with ⟨rfl, rfl, rfl, rfl, rfl⟩ | ⟨g, o, cells, e', fps, rfl, hg, _, hnc, hcm, hsz, hfl, rfl, hnd0, hqs⟩
  · by_cases hy0 : ys.length = 0
    · -- nothing onto nil
      have hys : ys = [] := List.eq_nil_of_length_eq_zero hy0
      subst hys
      have hnews : news = [] := List.eq_nil_of_length_eq_zero (by simpa using hnl)
      subst hnews
      have hr : (Builtin.append_ #[t, t] ty #[.slice none 0 0, x]).run P w = .ok (.slice none 0 0) w := by
        have h1 := hsrc.len w
        have h2 := hsrc.cells
        simp only [List.length_nil] at h1 h2
        simp [Builtin.append_, run_underlying hu, sizeOf, typeInfo, hi, h1, h2]
      refine erun_of hr ?_
      exact hK none 0 w [] (.inl ⟨rfl, rfl, rfl, rfl, rfl⟩) (Upd.refl _ _) (fun b hb => by cases hb)
    · exact grow none [] rfl (by omega) (by simp [Builtin.firstCells]) (by simp) [] (.inl ⟨rfl, rfl, rfl⟩) rfl (fun k hk => by simp at hk)
  · by_cases hroom : n + ys.length ≤ c
    · have hr := run_append_room_src (P := P) w t t ty e i hu hi g o n c x ys.length news hsrc hroom
        (fun j hj => by
          rw [cell_of_row w g _ cells e' (0, 0) hg]
          have : o + n * i.size + j < cells.size := by
            have h1 : (n + ys.length) * i.size ≤ c * i.size := Nat.mul_le_mul_right _ hroom
            rw [Nat.add_mul] at h1; omega
          simp [this])
        (fun j _ => frozen_of_row w g _ cells e' hg)
      refine erun_of hr ?_
      obtain ⟨cells', hc1, hc2, hc3, hc4⟩ := setCells_heap g e' (0, 0) news (o + n * i.size) w cells hg (by
        have h1 : (n + ys.length) * i.size ≤ c * i.size := Nat.mul_le_mul_right _ hroom
        rw [Nat.add_mul] at h1; omega)
      have hupd : Upd [g] w (w.setCells g (o + n * i.size) news) := Upd.setCells g _ news w
      have hng : ∀ b ∈ fps.flatten ++ fpy.flatten, b ∉ [g] := by
        intro b hb hb'
        simp only [List.mem_singleton] at hb'
        subst hb'
        rw [List.cons_append, List.nodup_cons] at hnd
        exact hnd.1 hb
      refine hK _ _ _ (g :: (fps ++ fpy).flatten) (.inr ⟨g, o, cells', e', fps ++ fpy, rfl, hc1, by rw [List.length_append, hn], hroom, hcm, by omega, by rw [List.length_append, List.length_append, hfl, hl], rfl, ?_, ?_⟩) hupd ?_
      · rw [List.flatten_append]; exact hnd
      · intro k hk hk'
        by_cases hkx : k < xs.length
        · have e1 : (fps ++ fpy)[k] = fps[k]'(by omega) := List.getElem_append_left (by omega)
          have e2 : (xs ++ ys)[k] = xs[k] := List.getElem_append_left hkx
          rw [e1, e2]
          have e3 : chk cells' o i.size k = chk cells o i.size k := by
            refine chk_congr fun j hj => hc3 _ ?_
            have : (k + 1) * i.size ≤ n * i.size := Nat.mul_le_mul_right _ (by omega)
            rw [Nat.add_mul] at this; omega
          rw [e3]
          exact hq _ _ _ _ hupd (fun b hb => hng b (List.mem_append_left _ (List.mem_flatten.2 ⟨_, List.getElem_mem _, hb⟩))) (hqs k hkx (by omega))
        · have hk2 : k - xs.length < ys.length := by rw [List.length_append] at hk; omega
          have e1 : (fps ++ fpy)[k] = fpy[k - xs.length]'(by omega) := by rw [List.getElem_append_right (by omega)]; simp only [hfl]
          have e2 : (xs ++ ys)[k] = ys[k - xs.length] := List.getElem_append_right (by omega)
          rw [e1, e2]
          have e3 : chk cells' o i.size k = (news.drop ((k - xs.length) * i.size)).take i.size := by
            apply List.ext_getElem?
            intro j
            by_cases hj : j < i.size
            · have hlt3 : (k - xs.length) * i.size + j < news.length := by
                rw [hnl]
                have : (k - xs.length + 1) * i.size ≤ ys.length * i.size := Nat.mul_le_mul_right _ hk2
                rw [Nat.add_mul] at this; omega
              have hpos : o + k * i.size + j = o + n * i.size + ((k - xs.length) * i.size + j) := by
                rw [hn]
                have : k * i.size = xs.length * i.size + (k - xs.length) * i.size := by rw [← Nat.add_mul]; congr 1; omega
                omega
              rw [chk_get hj, List.getElem?_take, if_pos hj, List.getElem?_drop, hpos, List.getElem?_eq_getElem hlt3]
              exact hc4 _ _ (List.getElem?_eq_getElem hlt3)
            · rw [chk_get_none (by omega), List.getElem?_take, if_neg (by omega)]
          rw [e3]
          exact hq _ _ _ _ hupd (fun b hb => hng b (List.mem_append_right _ (List.mem_flatten.2 ⟨_, List.getElem_mem _, hb⟩))) (hy _ hk2 (by omega))
      · intro b hb
        rw [List.flatten_append] at hb
        rcases List.mem_cons.1 hb with rfl | hb
        · exact .inl (List.mem_cons_self ..)
        · rcases List.mem_append.1 hb with h | h
          · exact .inl (List.mem_cons_of_mem _ h)
          · exact .inr (.inl h)
    · have hrd : ∀ j u, ((cells.toList.drop o).take (n * i.size))[j]? = some u → w.drew.cell? ((⟨g, o, none⟩ : Addr).add j) = some u := by
        intro j u hj
        rw [Addr.add_lit]
        show w.cell? _ = _
        rw [cell_of_row w g _ cells e' (0, 0) hg]
        rw [List.getElem?_take] at hj
        split at hj
        · rw [List.getElem?_drop] at hj; rw [← Array.getElem?_toList]; exact hj
        · cases hj
      have hol : ((cells.toList.drop o).take (n * i.size)).length = n * i.size := by
        rw [List.length_take, List.length_drop, Array.length_toList]
        have h1 : n * i.size ≤ c * i.size := Nat.mul_le_mul_right _ hnc
        omega
      refine grow (some ⟨g, o, none⟩) ((cells.toList.drop o).take (n * i.size)) rfl (by omega) (run_firstCells_some w.drew i.size n ⟨g, o, none⟩ n c _ hol hrd) hol fps (.inr ⟨g, rfl⟩) hfl ?_
      intro k hk hk'
      have e3 : (((cells.toList.drop o).take (n * i.size)).drop (k * i.size)).take i.size = chk cells o i.size k := by
        unfold chk
        rw [List.drop_take, List.drop_drop, List.take_take]
        congr 1
        have : (k + 1) * i.size ≤ n * i.size := Nat.mul_le_mul_right _ (by omega)
        rw [Nat.add_mul] at this; omega
      rw [e3]
      exact hqs k hk hk'
end
end Go.Proofs.YtgnlfjlenjfffaaDoor.RW
