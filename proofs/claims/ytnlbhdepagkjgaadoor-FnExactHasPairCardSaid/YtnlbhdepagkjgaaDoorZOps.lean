/-
  The engine's rules for operations on memory, over the state of a walk. Conditions: the engine's table holds ('EngOk'); lengths in range.
-/
import Derived.Test.YtnlbhdepagkjgaaDoorZMem
import Derived.Deep.MidRow
namespace Go.Proofs.YtnlbhdepagkjgaaDoor.RW
open Go
open Go.RowKit (Below)
open Rep

section
variable {P : Program} {G : Eng} {w : World}

/-! ### cells of one block written -/
theorem setCell_heap {g j : Nat} {cells : Array Value} {e : TypeId} {fr : Nat × Nat} (v : Value) (h : w.heap[g]? = some (.cells cells e fr)) :
    (w.setCell ⟨g, j, none⟩ v).heap[g]? = some (.cells (cells.setIfInBounds j v) e fr) := by
  simp [World.setCell, Array.getElem?_modify, h]
theorem setCells_heap (g : Nat) (e : TypeId) (fr : Nat × Nat) : ∀ (l : List Value) (o : Nat) (w : World) (cells : Array Value), w.heap[g]? = some (.cells cells e fr) → o + l.length ≤ cells.size →
    ∃ cells' : Array Value, (w.setCells g o l).heap[g]? = some (.cells cells' e fr) ∧ cells'.size = cells.size ∧ (∀ j, j < o → cells'[j]? = cells[j]?) ∧ (∀ j u, l[j]? = some u → cells'[o + j]? = some u)
  | [], o, w, cells, h, _ => ⟨cells, h, rfl, fun _ _ => rfl, fun j u hu => by simp at hu⟩
  | v :: l, o, w, cells, h, hs => by
    simp only [List.length_cons] at hs
    obtain ⟨cells', h1, h2, h3, h4⟩ := setCells_heap g e fr l (o + 1) (w.setCell ⟨g, o, none⟩ v) _ (setCell_heap v h) (by simp; omega)
    refine ⟨cells', h1, by simpa using h2, fun j hj => ?_, fun j u hu => ?_⟩
    · rw [h3 j (by omega), Array.getElem?_setIfInBounds_ne (by omega)]
    · cases j with
      | zero =>
        simp only [List.getElem?_cons_zero, Option.some.injEq] at hu
        subst hu
        rw [Nat.add_zero, h3 o (by omega), Array.getElem?_setIfInBounds_self_of_lt (by omega)]
      | succ j =>
        have := h4 j u (by simpa using hu)
        rwa [show o + 1 + j = o + (j + 1) from by omega] at this

theorem chk_get {cells : Array Value} {o s i j : Nat} (hj : j < s) : (chk cells o s i)[j]? = cells[o + i * s + j]? := by
  unfold chk
  rw [List.getElem?_take, if_pos hj, List.getElem?_drop, Array.getElem?_toList]
theorem chk_get_none {cells : Array Value} {o s i j : Nat} (hj : s ≤ j) : (chk cells o s i)[j]? = none := by
  unfold chk
  rw [List.getElem?_take, if_neg (by omega)]
theorem chk_congr {c c' : Array Value} {o o' s i i' : Nat} (h : ∀ j, j < s → c'[o' + i' * s + j]? = c[o + i * s + j]?) : chk c' o' s i' = chk c o s i := by
  apply List.ext_getElem?
  intro j
  by_cases hj : j < s
  · rw [chk_get hj, chk_get hj, h j hj]
  · rw [chk_get_none (by omega), chk_get_none (by omega)]
theorem chk_news {c : Array Value} {news : List Value} {o o' s i : Nat} (h : ∀ j, j < s → c[o + j]? = news[i * s + j]?) (hi : o = o' + i * s) : chk c o' s i = (news.drop (i * s)).take s := by
  apply List.ext_getElem?
  intro j
  by_cases hj : j < s
  · rw [chk_get hj, ← hi, h j hj, List.getElem?_take, if_pos hj, List.getElem?_drop]
  · rw [chk_get_none (by omega), List.getElem?_take, if_neg (by omega)]

/-! ### the rows -/

/-- append: onto nil or onto a row of one's own -/
theorem append_own {α : Type} {s : Nat} {q : World → List Nat → List Value → α → Prop} {t t2 e ty st bt be : Nat} {zt ze : Value} {ke : TK} {fp : List Nat} {A : Option Addr} {n c : Nat} {xs : List α} {x : Value} {m : Nat} {news : List Value} {K : Value → World → Prop} (ok : EngOk P G) (ht : nthO G.tt t = some ⟨.slice e, st, bt, zt⟩) (he : nthO G.tt e = some ⟨ke, s, be, ze⟩) (hz : ze.cells.size = s) (hown : OwnG s q w fp A n c xs) (hq : ∀ (w' : World) f cs x, Upd (fp.take 1) w w' → (∀ b ∈ f, b ∉ fp.take 1) → q w f cs x → q w' f cs x) (hsrc : Src P s t2 x m news w) (ys : List α) (fpy : List (List Nat)) (hm : ys.length = m) (hl : fpy.length = m) (hy : ∀ i (h : i < ys.length) (h' : i < fpy.length), q w fpy[i] ((news.drop (i * s)).take s) ys[i]) (hlt : ∀ b ∈ fp ++ fpy.flatten, b < w.heap.size) (hnd : (fp ++ fpy.flatten).Nodup) (hb : (n + m) * be ≤ 140737488355328) (hmax : n + m ≤ maxLen) (hK : ∀ A' c' w' fp', OwnG s q w' fp' A' (n + m) c' (xs ++ ys) → Upd (fp.take 1) w w' → (∀ b ∈ fp', b ∈ fp ∨ b ∈ fpy.flatten ∨ w.heap.size ≤ b) → K (.slice A' (n + m) c') w') :
    ERun P (Builtin.append_ #[t, t2] ty #[.slice A n c, x]) w K := by
  have hu := und_slice (und_of ok ht)
  obtain ⟨i, hi, hiz, his, hib⟩ := inf_of ok he
  simp only at his hib hiz
  subst his
  subst hib
  subst hm
  have hnl := hsrc.newsLen
  have hn := hown.n_eq
  have hmm : maxLen = 9223372036854775807 := rfl
  -- a new row
  have grow : ∀ (A0 : Option Addr) (olds : List Value), A0 = A → c < n + ys.length → (Builtin.firstCells i.size n (.slice A n c)).run P w.drew = .ok olds.toArray w.drew → olds.length = n * i.size →
      (∀ fps : List (List Nat), (fp = [] ∧ xs = [] ∧ fps = []) ∨ (∃ g, fp = g :: fps.flatten) → fps.length = xs.length → (∀ k (h : k < xs.length) (h' : k < fps.length), q w fps[k] ((olds.drop (k * i.size)).take i.size) xs[k]) →
      ERun P (Builtin.append_ #[t, t2] ty #[.slice A n c, x]) w K) := by
    intro _ olds _ hc hold hol fps hfp hfl hqs
    have hfit : Builtin.nextslicecap (n + ys.length) c * i.bytes ≤ 281474976710656 := growslice_fits hc hb
    have hr := run_append_grow_src (P := P) w t t2 ty e i ze hu hi hiz A n c olds hold x ys.length news hsrc hc (by omega) hfit
    refine erun_of hr ?_
    have hge : n + ys.length ≤ grownCap w (n + ys.length) c e := grownCap_ge _ _ _ _
    have hle : grownCap w (n + ys.length) c e ≤ maxLen := grownCap_le_maxLen _ _ _ _ hmax
    have hupd : Upd (fp.take 1) w (w.drew.alloc (.cells ((olds ++ news).toArray ++ Builtin.zeroCells ze.cells (grownCap w (n + ys.length) c e - (n + ys.length))) e)) :=
      ((Upd.drew w).trans0 (Upd.alloc w.drew _)).mono (fun _ h => by cases h)
    have hsub : ∀ b ∈ fps.flatten, b ∈ fp := by
      rcases hfp with ⟨_, _, rfl⟩ | ⟨g, rfl⟩
      · intro b hb; cases hb
      · intro b hb; exact List.mem_cons_of_mem _ hb
    have hnd2 : (fps.flatten ++ fpy.flatten).Nodup := by
      rcases hfp with ⟨_, _, rfl⟩ | ⟨g, rfl⟩
      · simpa using hnd.sublist (List.sublist_append_right _ _)
      · exact hnd.sublist (List.Sublist.append_right (List.sublist_cons_self _ _) _)
    have hg1 : ∀ b ∈ fps.flatten ++ fpy.flatten, b ∉ fp.take 1 := by
      rcases hfp with ⟨rfl, _, rfl⟩ | ⟨g, rfl⟩
      · intro b _ hb; cases hb
      · intro b hb hb'
        simp only [List.take_succ_cons, List.take_zero, List.mem_singleton] at hb'
        subst hb'
        rw [List.cons_append, List.nodup_cons] at hnd
        exact hnd.1 hb
    have hlt2 : ∀ b ∈ fps.flatten ++ fpy.flatten, b < w.heap.size := by
      intro b hb
      refine hlt b ?_
      rcases List.mem_append.1 hb with h | h
      · exact List.mem_append_left _ (hsub b h)
      · exact List.mem_append_right _ h
    refine hK _ _ _ (w.heap.size :: (fps ++ fpy).flatten) (.inr ⟨w.heap.size, 0, _, e, fps ++ fpy, rfl, heap_alloc_new w.drew _, by rw [List.length_append, hn], hge, hle, ?_, by rw [List.length_append, List.length_append, hfl, hl], rfl, ?_, ?_⟩) hupd ?_
    · simp only [Array.size_append, List.size_toArray, List.length_append, size_zeroCells, hz, hol, hnl, ← Nat.add_mul]
      rw [Nat.zero_add]
      refine Nat.mul_le_mul_right _ ?_
      omega
    · rw [List.flatten_append, List.nodup_cons]
      exact ⟨fun h => by have := hlt2 _ h; omega, hnd2⟩
    · intro k hk hk'
      by_cases hkx : k < xs.length
      · have e1 : (fps ++ fpy)[k] = fps[k]'(by omega) := List.getElem_append_left (by omega)
        have e2 : (xs ++ ys)[k] = xs[k] := List.getElem_append_left hkx
        rw [e1, e2]
        have e3 : chk ((olds ++ news).toArray ++ Builtin.zeroCells ze.cells (grownCap w (n + ys.length) c e - (n + ys.length))) 0 i.size k = (olds.drop (k * i.size)).take i.size := by
          refine chk_news (o := k * i.size) ?_ (by omega)
          intro j hj
          have : k * i.size + j < olds.length := by
            rw [hol, hn]
            have : (k + 1) * i.size ≤ xs.length * i.size := Nat.mul_le_mul_right _ hkx
            rw [Nat.add_mul] at this; omega
          rw [Array.getElem?_append_left (by simp; omega), List.getElem?_toArray, List.getElem?_append_left this]
        rw [e3]
        refine hq _ _ _ _ hupd (fun b hb => hg1 b (List.mem_append_left _ (List.mem_flatten.2 ⟨_, List.getElem_mem _, hb⟩))) (hqs k hkx (by omega))
      · have hk2 : k - xs.length < ys.length := by rw [List.length_append] at hk; omega
        have e1 : (fps ++ fpy)[k] = fpy[k - xs.length]'(by omega) := by rw [List.getElem_append_right (by omega)]; simp only [hfl]
        have e2 : (xs ++ ys)[k] = ys[k - xs.length] := List.getElem_append_right (by omega)
        rw [e1, e2]
        have e3 : chk ((olds ++ news).toArray ++ Builtin.zeroCells ze.cells (grownCap w (n + ys.length) c e - (n + ys.length))) 0 i.size k = (news.drop ((k - xs.length) * i.size)).take i.size := by
          apply List.ext_getElem?
          intro j
          by_cases hj : j < i.size
          · have hlt3 : (k - xs.length) * i.size + j < news.length := by
              rw [hnl]
              have : (k - xs.length + 1) * i.size ≤ ys.length * i.size := Nat.mul_le_mul_right _ hk2
              rw [Nat.add_mul] at this; omega
            have hpos : 0 + k * i.size + j = olds.length + ((k - xs.length) * i.size + j) := by
              rw [hol, hn]
              have : k * i.size = xs.length * i.size + (k - xs.length) * i.size := by rw [← Nat.add_mul]; congr 1; omega
              omega
            rw [chk_get hj, List.getElem?_take, if_pos hj, List.getElem?_drop, hpos, Array.getElem?_append_left (by simp; omega), List.getElem?_toArray, List.getElem?_append_right (by omega), Nat.add_sub_cancel_left]
          · rw [chk_get_none (by omega), List.getElem?_take, if_neg (by omega)]
        rw [e3]
        refine hq _ _ _ _ hupd (fun b hb => hg1 b (List.mem_append_right _ (List.mem_flatten.2 ⟨_, List.getElem_mem _, hb⟩))) (hy _ hk2 (by omega))
    · intro b hb
      rcases List.mem_cons.1 hb with rfl | hb
      · exact .inr (.inr (Nat.le_refl _))
      · rw [List.flatten_append] at hb
        rcases List.mem_append.1 hb with h | h
        · exact .inl (hsub b h)
        · exact .inr (.inl h)
  rcases hown with ⟨rfl, rfl, rfl, rfl, rfl⟩ | ⟨g, o, cells, e', fps, rfl, hg, _, hnc, hcm, hsz, hfl, rfl, hnd0, hqs⟩
  · by_cases hy0 : ys.length = 0
    · -- nothing onto nil
      have hys : ys = [] := List.eq_nil_of_length_eq_zero hy0
      subst hys
      have hnews : news = [] := List.eq_nil_of_length_eq_zero (by simpa using hnl)
      subst hnews
      have hr : (Builtin.append_ #[t, t2] ty #[.slice none 0 0, x]).run P w = .ok (.slice none 0 0) w := by
        have h1 := hsrc.len w
        have h2 := hsrc.cells
        simp only [List.length_nil] at h1 h2
        rcases hsrc.kind with ⟨e', hk⟩ | hk <;> simp [Builtin.append_, run_underlying hu, run_underlying hk, sizeOf, typeInfo, hi, h1, h2]
      refine erun_of hr ?_
      exact hK none 0 w [] (.inl ⟨rfl, rfl, rfl, rfl, rfl⟩) (Upd.refl _ _) (fun b hb => by cases hb)
    · exact grow none [] rfl (by omega) (by simp [Builtin.firstCells]) (by simp) [] (.inl ⟨rfl, rfl, rfl⟩) rfl (fun k hk => by simp at hk)
  · by_cases hroom : n + ys.length ≤ c
    · have hr := run_append_room_src (P := P) w t t2 ty e i hu hi g o n c x ys.length news hsrc hroom
        (fun j hj => by
          rw [cell_of_row w g _ cells e' (0, 0) hg]
          have : o + n * i.size + j < cells.size := by
            have h1 : (n + ys.length) * i.size ≤ c * i.size := Nat.mul_le_mul_right _ hroom
            rw [Nat.add_mul] at h1; omega
          simp [this])
        (fun j _ => frozen_of_row w g _ cells e' hg)
      refine erun_of hr ?_
      obtain ⟨cells', hc1, hc2, hc3, hc4⟩ := setCells_heap g e' (0, 0) news (o + n * i.size) w cells hg (by
        have h1 : (n + ys.length) * i.size ≤ c * i.size := Nat.mul_le_mul_right _ hroom
        rw [Nat.add_mul] at h1; omega)
      have hupd : Upd [g] w (w.setCells g (o + n * i.size) news) := Upd.setCells g _ news w
      have hng : ∀ b ∈ fps.flatten ++ fpy.flatten, b ∉ [g] := by
        intro b hb hb'
        simp only [List.mem_singleton] at hb'
        subst hb'
        rw [List.cons_append, List.nodup_cons] at hnd
        exact hnd.1 hb
      refine hK _ _ _ (g :: (fps ++ fpy).flatten) (.inr ⟨g, o, cells', e', fps ++ fpy, rfl, hc1, by rw [List.length_append, hn], hroom, hcm, by omega, by rw [List.length_append, List.length_append, hfl, hl], rfl, ?_, ?_⟩) hupd ?_
      · rw [List.flatten_append]; exact hnd
      · intro k hk hk'
        by_cases hkx : k < xs.length
        · have e1 : (fps ++ fpy)[k] = fps[k]'(by omega) := List.getElem_append_left (by omega)
          have e2 : (xs ++ ys)[k] = xs[k] := List.getElem_append_left hkx
          rw [e1, e2]
          have e3 : chk cells' o i.size k = chk cells o i.size k := by
            refine chk_congr fun j hj => hc3 _ ?_
            have : (k + 1) * i.size ≤ n * i.size := Nat.mul_le_mul_right _ (by omega)
            rw [Nat.add_mul] at this; omega
          rw [e3]
          exact hq _ _ _ _ hupd (fun b hb => hng b (List.mem_append_left _ (List.mem_flatten.2 ⟨_, List.getElem_mem _, hb⟩))) (hqs k hkx (by omega))
        · have hk2 : k - xs.length < ys.length := by rw [List.length_append] at hk; omega
          have e1 : (fps ++ fpy)[k] = fpy[k - xs.length]'(by omega) := by rw [List.getElem_append_right (by omega)]; simp only [hfl]
          have e2 : (xs ++ ys)[k] = ys[k - xs.length] := List.getElem_append_right (by omega)
          rw [e1, e2]
          have e3 : chk cells' o i.size k = (news.drop ((k - xs.length) * i.size)).take i.size := by
            apply List.ext_getElem?
            intro j
            by_cases hj : j < i.size
            · have hlt3 : (k - xs.length) * i.size + j < news.length := by
                rw [hnl]
                have : (k - xs.length + 1) * i.size ≤ ys.length * i.size := Nat.mul_le_mul_right _ hk2
                rw [Nat.add_mul] at this; omega
              have hpos : o + k * i.size + j = o + n * i.size + ((k - xs.length) * i.size + j) := by
                rw [hn]
                have : k * i.size = xs.length * i.size + (k - xs.length) * i.size := by rw [← Nat.add_mul]; congr 1; omega
                omega
              rw [chk_get hj, List.getElem?_take, if_pos hj, List.getElem?_drop, hpos, List.getElem?_eq_getElem hlt3]
              exact hc4 _ _ (List.getElem?_eq_getElem hlt3)
            · rw [chk_get_none (by omega), List.getElem?_take, if_neg (by omega)]
          rw [e3]
          exact hq _ _ _ _ hupd (fun b hb => hng b (List.mem_append_right _ (List.mem_flatten.2 ⟨_, List.getElem_mem _, hb⟩))) (hy _ hk2 (by omega))
      · intro b hb
        rw [List.flatten_append] at hb
        rcases List.mem_cons.1 hb with rfl | hb
        · exact .inl (List.mem_cons_self ..)
        · rcases List.mem_append.1 hb with h | h
          · exact .inl (List.mem_cons_of_mem _ h)
          · exact .inr (.inl h)
    · have hrd : ∀ j u, ((cells.toList.drop o).take (n * i.size))[j]? = some u → w.drew.cell? ((⟨g, o, none⟩ : Addr).add j) = some u := by
        intro j u hj
        rw [Addr.add_lit]
        show w.cell? _ = _
        rw [cell_of_row w g _ cells e' (0, 0) hg]
        rw [List.getElem?_take] at hj
        split at hj
        · rw [List.getElem?_drop] at hj; rw [← Array.getElem?_toList]; exact hj
        · cases hj
      have hol : ((cells.toList.drop o).take (n * i.size)).length = n * i.size := by
        rw [List.length_take, List.length_drop, Array.length_toList]
        have h1 : n * i.size ≤ c * i.size := Nat.mul_le_mul_right _ hnc
        omega
      refine grow (some ⟨g, o, none⟩) ((cells.toList.drop o).take (n * i.size)) rfl (by omega) (run_firstCells_some w.drew i.size n ⟨g, o, none⟩ n c _ hol hrd) hol fps (.inr ⟨g, rfl⟩) hfl ?_
      intro k hk hk'
      have e3 : (((cells.toList.drop o).take (n * i.size)).drop (k * i.size)).take i.size = chk cells o i.size k := by
        unfold chk
        rw [List.drop_take, List.drop_drop, List.take_take]
        congr 1
        have : (k + 1) * i.size ≤ n * i.size := Nat.mul_le_mul_right _ (by omega)
        rw [Nat.add_mul] at this; omega
      rw [e3]
      exact hqs k hk hk'
end

section
variable {P : Program} {G : Eng} {w : World}
theorem flat_mem {fps : List (List Nat)} {k : Nat} {fr : List Nat} {x : Nat} (h : x ∈ (fps.set k fr).flatten) : x ∈ fr ∨ x ∈ fps.flatten := by
  obtain ⟨l, hl, hx⟩ := List.mem_flatten.1 h
  rcases List.mem_or_eq_of_mem_set hl with h1 | rfl
  · exact .inr (List.mem_flatten.2 ⟨l, h1, hx⟩)
  · exact .inl hx
theorem flat_set_nodup {g : Nat} {fps : List (List Nat)} {k : Nat} {fr : List Nat} (hk : k < fps.length) (h : (g :: fps.flatten).Nodup) (hr : fr.Nodup) (hd : ∀ b ∈ fr, b ∈ fps[k] ∨ b ∉ g :: fps.flatten) : (g :: (fps.set k fr).flatten).Nodup := by
  have hs : fps = fps.take k ++ fps[k] :: fps.drop (k + 1) := by rw [List.getElem_cons_drop, List.take_append_drop]
  have hset : fps.set k fr = fps.take k ++ fr :: fps.drop (k + 1) := List.set_eq_take_append_cons_drop .. |>.trans (by rw [if_pos hk])
  rw [hset]
  have h2 := h
  rw [hs] at h2
  simp only [List.flatten_append, List.flatten_cons, List.nodup_cons, List.nodup_append, List.mem_append, not_or] at h2 ⊢
  obtain ⟨⟨a1, a2, a3⟩, a4, ⟨a5, a6, a7⟩, a8⟩ := h2
  have hd' : ∀ b ∈ fr, b ∈ fps[k] ∨ (b ≠ g ∧ b ∉ (fps.take k).flatten ∧ b ∉ (fps.drop (k + 1)).flatten) := by
    intro b hb
    rcases hd b hb with h | h
    · exact .inl h
    · refine .inr ?_
      rw [hs] at h
      simp only [List.flatten_append, List.flatten_cons, List.mem_cons, List.mem_append, not_or] at h
      exact ⟨h.1, h.2.1, h.2.2.2⟩
  refine ⟨⟨a1, fun hg => ?_, a3⟩, a4, ⟨hr, a6, fun x hx y hy e => ?_⟩, fun x hx y hy e => ?_⟩
  · rcases hd' g hg with h | h
    · exact a2 h
    · exact h.1 rfl
  · subst e
    rcases hd' x hx with h | h
    · exact a7 x h x hy rfl
    · exact h.2.2 hy
  · subst e
    rcases hy with hy | hy
    · rcases hd' x hy with h | h
      · exact a8 x hx x (.inl h) rfl
      · exact h.2.1 hx
    · exact a8 x hx x (.inr hy) rfl

/-- element k of a slice of one's own, and what becomes of the slice when it is changed -/
theorem OwnG.chg {α : Type} {s : Nat} {q : World → List Nat → List Value → α → Prop} {fp : List Nat} {A : Option Addr} {n c k : Nat} {xs : List α} (h : OwnG s q w fp A n c xs) (hk : k < xs.length)
    (qlt : ∀ {w f cs x}, q w f cs x → ∀ b ∈ f, b < w.heap.size) (qnd : ∀ {w f cs x}, q w f cs x → f.Nodup) :
    ∃ g o cells e fk, A = some ⟨g, o, none⟩ ∧ w.heap[g]? = some (.cells cells e (0, 0)) ∧ o + n * s ≤ cells.size ∧ g ∈ fp ∧ q w fk (chk cells o s k) xs[k] ∧ (∀ b ∈ fk, b ∈ fp) ∧ g ∉ fk ∧
      ∀ (w' : World) (cells' : Array Value) (fr f : List Nat) (y : α), w'.heap[g]? = some (.cells cells' e (0, 0)) → cells'.size = cells.size → (∀ i, i ≠ k → i < xs.length → chk cells' o s i = chk cells o s i) →
        q w' fr (chk cells' o s k) y → (∀ b ∈ fr, b ∈ fk ∨ b ∉ fp) → Upd f w w' → (∀ b ∈ f, b = g ∨ b ∈ fk ∨ b ∉ fp) → (∀ f' cs x, (∀ b ∈ f', w'.heap[b]? = w.heap[b]?) → q w f' cs x → q w' f' cs x) →
        ∃ fp', OwnG s q w' fp' A n c (xs.set k y) ∧ (∀ b ∈ fp', b ∈ fp ∨ b ∈ fr) := by
  rcases h with ⟨_, _, _, rfl, _⟩ | ⟨g, o, cells, e, fps, rfl, hg, hn, hnc, hcm, hsz, hl, rfl, hnd, hqs⟩
  · simp at hk
  · have hkf : k < fps.length := by omega
    have hnc' : n * s ≤ c * s := Nat.mul_le_mul_right _ hnc
    have hgf : g ∉ fps.flatten := (List.nodup_cons.1 hnd).1
    have hfm : ∀ b ∈ fps[k], b ∈ fps.flatten := fun b hb => List.mem_flatten.2 ⟨_, List.getElem_mem hkf, hb⟩
    refine ⟨g, o, cells, e, fps[k], rfl, hg, by omega, by simp, hqs k hk hkf, fun b hb => List.mem_cons_of_mem _ (hfm b hb), fun hb => hgf (hfm g hb), ?_⟩
    intro w' cells' fr f y hg' hs' hch hy hfr hu hf hqk
    have hset : (fps.set k fr).length = (xs.set k y).length := by simpa using hl
    refine ⟨g :: (fps.set k fr).flatten, .inr ⟨g, o, cells', e, fps.set k fr, rfl, hg', by simpa using hn, hnc, hcm, by omega, hset, rfl, flat_set_nodup hkf hnd (qnd hy) hfr, ?_⟩, fun b hb => ?_⟩
    · intro i hi hi'
      simp only [List.length_set] at hi hi'
      by_cases hik : i = k
      · subst hik; simpa using hy
      · have e1 : (fps.set k fr)[i]'(by simpa using hi') = fps[i] := List.getElem_set_ne (Ne.symm hik) _
        have e2 : (xs.set k y)[i]'(by simpa using hi) = xs[i] := List.getElem_set_ne (Ne.symm hik) _
        rw [e1, e2, hch i hik hi]
        refine hqk _ _ _ (fun b hb => hu.block b (qlt (hqs i hi hi') b hb) (fun hbf => ?_)) (hqs i hi hi')
        have hbi : b ∈ fps.flatten := List.mem_flatten.2 ⟨_, List.getElem_mem hi', hb⟩
        rcases hf b hbf with rfl | h | h
        · exact hgf hbi
        · have hp := (List.pairwise_flatten.1 (List.nodup_cons.1 hnd).2).2
          rw [List.pairwise_iff_getElem] at hp
          rcases Nat.lt_or_gt_of_ne hik with h1 | h1
          · exact hp i k hi' hkf h1 b hb b h rfl
          · exact hp k i hkf hi' h1 b h b hb rfl
        · exact h (List.mem_cons_of_mem _ hbi)
    · rcases List.mem_cons.1 hb with rfl | hb
      · exact .inl (by simp)
      · rcases flat_mem hb with h | h
        · exact .inr h
        · exact .inl (List.mem_cons_of_mem _ h)

/-! ### zero values -/
/-- a type whose zero cells read as a zero -/
class RepZ (α : Type) [Rep α] where
  zero : α
  zg : Gh α
  own_zero : ∀ w S, own w S [] zero zg
instance : RepZ Int := ⟨0, (), fun _ _ => rfl⟩
instance : RepZ Bool := ⟨false, (), fun _ _ => rfl⟩
instance {α : Type} [Rep α] : RepZ (List α) := ⟨[], nilH, fun _ _ => .inl ⟨rfl, rfl, rfl, rfl, rfl⟩⟩
instance {α β : Type} [Rep α] [Rep β] [RepZ α] [RepZ β] : RepZ (α × β) := ⟨(RepZ.zero, RepZ.zero), (RepZ.zg, RepZ.zg), fun w S => ⟨[], [], rfl, RepZ.own_zero w S, RepZ.own_zero w S, List.nodup_nil⟩⟩
instance {α : Type} [Rep α] [RepZ α] : RepZ (Sh α) := ⟨(RepZ.zero : α), (RepZ.zg : Gh α), fun w S => ⟨rfl, rd_mono (fun b hb => by rcases hb with h | h; exact h; cases h) (own_rd (RepZ.own_zero w S))⟩⟩
open RepZ

theorem chk_made {zs : List Value} {n s i : Nat} (hz : zs.length = s) (hi : i < n) : chk (madeCells zs.toArray (n * s)) 0 s i = zs := by
  apply List.ext_getElem?
  intro j
  by_cases hj : j < s
  · rw [chk_get hj]
    have h1 : (i + 1) * s ≤ n * s := Nat.mul_le_mul_right _ hi
    rw [Nat.add_mul] at h1
    have h2 : 0 + i * s + j < n * s := by omega
    have h3 : (0 + i * s + j) % s = j := by rw [Nat.zero_add, Nat.mul_comm, Nat.mul_add_mod, Nat.mod_eq_of_lt hj]
    unfold madeCells
    rw [Array.getElem?_map, Array.getElem?_range, if_pos h2]
    simp only [List.size_toArray, hz, Option.map_some, h3]
    rw [List.getElem?_eq_getElem (by omega)]
    simp [hz, hj]
  · rw [chk_get_none (by omega), List.getElem?_eq_none (by omega)]

/-- []T{x}: one element, laid into a block of its own -/
theorem lit1_ {t e st bt be se : Nat} {zt ze : Value} {ke : TK} {x : Value} (ok : EngOk P G) (ht : nthO G.tt t = some ⟨.slice e, st, bt, zt⟩) (he : nthO G.tt e = some ⟨ke, se, be, ze⟩) (h0 : 0 < se) (h24 : se ≤ 16777216) (hx : x.cells.size = se) (h1 : ∀ u ∈ x.cells.toList, u.oneCell' = true) : (Instr.buildSlice t 1 #[(0, x)]).run P w = .ok (.slice (some ⟨w.heap.size, 0, none⟩) 1 1) (w.alloc (.cells x.cells e)) := by
  have hu := und_slice (und_of ok ht)
  obtain ⟨i, hi, hiz, his, hib⟩ := inf_of ok he
  simp only at his hib hiz
  have key : ∀ (l : List Value) (k : Nat) (cs : Array Value), cs.size = k + l.length → (l.zipIdx k).foldl (fun (cs : Array Value) (c, j) => cs.setIfInBounds (0 + j) c) cs = ((cs.toList.take k) ++ l).toArray := by
    intro l
    induction l with
    | nil => intro k cs h; simp at h; subst h; apply Array.ext'; simp [← Array.length_toList]
    | cons v l ih =>
      intro k cs h
      simp only [List.length_cons] at h
      rw [List.zipIdx_cons, List.foldl_cons, ih _ _ (by simp; omega)]
      congr 1
      simp only [Nat.zero_add, Array.toList_setIfInBounds]
      rw [List.take_succ_eq_append_getElem (by simp; omega)]
      rw [List.take_set_of_le (Nat.le_refl _)]
      simp
  have hfill : Instr.fill (fun i => some (i * se, se)) ((Array.range (1 * se)).map (ze.cells[· % ze.cells.size]!)) [(0, x)] = some x.cells := by
    simp only [Instr.fill, Nat.zero_mul, hx, ne_eq, not_true_eq_false, Nat.zero_add, Array.size_map, Array.size_range, Nat.one_mul, gt_iff_lt, Nat.lt_irrefl, if_false, decide_false, Bool.or_self, Bool.false_eq_true]
    have := key x.cells.toList 0 ((Array.range se).map (ze.cells[· % ze.cells.size]!)) (by simp [hx])
    simp only [List.take_zero, List.nil_append, Array.toArray_toList] at this
    congr 1
    rw [← Array.foldl_toList, Array.toList_zipIdx]
    simpa using this
  have hr : (Instr.buildSlice t 1 #[(0, x)]).run P w = .ok (.slice (some ⟨w.heap.size, 0, none⟩) 1 1) (w.alloc (.cells x.cells e)) := by
    have hne : ¬ (se = 0) := by omega
    have hle : ¬ (16777216 < se) := by omega
    simp only [Instr.buildSlice, Sem.run_bind, run_underlying hu, Result.andThen_ok, sizeOf, typeInfo, run_program, hi, Sem.run_pure, his, Nat.one_mul]
    simp only [Nat.one_mul] at hfill
    simp [hne, hle, zeroValue, typeInfo, hi, hiz, hfill, newRow]
  exact hr
end
end Go.Proofs.YtnlbhdepagkjgaaDoor.RW
