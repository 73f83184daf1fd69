/-
  Elements of a slice of one's own: read them, change them, put others in their place. Conditions: the engine's table holds ('EngOk'); the index is in range.
-/
import Derived.Test.YtgnlfjlenjfffaaDoorOps4
import Derived.Test.YtgnlfjlenjfffaaDoorHeld
namespace Go.Proofs.YtgnlfjlenjfffaaDoor.RW
open Go
open Go.RowKit (Below)
open Rep

section
variable {P : Program} {G : Eng} {w : World}

theorem flat_mem {fps : List (List Nat)} {k : Nat} {fr : List Nat} {x : Nat} (h : x ∈ (fps.set k fr).flatten) : x ∈ fr ∨ x ∈ fps.flatten := by
  obtain ⟨l, hl, hx⟩ := List.mem_flatten.1 h
  rcases List.mem_or_eq_of_mem_set hl with h1 | rfl
  · exact .inr (List.mem_flatten.2 ⟨l, h1, hx⟩)
  · exact .inl hx
theorem flat_set_nodup {g : Nat} {fps : List (List Nat)} {k : Nat} (hk : k < fps.length) {fr : List Nat} (h : (g :: fps.flatten).Nodup) (hr : fr.Nodup) (hd : ∀ b ∈ fr, b ∈ fps[k] ∨ b ∉ g :: fps.flatten) : (g :: (fps.set k fr).flatten).Nodup := by
  have hs : fps = fps.take k ++ fps[k] :: fps.drop (k + 1) := by rw [List.getElem_cons_drop, List.take_append_drop]
  have hset : fps.set k fr = fps.take k ++ fr :: fps.drop (k + 1) := List.set_eq_take_append_cons_drop .. |>.trans (by rw [if_pos hk])
  rw [hset]
  have h2 := h
  rw [hs] at h2
  simp only [List.flatten_append, List.flatten_cons, List.nodup_cons, List.nodup_append, List.mem_append, not_or] at h2 ⊢
  obtain ⟨⟨a1, a2, a3⟩, a4, ⟨a5, a6, a7⟩, a8⟩ := h2
  have hd' : ∀ b ∈ fr, b ∈ fps[k] ∨ (b ≠ g ∧ b ∉ (fps.take k).flatten ∧ b ∉ (fps.drop (k + 1)).flatten) := by
    intro b hb
    rcases hd b hb with h | h
    · exact .inl h
    · refine .inr ?_
      rw [hs] at h
      simp only [List.flatten_append, List.flatten_cons, List.mem_cons, List.mem_append, not_or] at h
      exact ⟨h.1, h.2.1, h.2.2.2⟩
  refine ⟨⟨a1, fun hg => ?_, a3⟩, a4, ⟨hr, a6, fun x hx y hy e => ?_⟩, fun x hx y hy e => ?_⟩
  · rcases hd' g hg with h | h
    · exact a2 h
    · exact h.1 rfl
  · subst e
    rcases hd' x hx with h | h
    · exact a7 x h x hy rfl
    · exact h.2.2 hy
  · subst e
    rcases hy with hy | hy
    · rcases hd' x hy with h | h
      · exact a8 x hx x (.inl h) rfl
      · exact h.2.1 hx
    · exact a8 x hx x (.inr hy) rfl

theorem setCells_far (g : Nat) (e : TypeId) (fr : Nat × Nat) : ∀ (l : List Value) (o : Nat) (w : World) (cells : Array Value), w.heap[g]? = some (.cells cells e fr) → o + l.length ≤ cells.size →
    ∀ c2 : Array Value, (w.setCells g o l).heap[g]? = some (.cells c2 e fr) → ∀ j, o + l.length ≤ j → c2[j]? = cells[j]?
  | [], o, w, cells, h, _, c2, h2, j, _ => by
    have h2 : w.heap[g]? = some (.cells c2 e fr) := h2
    rw [h] at h2; simp only [Option.some.injEq, Obj.cells.injEq] at h2; rw [h2.1]
  | v :: l, o, w, cells, h, hs, c2, h2, j, hj => by
    simp only [List.length_cons] at hs hj
    have := setCells_far g e fr l (o + 1) (w.setCell ⟨g, o, none⟩ v) _ (setCell_heap v h) (by simp; omega) c2 h2 j (by omega)
    rw [this, Array.getElem?_setIfInBounds_ne (by omega)]

/-- element k of a slice of one's own, and what becomes of the slice when it is changed -/
theorem OwnL.chg {α : Type} [Rep α] {fp : List Nat} {A : Option Addr} {n c k : Nat} {xs : List α} (h : OwnL w fp A n c xs) (hk : k < xs.length) :
    ∃ g o cells e fk, A = some ⟨g, o, none⟩ ∧ w.heap[g]? = some (.cells cells e (0, 0)) ∧ o + n * sz α ≤ cells.size ∧ g ∈ fp ∧ own w fk (chk cells o (sz α) k) xs[k] ∧ (∀ b ∈ fk, b ∈ fp) ∧ g ∉ fk ∧
      ∀ (w' : World) (cells' : Array Value) (fr f : List Nat) (y : α), w'.heap[g]? = some (.cells cells' e (0, 0)) → cells'.size = cells.size → (∀ i, i ≠ k → i < xs.length → chk cells' o (sz α) i = chk cells o (sz α) i) →
        own w' fr (chk cells' o (sz α) k) y → (∀ b ∈ fr, b ∈ fk ∨ b ∉ fp) → Upd f w w' → (∀ b ∈ f, b = g ∨ b ∈ fk ∨ b ∉ fp) →
        ∃ fp', OwnL w' fp' A n c (xs.set k y) ∧ (∀ b ∈ fp', b ∈ fp ∨ b ∈ fr) ∧ (fr = fk → fp' = fp) := by
  rcases h with ⟨_, _, _, rfl, _⟩ | ⟨g, o, cells, e, fps, rfl, hg, hn, hnc, hcm, hsz, hl, rfl, hnd, hqs⟩
  · simp at hk
  · have hkf : k < fps.length := by omega
    have hnc' : n * sz α ≤ c * sz α := Nat.mul_le_mul_right _ hnc
    have hgf : g ∉ fps.flatten := (List.nodup_cons.1 hnd).1
    have hfm : ∀ b ∈ fps[k], b ∈ fps.flatten := fun b hb => List.mem_flatten.2 ⟨_, List.getElem_mem hkf, hb⟩
    refine ⟨g, o, cells, e, fps[k], rfl, hg, by omega, by simp, hqs k hk hkf, fun b hb => List.mem_cons_of_mem _ (hfm b hb), fun hb => hgf (hfm g hb), ?_⟩
    intro w' cells' fr f y hg' hs' hch hy hfr hu hf
    have hset : (fps.set k fr).length = (xs.set k y).length := by simpa using hl
    refine ⟨g :: (fps.set k fr).flatten, .inr ⟨g, o, cells', e, fps.set k fr, rfl, hg', by simpa using hn, hnc, hcm, by omega, hset, rfl, flat_set_nodup hkf hnd (own_nodup hy) hfr, ?_⟩, fun b hb => ?_, fun he => ?_⟩
    · intro i hi hi'
      simp only [List.length_set] at hi hi'
      by_cases hik : i = k
      · subst hik; simpa using hy
      · have e1 : (fps.set k fr)[i]'(by simpa using hi') = fps[i] := List.getElem_set_ne (Ne.symm hik) _
        have e2 : (xs.set k y)[i]'(by simpa using hi) = xs[i] := List.getElem_set_ne (Ne.symm hik) _
        rw [e1, e2, hch i hik hi]
        refine own_keep (fun b hb => hu.block b (own_lt (hqs i hi hi') b hb) (fun hbf => ?_)) (hqs i hi hi')
        have hbi : b ∈ fps.flatten := List.mem_flatten.2 ⟨_, List.getElem_mem hi', hb⟩
        rcases hf b hbf with rfl | h | h
        · exact hgf hbi
        · have hp := (List.pairwise_flatten.1 (List.nodup_cons.1 hnd).2).2
          rw [List.pairwise_iff_getElem] at hp
          rcases Nat.lt_or_gt_of_ne hik with h1 | h1
          · exact hp i k hi' hkf h1 b hb b h rfl
          · exact hp k i hkf hi' h1 b h b hb rfl
        · exact h (List.mem_cons_of_mem _ hbi)
    · rcases List.mem_cons.1 hb with rfl | hb
      · exact .inl (by simp)
      · rcases flat_mem hb with h | h
        · exact .inr h
        · exact .inl (List.mem_cons_of_mem _ h)
    · subst he; rw [List.set_getElem_self]

/-- out[k] = row, both one's own -/
theorem stR {α : Type} [Rep α] {fp fr : List Nat} {a : Addr} {n c k : Nat} {xs : List (List α)} {v : Value} {y : List α} (hown : OwnL w fp (some a) n c xs) (hk : k < xs.length) (hy : OwnV w fr v y) (hd : ∀ b ∈ fr, b ∉ fp) {K : World → Prop}
    (hK : ∀ w' fp', OwnL w' fp' (some a) n c (xs.set k y) → Upd fp w w' → (∀ b ∈ fp', b ∈ fp ∨ b ∈ fr) → K w') : EStore (.pointer (some (a.add (k * 1)))) v w K := by
  have hn := hown.n_eq
  obtain ⟨g, o, cells, e, fk, ha, hg, hsz, hgf, _, hfk, hgk, hch⟩ := hown.chg hk
  obtain ⟨A', n', c', rfl, hy'⟩ := hy.list
  simp only [Option.some.injEq] at ha
  subst ha
  have hs1 : sz (List α) = 1 := rfl
  rw [hs1] at hsz
  have hlt : o + k * 1 < cells.size := by omega
  have hgr : g ∉ fr := fun h => hd g h hgf
  have hu : Upd [g] w (w.setCell ⟨g, o + k * 1, none⟩ (.slice A' n' c')) := Upd.setCell w ⟨g, o + k * 1, none⟩ (.slice A' n' c')
  refine .mk ?_
  refine ⟨_, cells[o + k * 1], rfl, ?_, ?_, rfl, ?_⟩
  · rw [Addr.add_lit, cell_of_row w g _ cells e (0, 0) hg, Array.getElem?_eq_getElem hlt]
  · rw [Addr.add_lit]; exact frozen_of_row w g _ cells e hg
  · rw [Addr.add_lit]
    have hold : own (w.setCell ⟨g, o + k * 1, none⟩ (.slice A' n' c')) fr (chk (cells.setIfInBounds (o + k * 1) (.slice A' n' c')) o (sz (List α)) k) y := ?_
    · obtain ⟨fp', h1, h2, _⟩ := hch _ _ fr [g] y (setCell_heap (.slice A' n' c') hg) (by simp) (fun i hi hil => chk_congr fun j hj => by
          rw [hs1] at hj
          rw [hs1]
          have hne : o + k * 1 ≠ o + i * 1 + j := by omega
          rw [Array.getElem?_setIfInBounds_ne hne]) hold (fun b hb => .inr (hd b hb)) hu (fun b hb => .inl (by simpa using hb))
      exact hK _ fp' h1 (hu.mono fun b hb => .inl (by simp only [List.mem_singleton] at hb; subst hb; exact hgf)) h2
    · refine ⟨A', n', c', ?_, OwnL.upd hy' hu (fun b hb h => hgr (by simp only [List.mem_singleton] at h; subst h; exact hb))⟩
      show chk _ _ 1 k = _
      apply List.ext_getElem?
      intro j
      by_cases hj : j < 1
      · obtain rfl : j = 0 := by omega
        rw [chk_get (by decide), Nat.add_zero, Array.getElem?_setIfInBounds_self_of_lt hlt]
        rfl
      · rw [chk_get_none (by omega), List.getElem?_eq_none (by simp; omega)]

/-- out[k] = a struct of one's own parts -/
theorem stRA {α : Type} [Rep α] (ok : EngOk P G) {t bb : Nat} {ke : TK} {z : Value} {fp fr : List Nat} {a : Addr} {n c k : Nat} {xs : List α} {cs : Array Value} {y : α} (ht : nthO G.tt t = some ⟨ke, sz α, bb, z⟩) (hown : OwnL w fp (some a) n c xs) (hk : k < xs.length) (hy : own w fr cs.toList y) (hd : ∀ b ∈ fr, b ∉ fp) {K : World → Prop}
    (hK : ∀ w' fp', OwnL w' fp' (some a) n c (xs.set k y) → Upd fp w w' → (∀ b ∈ fp', b ∈ fp ∨ b ∈ fr) → K w') : EDo P (Instr.storeAt t (.pointer (some (a.add (k * sz α)))) (.agg cs)) w K := by
  have hn := hown.n_eq
  obtain ⟨g, o, cells, e, fk, ha, hg, hsz, hgf, _, hfk, hgk, hch⟩ := hown.chg hk
  simp only [Option.some.injEq] at ha
  subst ha
  have hcl : cs.size = sz α := by have := rd_len (own_rd hy); simpa using this
  have hone : cs.all (·.oneCell') = true := by
    rw [Array.all_eq_true']
    intro u hu
    exact rd_one (own_rd hy) u (by simpa using hu)
  have hkn : (k + 1) * sz α ≤ n * sz α := Nat.mul_le_mul_right _ (by omega)
  rw [Nat.add_mul, Nat.one_mul] at hkn
  obtain ⟨i, hi, hiz, his, hib⟩ := inf_of ok ht
  simp only at his
  have hth : w.there g (o + k * sz α) cs.size := fun j hj => by
    refine ⟨?_, frozen_of_row w g _ cells e hg⟩
    rw [cell_of_row w g _ cells e (0, 0) hg, Array.getElem?_eq_getElem (by omega)]; rfl
  have hr := run_storeAt_mid (P := P) w g (o + k * sz α) t cs hth (by rw [hi]; simp [his, hcl]) hone
  obtain ⟨c2, k1, k2, k3, k4⟩ := setCells_heap g e (0, 0) cs.toList (o + k * sz α) w cells hg (by simp; omega)
  have k5 := setCells_far g e (0, 0) cs.toList (o + k * sz α) w cells hg (by simp; omega) c2 k1
  have hu : Upd [g] w (w.setCells g (o + k * sz α) cs.toList) := Upd.setCells g _ _ w
  refine .mk ?_
  refine ⟨_, by rw [Addr.add_lit]; exact hr, ?_⟩
  have hgr : g ∉ fr := fun h => hd g h hgf
  have hfar : ∀ i, i ≠ k → i < xs.length → chk c2 o (sz α) i = chk cells o (sz α) i := by
    intro i hik hil
    refine chk_congr fun j hj => ?_
    rcases Nat.lt_or_gt_of_ne hik with h | h
    · have : (i + 1) * sz α ≤ k * sz α := Nat.mul_le_mul_right _ (by omega)
      rw [Nat.add_mul, Nat.one_mul] at this
      exact k3 _ (by omega)
    · have : (k + 1) * sz α ≤ i * sz α := Nat.mul_le_mul_right _ (by omega)
      rw [Nat.add_mul, Nat.one_mul] at this
      exact k5 _ (by simp; omega)
  have hold : own (w.setCells g (o + k * sz α) cs.toList) fr (chk c2 o (sz α) k) y := by
    have e1 : chk c2 o (sz α) k = cs.toList := by
      apply List.ext_getElem?
      intro j
      by_cases hj : j < sz α
      · rw [chk_get hj]
        have := k4 j cs[j] (by simp [hcl, hj])
        rw [this]; simp [hcl, hj]
      · rw [chk_get_none (by omega), List.getElem?_eq_none (by simp; omega)]
    rw [e1]
    exact own_keep (fun b hb => hu.block b (own_lt hy b hb) (fun h => hgr (by simp only [List.mem_singleton] at h; subst h; exact hb))) hy
  obtain ⟨fp', h1, h2, _⟩ := hch _ _ fr [g] y k1 k2 hfar hold (fun b hb => .inr (hd b hb)) hu (fun b hb => .inl (by simpa using hb))
  exact hK _ fp' h1 (hu.mono fun b hb => .inl (by simp only [List.mem_singleton] at hb; subst hb; exact hgf)) h2
end
end Go.Proofs.YtgnlfjlenjfffaaDoor.RW
