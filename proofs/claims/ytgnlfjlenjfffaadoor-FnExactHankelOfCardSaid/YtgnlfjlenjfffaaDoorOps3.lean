/-
  Rules in the shapes that Go texts have: append of one number, of a row, of a slice; stores; slice expressions. Conditions: the engine's table holds ('EngOk'); lengths in range.
-/
import Derived.Test.YtgnlfjlenjfffaaDoorOps2
namespace Go.Proofs.YtgnlfjlenjfffaaDoor.RW
open Go
open Go.RowKit (Below)
open Rep

section
variable {P : Program} {G : Eng} {w : World}

/-- borrowed elements: they are read in blocks of S -/
def bor {α : Type} [Rep α] (S : Nat → Prop) (w : World) (fp : List Nat) (cs : List Value) (x : α) : Prop := fp = [] ∧ rd w S cs x

theorem own_hq {α : Type} [Rep α] {g : List Nat} (w' : World) (f : List Nat) (cs : List Value) (x : α) (hu : Upd g w w') (hd : ∀ b ∈ f, b ∉ g) (h : own w f cs x) : own w' f cs x :=
  own_keep (fun b hb => hu.block b (own_lt h b hb) (hd b hb)) h
theorem bor_hq {α : Type} [Rep α] {S : Nat → Prop} {g : List Nat} (hS : ∀ b, S b → b < w.heap.size ∧ b ∉ g) (w' : World) (f : List Nat) (cs : List Value) (x : α) (hu : Upd g w w') (_ : ∀ b ∈ f, b ∉ g) (h : bor S w f cs x) : bor S w' f cs x :=
  ⟨h.1, rd_keep (fun b hb => hu.block b (hS b hb).1 (hS b hb).2) h.2⟩
theorem OwnL.ext {α : Type} [Rep α] {fp : List Nat} {A : Option Addr} {n c : Nat} {xs : List α} {w' : World} (h : OwnL w fp A n c xs) (hu : Ext w w') : OwnL w' fp A n c xs :=
  h.keep own_keep (fun b hb => hu.block b (h.lt own_lt b hb) (by simp))
theorem OwnL.upd {α : Type} [Rep α] {fp f : List Nat} {A : Option Addr} {n c : Nat} {xs : List α} {w' : World} (h : OwnL w fp A n c xs) (hu : Upd f w w') (hd : ∀ b ∈ fp, b ∉ f) : OwnL w' fp A n c xs :=
  h.keep own_keep (fun b hb => hu.block b (h.lt own_lt b hb) (hd b hb))
theorem OwnL.rdL {α : Type} [Rep α] {fp : List Nat} {A : Option Addr} {n c : Nat} {xs : List α} (h : OwnL w fp A n c xs) : RdL w (· ∈ fp) A n c xs :=
  h.rdG (fun hf h => rd_mono hf (own_rd h)) (fun _ h => h)
/-- owned elements may be looked at as borrowed ones -/
theorem OwnL.bor_ {α : Type} [Rep α] {fp : List Nat} {A : Option Addr} {n c : Nat} {xs : List α} (h : OwnL w fp A n c xs) : ∃ g, OwnG (sz α) (bor (α := α) (· ∈ fp)) w g A n c xs ∧ (∀ b ∈ g, b ∈ fp) ∧ g = fp.take 1 := by
  rcases h with ⟨rfl, rfl, rfl, rfl, rfl⟩ | ⟨g, o, cells, e, fps, rfl, hg, hn, hnc, hcm, hsz, hl, rfl, hnd, hqs⟩
  · exact ⟨[], .inl ⟨rfl, rfl, rfl, rfl, rfl⟩, fun _ h => h, rfl⟩
  · refine ⟨[g], .inr ⟨g, o, cells, e, List.replicate xs.length [], rfl, hg, hn, hnc, hcm, hsz, by simp, by simp, by simp, ?_⟩, by simp, rfl⟩
    intro i hi hi'
    rw [List.getElem_replicate]
    exact ⟨rfl, rd_mono (fun b hb => List.mem_cons_of_mem _ (List.mem_flatten.2 ⟨_, List.getElem_mem _, hb⟩)) (own_rd (hqs i hi (by omega)))⟩

theorem cells_one {v : Value} (h : v.oneCell' = true) : v.cells = #[v] := by cases v <;> first | rfl | (simp [Value.oneCell'] at h)

/-- append(out, x): one number -/
theorem appI (ok : EngOk P G) {t e ty st bt : Nat} {zt : Value} {ke : TK}
    (ht : nthO G.tt t = some ⟨.slice e, st, bt, zt⟩) (he : nthO G.tt e = some ⟨ke, 1, 8, .int .i64 0⟩)
    {fp : List Nat} {A : Option Addr} {n c : Nat} {xs : List Int} (hown : OwnL w fp A n c xs) {x : Int} (hx : inI x) (hb : n ≤ 17592186044415) {K : Value → World → Value → World → Prop}
    (hK : ∀ v w1 A' c' w' fp', OwnL w' fp' A' (n + 1) c' (xs ++ [x]) → Upd fp w w' → (∀ b ∈ fp', b ∈ fp ∨ w.heap.size ≤ b) → K v w1 (.slice A' (n + 1) c') w') :
    ERun P (Instr.buildSlice t 1 #[(0, .int .i64 x)]) w (fun v w1 => ERun P (Builtin.append_ #[t, t] ty #[.slice A n c, v]) w1 (K v w1)) := by
  refine lit1 ok ht he (by omega) (by omega) rfl (fun u hu => by simp [Value.cells] at hu; subst hu; rfl) fun a w1 hu1 ha hc hsrc => ?_
  refine append_own ok ht he rfl (OwnL.ext hown hu1) own_hq hsrc [x] [[]] rfl rfl (fun i h h' => ?_) ?_ ?_ (by omega) (by unfold maxLen; omega) ?_
  · obtain rfl : i = 0 := by simp at h; omega
    exact ⟨rfl, rfl, hx⟩
  · intro b hb
    have : b ∈ fp := by simpa using hb
    exact Nat.lt_of_lt_of_le (hown.lt own_lt b this) hu1.size
  · simpa using hown.nodup
  · intro A' c' w' fp' ho hu hm
    refine hK _ _ _ _ _ _ ho (hu1.mono (fun _ h => by cases h) |>.trans (fp := fp) (hu.mono fun b hb => .inl (List.mem_of_mem_take hb)) (fun b hb => .inl hb)) fun b hb => ?_
    rcases hm b hb with h | h | h
    · exact .inl h
    · simp at h
    · exact .inr (Nat.le_trans hu1.size h)

/-- append(out, row): a row of one's own goes in -/
theorem appR {α : Type} [Rep α] (ok : EngOk P G) {t e ty st bt : Nat} {zt : Value} {ke : TK}
    (ht : nthO G.tt t = some ⟨.slice e, st, bt, zt⟩) (he : nthO G.tt e = some ⟨ke, 1, 24, .slice none 0 0⟩)
    {fp fr : List Nat} {A : Option Addr} {n c : Nat} {xs : List (List α)} (hown : OwnL w fp A n c xs) {r : Value} {x : List α} (hr : OwnV w fr r x) (hd : ∀ b ∈ fp, b ∉ fr) (hb : n ≤ 5864062014804) {K : Value → World → Value → World → Prop}
    (hK : ∀ v w1 A' c' w' fp', OwnL w' fp' A' (n + 1) c' (xs ++ [x]) → Upd fp w w' → (∀ b ∈ fp', b ∈ fp ∨ b ∈ fr ∨ w.heap.size ≤ b) → K v w1 (.slice A' (n + 1) c') w') :
    ERun P (Instr.buildSlice t 1 #[(0, r)]) w (fun v w1 => ERun P (Builtin.append_ #[t, t] ty #[.slice A n c, v]) w1 (K v w1)) := by
  obtain ⟨A', n', c', rfl, hr'⟩ := hr.list
  refine lit1 ok ht he (by omega) (by omega) rfl (fun u hu => by simp [Value.cells] at hu; subst hu; rfl) fun a w1 hu1 ha hc hsrc => ?_
  refine append_own ok ht he rfl (OwnL.ext hown hu1) own_hq hsrc [x] [fr] rfl rfl (fun i h h' => ?_) ?_ ?_ (by omega) (by unfold maxLen; omega) ?_
  · obtain rfl : i = 0 := by simp at h; omega
    exact ⟨A', n', c', rfl, OwnL.ext hr' hu1⟩
  · intro b hb
    have : b ∈ fp ∨ b ∈ fr := by simpa using hb
    rcases this with h | h
    · exact Nat.lt_of_lt_of_le (hown.lt own_lt b h) hu1.size
    · exact Nat.lt_of_lt_of_le (hr.lt b h) hu1.size
  · have : (fp ++ fr).Nodup := List.nodup_append.2 ⟨hown.nodup, hr.nodup, fun a ha b hb e => hd a ha (e ▸ hb)⟩
    simpa using this
  · intro A' c' w' fp' ho hu hm
    refine hK _ _ _ _ _ _ ho (hu1.mono (fun _ h => by cases h) |>.trans (fp := fp) (hu.mono fun b hb => .inl (List.mem_of_mem_take hb)) (fun b hb => .inl hb)) fun b hb => ?_
    rcases hm b hb with h | h | h
    · exact .inl h
    · exact .inr (.inl (by simpa using h))
    · exact .inr (.inr (Nat.le_trans hu1.size h))

/-- append(out, row): a borrowed row goes in; only the outer row is one's own -/
theorem appB {α : Type} [Rep α] (ok : EngOk P G) {t e ty st bt : Nat} {zt : Value} {ke : TK} {S : Nat → Prop}
    (ht : nthO G.tt t = some ⟨.slice e, st, bt, zt⟩) (he : nthO G.tt e = some ⟨ke, 1, 24, .slice none 0 0⟩)
    {fp : List Nat} {A : Option Addr} {n c : Nat} {xs : List (List α)} (hown : OwnG 1 (bor (α := List α) S) w fp A n c xs) {r : Value} {x : List α} (hr : RdV w S r x) (hS : ∀ b, S b → b < w.heap.size ∧ b ∉ fp) (hfl : ∀ b ∈ fp, b < w.heap.size) (hb : n ≤ 5864062014804) {K : Value → World → Value → World → Prop}
    (hK : ∀ v w1 A' c' w' fp', OwnG 1 (bor (α := List α) S) w' fp' A' (n + 1) c' (xs ++ [x]) → Upd fp w w' → (∀ b ∈ fp', b ∈ fp ∨ w.heap.size ≤ b) → (∀ b ∈ fp', b < w'.heap.size) → K v w1 (.slice A' (n + 1) c') w') :
    ERun P (Instr.buildSlice t 1 #[(0, r)]) w (fun v w1 => ERun P (Builtin.append_ #[t, t] ty #[.slice A n c, v]) w1 (K v w1)) := by
  obtain ⟨A', n', c', rfl, hr'⟩ := hr.list
  refine lit1 ok ht he (by omega) (by omega) rfl (fun u hu => by simp [Value.cells] at hu; subst hu; rfl) fun a w1 hu1 ha hc hsrc => ?_
  have hS1 : ∀ b, S b → b < w1.heap.size ∧ b ∉ fp.take 1 := fun b hb => ⟨Nat.lt_of_lt_of_le (hS b hb).1 hu1.size, fun h => (hS b hb).2 (List.mem_of_mem_take h)⟩
  have hown1 : OwnG 1 (bor (α := List α) S) w1 fp A n c xs := hown.keep (fun _ h => ⟨h.1, rd_keep (fun b hb => hu1.block b (hS b hb).1 (by simp)) h.2⟩) (fun b hb => hu1.block b (hfl b hb) (by simp))
  refine append_own ok ht he rfl hown1 (bor_hq hS1) hsrc [x] [[]] rfl rfl (fun i h h' => ?_) ?_ ?_ (by omega) (by unfold maxLen; omega) ?_
  · obtain rfl : i = 0 := by simp at h; omega
    exact ⟨rfl, A', n', c', rfl, hr'.keep (rd_keep fun b hb => hu1.block b (hS b hb).1 (by simp)) (fun b hb => hu1.block b (hS b hb).1 (by simp))⟩
  · intro b hb
    have : b ∈ fp := by simpa using hb
    exact Nat.lt_of_lt_of_le (hfl b this) hu1.size
  · simpa using hown.nodup
  · intro A' c' w' fp' ho hu hm
    refine hK _ _ _ _ _ _ ho (hu1.mono (fun _ h => by cases h) |>.trans (fp := fp) (hu.mono fun b hb => .inl (List.mem_of_mem_take hb)) (fun b hb => .inl hb)) (fun b hb => ?_) (fun b hb => ?_)
    · rcases hm b hb with h | h | h
      · exact .inl h
      · simp at h
      · exact .inr (Nat.le_trans hu1.size h)
    · rcases ho with ⟨_, h0, _⟩ | ⟨g, o, cells, e', fps, _, hg, _, _, _, _, _, rfl, _, hqs⟩
      · omega
      · rcases List.mem_cons.1 hb with rfl | hb
        · exact lt_of_some hg
        · obtain ⟨f, hf, hb⟩ := List.mem_flatten.1 hb
          obtain ⟨i, hi, rfl⟩ := List.mem_iff_getElem.1 hf
          rw [(hqs i (by omega) hi).1] at hb; cases hb

/-- the cells of a slice that is read -/
theorem rd_news {α : Type} [Rep α] {S : Nat → Prop} {b o : Nat} {xs : List α} (h : ∀ i (h : i < xs.length), ∃ cs, (∀ j u, cs[j]? = some u → w.cell? ⟨b, o + i * sz α + j, none⟩ = some u) ∧ rd w S cs xs[i]) (hs : 0 < sz α) :
    ∃ news : List Value, news.length = xs.length * sz α ∧ (∀ j u, news[j]? = some u → w.cell? ⟨b, o + j, none⟩ = some u) ∧ (∀ u ∈ news, u.oneCell' = true) ∧ ∀ i (h : i < xs.length), rd w S ((news.drop (i * sz α)).take (sz α)) xs[i] := by
  have hcell : ∀ j, j < xs.length * sz α → ∃ u, w.cell? ⟨b, o + j, none⟩ = some u ∧ u.oneCell' = true := by
    intro j hj
    have hi : j / sz α < xs.length := Nat.div_lt_of_lt_mul (by rwa [Nat.mul_comm])
    obtain ⟨cs, h1, h2⟩ := h _ hi
    have hm : j % sz α < cs.length := by rw [rd_len h2]; exact Nat.mod_lt _ hs
    have := h1 (j % sz α) _ (List.getElem?_eq_getElem hm)
    have e : o + j / sz α * sz α + j % sz α = o + j := by
      have := Nat.div_add_mod j (sz α)
      rw [Nat.mul_comm] at this; omega
    rw [e] at this
    exact ⟨_, this, rd_one h2 _ (List.getElem_mem _)⟩
  have hget : ∀ j, j < xs.length * sz α → ((List.range (xs.length * sz α)).map fun j => (w.cell? ⟨b, o + j, none⟩).getD undef)[j]? = w.cell? ⟨b, o + j, none⟩ := by
    intro j hj
    obtain ⟨u, hu, _⟩ := hcell j hj
    rw [List.getElem?_map, List.getElem?_range hj, hu]
    simp [hu]
  refine ⟨(List.range (xs.length * sz α)).map fun j => (w.cell? ⟨b, o + j, none⟩).getD undef, by simp, fun j u hj => ?_, fun u hu => ?_, fun i hi => ?_⟩
  · have hl : j < xs.length * sz α := by
      have := (List.getElem?_eq_some_iff.1 hj).1
      simpa using this
    rw [← hget j hl]; exact hj
  · obtain ⟨j, hj, rfl⟩ := List.mem_map.1 hu
    obtain ⟨u, hu', h1⟩ := hcell j (List.mem_range.1 hj)
    rw [hu']; exact h1
  · obtain ⟨cs, h1, h2⟩ := h i hi
    have : (((List.range (xs.length * sz α)).map fun j => (w.cell? ⟨b, o + j, none⟩).getD undef).drop (i * sz α)).take (sz α) = cs := by
      apply List.ext_getElem?
      intro j
      have hl := rd_len h2
      by_cases hj : j < sz α
      · have h3 : i * sz α + j < xs.length * sz α := by
          have : (i + 1) * sz α ≤ xs.length * sz α := Nat.mul_le_mul_right _ hi
          rw [Nat.add_mul] at this; omega
        rw [List.getElem?_take, if_pos hj, List.getElem?_drop, hget _ h3]
        have := h1 j cs[j] (List.getElem?_eq_getElem (by omega))
        rw [← Nat.add_assoc, this, List.getElem?_eq_getElem (by omega)]
      · rw [List.getElem?_take, if_neg hj, List.getElem?_eq_none (by omega)]
    rw [this]; exact h2

/-- append(out, xs...): a slice of numbers goes in -/
theorem appS (ok : EngOk P G) {t e ty st bt : Nat} {zt : Value} {ke : TK} {S : Nat → Prop}
    (ht : nthO G.tt t = some ⟨.slice e, st, bt, zt⟩) (he : nthO G.tt e = some ⟨ke, 1, 8, .int .i64 0⟩)
    {fp : List Nat} {A : Option Addr} {n c : Nat} {xs : List Int} (hown : OwnL w fp A n c xs) {A2 : Option Addr} {m c2 : Nat} {ys : List Int} (hy : RdL w S A2 m c2 ys) (hb : n + m ≤ 17592186044416) {K : Value → World → Prop}
    (hK : ∀ A' c' w' fp', OwnL w' fp' A' (n + m) c' (xs ++ ys) → Upd fp w w' → (∀ b ∈ fp', b ∈ fp ∨ w.heap.size ≤ b) → K (.slice A' (n + m) c') w') :
    ERun P (Builtin.append_ #[t, t] ty #[.slice A n c, .slice A2 m c2]) w K := by
  have hu := und_slice (und_of ok ht)
  have hsrc : ∃ news, Src P 1 t (.slice A2 m c2) m news w ∧ (∀ i (h : i < ys.length), rd (α := Int) w S ((news.drop (i * 1)).take 1) ys[i]) := by
    by_cases hp : 0 < ys.length
    · obtain ⟨b, o, rfl, _, hc⟩ := hy.2.2.2 hp
      obtain ⟨news, h1, h2, h3, h4⟩ := rd_news (α := Int) hc (by decide)
      exact ⟨news, Src.ofSlice w hu ⟨b, o, none⟩ m c2 news (by rw [h1, hy.1]; rfl) (fun j u hj => by rw [Addr.add_lit]; exact h2 j u hj) h3, h4⟩
    · have : ys = [] := List.eq_nil_of_length_eq_zero (by omega)
      subst this
      obtain rfl := hy.1
      refine ⟨[], ?_, fun i hi => by simp at hi⟩
      cases A2 with
      | none => exact Src.ofNil w hu c2
      | some a => exact Src.ofSlice w hu a 0 c2 [] rfl (fun j u hj => by simp at hj) (fun u hu => by cases hu)
  obtain ⟨news, hs, hq⟩ := hsrc
  refine append_own ok ht he rfl hown own_hq hs ys (List.replicate m []) (hy.1.symm) (by simp) (fun i h h' => ?_) ?_ ?_ (by omega) (by unfold maxLen; omega) ?_
  · rw [List.getElem_replicate]
    exact ⟨rfl, hq i h⟩
  · intro b hb
    have : b ∈ fp := by simpa using hb
    exact hown.lt own_lt b this
  · simpa using hown.nodup
  · intro A' c' w' fp' ho hu hm
    refine hK _ _ _ _ ho (hu.mono fun b hb => .inl (List.mem_of_mem_take hb)) fun b hb => ?_
    rcases hm b hb with h | h | h
    · exact .inl h
    · simp at h
    · exact .inr h

/-- out[k] = y, out a row of numbers of one's own -/
theorem stI {fp : List Nat} {a : Addr} {n c k : Nat} {xs : List Int} {y : Int} (hown : OwnL w fp (some a) n c xs) (hk : k < xs.length) (hy : inI y) {K : World → Prop}
    (hK : ∀ w', OwnL w' fp (some a) n c (xs.set k y) → Upd fp w w' → K w') : EStore (.pointer (some (a.add (k * 1)))) (.int .i64 y) w K := by
  rcases hown with ⟨h, _⟩ | ⟨g, o, cells, e, fps, ha, hg, hn, hnc, hcm, hsz, hl, rfl, hnd, hqs⟩
  · cases h
  · simp only [Option.some.injEq] at ha
    subst ha
    have hsz1 : o + c * 1 ≤ cells.size := hsz
    have hlt : o + k * 1 < cells.size := by omega
    refine .mk ?_
    refine ⟨_, cells[o + k * 1], rfl, ?_, ?_, rfl, hK _ (.inr ⟨g, o, cells.setIfInBounds (o + k * 1) (.int .i64 y), e, fps, rfl, ?_, by simpa using hn, hnc, hcm, by rw [Array.size_setIfInBounds]; exact hsz, by simpa using hl, rfl, hnd, ?_⟩) ?_⟩
    · rw [Addr.add_lit, cell_of_row w g _ cells e (0, 0) hg, Array.getElem?_eq_getElem hlt]
    · rw [Addr.add_lit]; exact frozen_of_row w g _ cells e hg
    · rw [Addr.add_lit]; exact setCell_heap _ hg
    · intro i hi hi'
      simp only [List.length_set] at hi
      obtain ⟨h1, h2, h3⟩ := hqs i hi hi'
      by_cases hik : i = k
      · subst hik
        refine ⟨h1, ?_, by simpa using hy⟩
        show chk _ _ 1 i = _
        apply List.ext_getElem?
        intro j
        by_cases hj : j < 1
        · obtain rfl : j = 0 := by omega
          rw [chk_get (by decide), Nat.add_zero, Array.getElem?_setIfInBounds_self_of_lt hlt]
          simp
        · rw [chk_get_none (by show 1 ≤ j; omega)]
          simp; omega
      · have e1 : chk (cells.setIfInBounds (o + k * 1) (.int .i64 y)) o 1 i = chk cells o 1 i := by
          refine chk_congr fun j hj => ?_
          rw [Array.getElem?_setIfInBounds_ne (by omega)]
        have e2 : (xs.set k y)[i]'(by simpa using hi) = xs[i] := List.getElem_set_ne (Ne.symm hik) _
        refine ⟨h1, ?_, by rw [e2]; exact h3⟩
        show chk _ _ 1 i = _
        rw [e1, e2]; exact h2
    · refine (Upd.setCell w _ _).mono fun b hb => .inl ?_
      simp only [List.mem_singleton] at hb
      subst hb
      rw [Addr.add_lit]
      exact List.mem_cons_self ..
end
end Go.Proofs.YtgnlfjlenjfffaaDoor.RW
