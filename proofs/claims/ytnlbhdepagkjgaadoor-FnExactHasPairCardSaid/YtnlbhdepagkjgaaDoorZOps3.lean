/-
  Rules over the state of a walk: append, make, literals, stores, slice expressions. Conditions: the engine's table holds ('EngOk').
-/
import Derived.Test.YtnlbhdepagkjgaaDoorZOps2
namespace Go.Proofs.YtnlbhdepagkjgaaDoor.RW
open Go
open Go.RowKit (Below)
open Rep RepZ

section
variable {α : Type} [Rep α] {S : Nat → Prop}
theorem q_lt {w : World} {f : List Nat} {cs : List Value} {x : α} (h : qOf S w f cs x) : ∀ b ∈ f, b < w.heap.size := by obtain ⟨g, _, h⟩ := h; exact own_lt h
theorem q_nd {w : World} {f : List Nat} {cs : List Value} {x : α} (h : qOf S w f cs x) : f.Nodup := by obtain ⟨g, _, h⟩ := h; exact own_nd h
theorem q_keep {w w' : World} {f : List Nat} {cs : List Value} {x : α} (hS : ∀ b, S b → w'.heap[b]? = w.heap[b]?) (hf : ∀ b ∈ f, w'.heap[b]? = w.heap[b]?) (h : qOf S w f cs x) : qOf S w' f cs x := by
  obtain ⟨g, h1, h2⟩ := h; exact ⟨g, h1, own_keep hS hf h2⟩
theorem q_upd {w w' : World} {f k : List Nat} {cs : List Value} {x : α} (hS : ∀ b, S b → b < w.heap.size ∧ b ∉ k) (hu : Upd k w w') (hf : ∀ b ∈ f, b ∉ k) (h : qOf S w f cs x) : qOf S w' f cs x :=
  q_keep (fun b hb => hu.block b (hS b hb).1 (hS b hb).2) (fun b hb => hu.block b (q_lt h b hb) (hf b hb)) h
theorem q_one {w : World} {f : List Nat} {cs : List Value} {x : α} (h : qOf S w f cs x) : ∀ u ∈ cs, u.oneCell' = true := by obtain ⟨g, h, _⟩ := h; rw [h]; exact cl_one x g
end

section
variable {P : Program} {G : Eng} {w0 w : World} {F : List Nat} {S0 : Nat → Prop} {Γ : List Ent}

/-- the cells of a slice that is owned: a source of an append -/
theorem own_src {α : Type} [Rep α] {S : Nat → Prop} {t e : Nat} {f : List Nat} {h : Hd} {ys : List α} (hu : P.underlying t = some (.slice e)) (ho : OwnG (sz α) (qOf S) w f h.a h.n h.c ys) :
    ∃ (news : List Value) (fps : List (List Nat)), Src P (sz α) t h.v h.n news w ∧ fps.length = ys.length ∧ (∀ b ∈ fps.flatten, b ∈ f) ∧ fps.flatten.Nodup ∧ ∀ i (h1 : i < ys.length) (h2 : i < fps.length), qOf S w fps[i] ((news.drop (i * sz α)).take (sz α)) ys[i] := by
  rcases ho with ⟨ha, hn, hc, rfl, rfl⟩ | ⟨g, o, cells, e', fps, ha, hg, hn, hnc, hcm, hsz, hl, rfl, hnd, hqs⟩
  · refine ⟨[], [], ?_, rfl, by simp, by simp, fun i h1 => by simp at h1⟩
    unfold Hd.v; rw [ha, hn, hc]
    exact Src.ofNil w hu 0
  · have hns : o + h.n * sz α ≤ cells.size := by
      have : h.n * sz α ≤ h.c * sz α := Nat.mul_le_mul_right _ hnc
      omega
    refine ⟨(cells.toList.drop o).take (h.n * sz α), fps, ?_, hl, fun b hb => List.mem_cons_of_mem _ hb, (List.nodup_cons.1 hnd).2, fun i h1 h2 => ?_⟩
    · unfold Hd.v; rw [ha]
      refine Src.ofSlice w hu ⟨g, o, none⟩ h.n h.c _ ?_ (fun j u hj => ?_) (fun u hu => ?_)
      · rw [List.length_take, List.length_drop, Array.length_toList]; omega
      · rw [Addr.add_lit, cell_of_row w g _ cells e' (0, 0) hg]
        rw [List.getElem?_take] at hj
        split at hj
        · rw [List.getElem?_drop] at hj; rw [← Array.getElem?_toList]; exact hj
        · cases hj
      · obtain ⟨j, hj, rfl⟩ := List.mem_iff_getElem.1 hu
        have hj' : j < h.n * sz α := by rw [List.length_take] at hj; omega
        rcases Nat.eq_zero_or_pos (sz α) with h0 | h0
        · rw [h0] at hj'; omega
        have hi : j / sz α < ys.length := by rw [← hn]; exact Nat.div_lt_of_lt_mul (by rwa [Nat.mul_comm])
        have hq := hqs _ hi (by omega)
        have hm : j % sz α < sz α := Nat.mod_lt _ h0
        have e0 : o + j / sz α * sz α + j % sz α = o + j := by
          have := Nat.div_add_mod j (sz α)
          rw [Nat.mul_comm] at this; omega
        have h3 : (chk cells o (sz α) (j / sz α))[j % sz α]? = cells[o + j]? := by rw [chk_get hm, e0]
        have h4 : ((cells.toList.drop o).take (h.n * sz α))[j] = cells[o + j]'(by omega) := by simp
        rw [h4]
        refine q_one hq _ (List.mem_of_getElem? (i := j % sz α) ?_)
        rw [h3]; simp
    · have e3 : (((cells.toList.drop o).take (h.n * sz α)).drop (i * sz α)).take (sz α) = chk cells o (sz α) i := by
        unfold chk
        rw [List.drop_take, List.drop_drop, List.take_take]
        congr 1
        have : (i + 1) * sz α ≤ h.n * sz α := Nat.mul_le_mul_right _ (by omega)
        rw [Nat.add_mul] at this; omega
      rw [e3]
      exact hqs i h1 h2

theorem maxN_le : maxN = 1099511627776 := rfl

/-- append(xs, ys...), both one's own; of ys nothing is left -/
theorem append_ {α : Type} [Rep α] {t e ty st bt be : Nat} {zt ze : Value} {ke : TK} {xs ys zs : List α} {h h2 : Hd} {K : Value → World → Prop} (ok : EngOk P G) (ht : nthO G.tt t = some ⟨.slice e, st, bt, zt⟩) (he : nthO G.tt e = some ⟨ke, sz α, be, ze⟩) (hz : ze.cells.size = sz α) (hbe : Nat.ble be 128 = true) (H : Cx w0 F S0 w (E (List α) xs h :: E (List α) ys h2 :: Γ)) (hzs : appO xs ys = some zs) (hK : ∀ (h' : Hd) w', Cx w0 F S0 w' (E (List α) zs h' :: Γ) → K h'.v w') :
    ERun P (Builtin.append_ #[t, t] ty #[h.v, h2.v]) w K := by
  obtain ⟨hmax, rfl⟩ := appO_some hzs
  have hbe := Nat.le_of_ble_eq_true hbe
  rw [maxN_le] at hmax
  obtain ⟨S, f1, h1, h3⟩ := Cx.frame (Γ1 := [E (List α) xs h, E (List α) ys h2]) H
  obtain ⟨fx, r, rfl, ox, fy, r2, rfl, oy, hr⟩ := h1.all
  obtain rfl : r2 = [] := hr
  have ox : OwnG (sz α) (qOf S) w fx h.a h.n h.c xs := ox
  have oy : OwnG (sz α) (qOf S) w fy h2.a h2.n h2.c ys := oy
  have hn := ox.n_eq
  have hn2 := oy.n_eq
  obtain ⟨news, fps, hs, hfl, hfm, hfn, hq⟩ := own_src (und_slice (und_of ok ht)) oy
  have hxy : ∀ b ∈ fx, b ∉ fy := fun b hb hb' => by
    have := (List.nodup_append.1 h1.nd).2.2 b hb b (by simpa using hb')
    exact this rfl
  have hS : ∀ b, S b → b < w.heap.size ∧ b ∉ fx.take 1 := fun b hb => ⟨(h1.sb b hb).1, fun hm => (h1.out b (List.mem_append_left _ (List.mem_of_mem_take hm))).1 hb⟩
  have hprod : (h.n + ys.length) * be ≤ 140737488355328 := by
    have : (h.n + ys.length) * be ≤ 1099511627776 * 128 := Nat.mul_le_mul (by omega) hbe
    omega
  rw [hn2] at hs
  refine append_own ok ht he hz ox (fun w' f cs x hu hf hx => q_upd hS hu hf hx) hs ys fps rfl hfl hq (fun b hb => ?_) ?_ hprod (by unfold maxLen; omega) ?_
  · rcases List.mem_append.1 hb with hb | hb
    · exact ox.lt q_lt b hb
    · exact oy.lt q_lt b (hfm b hb)
  · exact List.nodup_append.2 ⟨ox.nodup, hfn, fun b hb c hc e => hxy b hb (e ▸ hfm c hc)⟩
  · intro A' c' w' fp' ho hu hm
    refine hK (Hd.mk A' (h.n + ys.length) c') w' (h3 w' [E (List α) (xs ++ ys) (Hd.mk A' (h.n + ys.length) c')] ⟨S, fp', hu.mono (fun b hb => .inl (List.mem_append_left _ (List.mem_of_mem_take hb))), fun _ h => h, fun b hb => ⟨Nat.lt_of_lt_of_le (h1.sb b hb).1 hu.size, .inl hb⟩, ⟨fp', [], by simp, ho, rfl⟩, ho.nodup, fun b hb => ?_⟩)
    have : b ∈ fx ++ (fy ++ []) ∨ w.heap.size ≤ b := by
      rcases hm b hb with k | k | k
      · exact .inl (List.mem_append_left _ k)
      · exact .inl (List.mem_append_right _ (by simpa using hfm b k))
      · exact .inr k
    refine ⟨fun hSb => ?_, this⟩
    rcases this with k | k
    · exact (h1.out b k).1 hSb
    · have := (h1.sb b hSb).1; omega

/-- the cells of a slice that is read -/
theorem rd_news {α : Type} [Rep α] {S : Nat → Prop} {b o : Nat} {xs : List α} (h : ∀ i (h : i < xs.length), ∃ cs, (∀ j u, cs[j]? = some u → w.cell? ⟨b, o + i * sz α + j, none⟩ = some u) ∧ rOf S w cs xs[i]) (hs : 0 < sz α) :
    ∃ news : List Value, news.length = xs.length * sz α ∧ (∀ j u, news[j]? = some u → w.cell? ⟨b, o + j, none⟩ = some u) ∧ (∀ u ∈ news, u.oneCell' = true) ∧ ∀ i (h : i < xs.length), rOf S w ((news.drop (i * sz α)).take (sz α)) xs[i] := by
  have hlen : ∀ {cs : List Value} {x : α}, rOf S w cs x → cs.length = sz α := fun ⟨g, h, _⟩ => by rw [h, cl_len]
  have hone : ∀ {cs : List Value} {x : α}, rOf S w cs x → ∀ u ∈ cs, u.oneCell' = true := fun ⟨g, h, _⟩ => by rw [h]; exact cl_one _ g
  have hcell : ∀ j, j < xs.length * sz α → ∃ u, w.cell? ⟨b, o + j, none⟩ = some u ∧ u.oneCell' = true := by
    intro j hj
    have hi : j / sz α < xs.length := Nat.div_lt_of_lt_mul (by rwa [Nat.mul_comm])
    obtain ⟨cs, h1, h2⟩ := h _ hi
    have hm : j % sz α < cs.length := by rw [hlen h2]; exact Nat.mod_lt _ hs
    have := h1 (j % sz α) _ (List.getElem?_eq_getElem hm)
    have e : o + j / sz α * sz α + j % sz α = o + j := by
      have := Nat.div_add_mod j (sz α)
      rw [Nat.mul_comm] at this; omega
    rw [e] at this
    exact ⟨_, this, hone h2 _ (List.getElem_mem _)⟩
  have hget : ∀ j, j < xs.length * sz α → ((List.range (xs.length * sz α)).map fun j => (w.cell? ⟨b, o + j, none⟩).getD undef)[j]? = w.cell? ⟨b, o + j, none⟩ := by
    intro j hj
    obtain ⟨u, hu, _⟩ := hcell j hj
    rw [List.getElem?_map, List.getElem?_range hj, hu]
    simp [hu]
  refine ⟨(List.range (xs.length * sz α)).map fun j => (w.cell? ⟨b, o + j, none⟩).getD undef, by simp, fun j u hj => ?_, fun u hu => ?_, fun i hi => ?_⟩
  · have hl : j < xs.length * sz α := by
      have := (List.getElem?_eq_some_iff.1 hj).1
      simpa using this
    rw [← hget j hl]; exact hj
  · obtain ⟨j, hj, rfl⟩ := List.mem_map.1 hu
    obtain ⟨u, hu', h1⟩ := hcell j (List.mem_range.1 hj)
    rw [hu']; exact h1
  · obtain ⟨cs, h1, h2⟩ := h i hi
    have : (((List.range (xs.length * sz α)).map fun j => (w.cell? ⟨b, o + j, none⟩).getD undef).drop (i * sz α)).take (sz α) = cs := by
      apply List.ext_getElem?
      intro j
      have hl := hlen h2
      by_cases hj : j < sz α
      · have h3 : i * sz α + j < xs.length * sz α := by
          have : (i + 1) * sz α ≤ xs.length * sz α := Nat.mul_le_mul_right _ hi
          rw [Nat.add_mul] at this; omega
        rw [List.getElem?_take, if_pos hj, List.getElem?_drop, hget _ h3]
        have := h1 j cs[j] (List.getElem?_eq_getElem (by omega))
        rw [← Nat.add_assoc, this, List.getElem?_eq_getElem (by omega)]
      · rw [List.getElem?_take, if_neg hj, List.getElem?_eq_none (by omega)]
    rw [this]; exact h2

/-- a source that is read -/
theorem rd_src {α : Type} [Rep α] {S : Nat → Prop} {t e : Nat} {h : Hd} {ys : List α} (hs : 0 < sz α) (hu : P.underlying t = some (.slice e)) (hr : rd w S ys h) :
    ∃ news : List Value, Src P (sz α) t h.v h.n news w ∧ ∀ i (h1 : i < ys.length), rOf S w ((news.drop (i * sz α)).take (sz α)) ys[i] := by
  have hr : RdG (sz α) (rOf S) w S h.a h.n h.c ys := hr
  obtain ⟨hn, hnc, hcm, h4⟩ := hr
  by_cases hp : 0 < ys.length
  · obtain ⟨b, o, ha, _, hc⟩ := h4 hp
    obtain ⟨news, h1, h2, h3, h5⟩ := rd_news hc hs
    refine ⟨news, ?_, h5⟩
    unfold Hd.v; rw [ha]
    exact Src.ofSlice w hu ⟨b, o, none⟩ h.n h.c news (by rw [h1, hn]) (fun j u hj => by rw [Addr.add_lit]; exact h2 j u hj) h3
  · have : ys = [] := List.eq_nil_of_length_eq_zero (by omega)
    subst this
    refine ⟨[], ?_, fun i hi => by simp at hi⟩
    unfold Hd.v
    rw [show h.n = 0 from hn]
    cases h.a with
    | none => exact Src.ofNil w hu h.c
    | some a => exact Src.ofSlice w hu a 0 h.c [] (by simp) (fun j u hj => by simp at hj) (fun u hu => by cases hu)

/-- append(xs, ys...), ys numbers that are read -/
theorem appendS2 {α : Type} [Rep α] [Sc α] {t t2 e ty st bt be st2 bt2 : Nat} {zt ze zt2 : Value} {ke : TK} {xs ys zs : List α} {h h2 : Hd} {K : Value → World → Prop} (ok : EngOk P G) (ht : nthO G.tt t = some ⟨.slice e, st, bt, zt⟩) (ht2 : nthO G.tt t2 = some ⟨.slice e, st2, bt2, zt2⟩) (he : nthO G.tt e = some ⟨ke, sz α, be, ze⟩) (hz : ze.cells.size = sz α) (hbe : Nat.ble be 128 = true) (H : Cx w0 F S0 w (E (List α) xs h :: Γ)) (hv : Vw w Γ (Es (List α) ys h2)) (hzs : appO xs ys = some zs) (hK : ∀ (h' : Hd) w', Cx w0 F S0 w' (E (List α) zs h' :: Γ) → K h'.v w') :
    ERun P (Builtin.append_ #[t, t2] ty #[h.v, h2.v]) w K := by
  obtain ⟨hmax, rfl⟩ := appO_some hzs
  have hbe := Nat.le_of_ble_eq_true hbe
  rw [maxN_le] at hmax
  obtain ⟨S, f1, h1, hvs, h3⟩ := Cx.frameL (Γ1 := [E (List α) xs h]) H
  obtain ⟨_, hrd⟩ := hvs _ hv
  obtain ⟨fx, r, rfl, ox, hr⟩ := h1.all
  obtain rfl : r = [] := hr
  have ox : OwnG (sz α) (qOf S) w fx h.a h.n h.c xs := ox
  have hn := ox.n_eq
  have hs1 := Sc.sz1 (α := α)
  obtain ⟨news, hs, hq⟩ := rd_src (by omega) (und_slice (und_of ok ht2)) hrd
  have hn2 : h2.n = ys.length := by
    have hrd : RdG (sz α) (rOf S) w S h2.a h2.n h2.c ys := hrd
    exact hrd.1
  have hS : ∀ b, S b → b < w.heap.size ∧ b ∉ fx.take 1 := fun b hb => ⟨(h1.sb b hb).1, fun hm => (h1.out b (List.mem_append_left _ (List.mem_of_mem_take hm))).1 hb⟩
  have hprod : (h.n + ys.length) * be ≤ 140737488355328 := by
    have : (h.n + ys.length) * be ≤ 1099511627776 * 128 := Nat.mul_le_mul (by omega) hbe
    omega
  rw [hn2] at hs
  refine append_own ok ht he hz ox (fun w' f cs x hu hf hx => q_upd hS hu hf hx) hs ys (List.replicate ys.length []) rfl (by simp) (fun i hi hi' => ?_) (fun b hb => ?_) ?_ hprod (by unfold maxLen; omega) ?_
  · obtain ⟨g, h4, _⟩ := hq i hi
    rw [List.getElem_replicate]
    exact ⟨g, h4, (Sc.own_nil _ _ _ _ _).2 rfl⟩
  · have hb : b ∈ fx := by simpa using hb
    exact ox.lt q_lt b hb
  · have : (List.replicate ys.length ([] : List Nat)).flatten = [] := by simp
    rw [this, List.append_nil]; exact ox.nodup
  · intro A' c' w' fp' ho hu hm
    have ho' : OwnG (sz α) (qOf fun _ => False) w' fp' A' (h.n + ys.length) c' (xs ++ ys) := ho.keep (fun _ ⟨g, k1, k2⟩ => ⟨g, k1, (Sc.own_nil _ _ _ _ _).2 ((Sc.own_nil _ _ _ _ _).1 k2)⟩) (fun _ _ => rfl)
    refine hK (Hd.mk A' (h.n + ys.length) c') w' (h3 w' [E (List α) (xs ++ ys) (Hd.mk A' (h.n + ys.length) c')] ⟨fun _ => False, fp', hu.mono (fun b hb => .inl (List.mem_append_left _ (List.mem_of_mem_take hb))), fun _ h => h, fun b hb => hb.elim, ⟨fp', [], by simp, ho', rfl⟩, ho.nodup, fun b hb => ⟨fun h => h, ?_⟩⟩)
    rcases hm b hb with k | k | k
    · exact .inl (by simpa using k)
    · simp at k
    · exact .inr k

theorem appendS {α : Type} [Rep α] [Sc α] {t e ty st bt be : Nat} {zt ze : Value} {ke : TK} {xs ys zs : List α} {h h2 : Hd} {K : Value → World → Prop} (ok : EngOk P G) (ht : nthO G.tt t = some ⟨.slice e, st, bt, zt⟩) (he : nthO G.tt e = some ⟨ke, sz α, be, ze⟩) (hz : ze.cells.size = sz α) (hbe : Nat.ble be 128 = true) (H : Cx w0 F S0 w (E (List α) xs h :: Γ)) (hv : Vw w Γ (Es (List α) ys h2)) (hzs : appO xs ys = some zs) (hK : ∀ (h' : Hd) w', Cx w0 F S0 w' (E (List α) zs h' :: Γ) → K h'.v w') :
    ERun P (Builtin.append_ #[t, t] ty #[h.v, h2.v]) w K := appendS2 ok ht ht he hz hbe H hv hzs hK

/-- make([]T, n, m) -/
theorem make_ {α : Type} [Rep α] [RepZ α] {t e st bt be : Nat} {zt ze : Value} {ke : TK} {l c : Int} {zs : List α} {K : Value → World → Prop} (ok : EngOk P G) (ht : nthO G.tt t = some ⟨.slice e, st, bt, zt⟩) (he : nthO G.tt e = some ⟨ke, sz α, be, ze⟩) (hz : ze.cells = (cl (zero : α) zg).toArray) (hbe : Nat.ble be 128 = true) (hzs : makeCO l c (zero : α) = some zs) (H : Cx w0 F S0 w Γ) (hK : ∀ (h' : Hd) w', Ext w w' → Cx w0 F S0 w' (E (List α) zs h' :: Γ) → K h'.v w') :
    ERun P (Instr.makeSlice t (.int .i64 l) (.int .i64 c)) w K := by
  obtain ⟨n, m, rfl, rfl, hnm, hmx, rfl⟩ := makeCO_some hzs
  have hbe := Nat.le_of_ble_eq_true hbe
  rw [maxN_le] at hmx
  have hu := und_slice (und_of ok ht)
  obtain ⟨i, hi, hiz, his, hib⟩ := inf_of ok he
  simp only at his hib hiz
  have hmm : maxLen = 9223372036854775807 := rfl
  have hb' : (i.bytes : Int) * (m : Int) ≤ 281474976710656 := by
    rw [hib]
    have h : be * m ≤ 128 * 1099511627776 := Nat.mul_le_mul hbe hmx
    have h : ((be * m : Nat) : Int) ≤ 281474976710656 := by omega
    rwa [Int.natCast_mul] at h
  have hr := run_make (P := P) w t e i ze hu hi hiz .i64 .i64 n m (by omega) (by omega) hb' (by omega)
  simp only [Int.toNat_natCast] at hr
  refine erun_of hr (hK ⟨some ⟨w.heap.size, 0, none⟩, n, m⟩ _ (Upd.alloc w _) (H.new (f := [w.heap.size]) (Upd.alloc w _) (fun S _ => .inr ⟨w.heap.size, 0, _, e, List.replicate n [], rfl, heap_alloc_new w _, by simp, hnm, by show m ≤ maxLen; omega, by rw [size_madeCells, his]; show 0 + m * sz α ≤ _; omega, by simp, ?_, ?_, ?_⟩) (by simp) (by simp)))
  · have : (List.replicate n ([] : List Nat)).flatten = [] := by simp
    rw [this]
  · simp
  · intro k hk hk'
    rw [List.getElem_replicate, List.getElem_replicate, hz, his]
    simp only [List.length_replicate] at hk
    exact ⟨zg, chk_made (cl_len _ _) (Nat.lt_of_lt_of_le hk hnm), own_zero _ _⟩
theorem makeCO_of {α : Type} {n : Int} {z : α} {zs : List α} (h : makeO n z = some zs) : makeCO n n z = some zs := by
  unfold makeO at h; unfold makeCO
  split at h
  · rename_i h1; rw [if_pos ⟨h1.1, Int.le_refl _, h1.2⟩]; exact h
  · cases h

/-- []T{} -/
theorem lit0 {α : Type} [Rep α] {t e st bt be se : Nat} {zt ze : Value} {ke : TK} {K : Value → World → Prop} (ok : EngOk P G) (ht : nthO G.tt t = some ⟨.slice e, st, bt, zt⟩) (he : nthO G.tt e = some ⟨ke, se, be, ze⟩) (H : Cx w0 F S0 w Γ) (hK : ∀ (h' : Hd) w', Ext w w' → Cx w0 F S0 w' (E (List α) [] h' :: Γ) → K h'.v w') :
    ERun P (Instr.buildSlice t 0 #[]) w K := by
  have hu := und_slice (und_of ok ht)
  obtain ⟨i, hi, hiz, his, hib⟩ := inf_of ok he
  have hr : (Instr.buildSlice t 0 #[]).run P w = .ok (.slice (some ⟨w.heap.size, 0, none⟩) 0 0) (w.alloc (.cells #[] e)) := by
    simp [Instr.buildSlice, run_underlying hu, sizeOf, typeInfo, hi, Instr.fill, newRow]
    rw [show Array.range 0 = #[] from rfl, Array.map_empty]
  exact erun_of hr (hK ⟨some ⟨w.heap.size, 0, none⟩, 0, 0⟩ _ (Upd.alloc w _) (H.new (f := [w.heap.size]) (Upd.alloc w _) (fun S _ => .inr ⟨w.heap.size, 0, _, e, [], rfl, heap_alloc_new w _, rfl, Nat.le_refl _, by show 0 ≤ maxLen; unfold maxLen; omega, by show 0 + 0 * sz α ≤ _; simp, rfl, rfl, by simp, fun k hk => by simp at hk⟩) (by simp) (by simp)))
/-- []T{x}: the element goes in -/
theorem lit1 {α : Type} [Rep α] {t e st bt be : Nat} {zt ze : Value} {ke : TK} {u : Value} {x : α} {g : Gh α} {K : Value → World → Prop} (ok : EngOk P G) (ht : nthO G.tt t = some ⟨.slice e, st, bt, zt⟩) (he : nthO G.tt e = some ⟨ke, sz α, be, ze⟩) (h0 : Nat.blt 0 (sz α) = true) (h24 : Nat.ble (sz α) 1000 = true) (hx : u.cells = (cl x g).toArray) (H : Cx w0 F S0 w (E α x g :: Γ)) (hK : ∀ (h' : Hd) w', Ext w w' → Cx w0 F S0 w' (E (List α) [x] h' :: Γ) → K h'.v w') :
    ERun P (Instr.buildSlice t 1 #[(0, u)]) w K := by
  have h0 : 0 < sz α := by simpa [Nat.blt_eq] using h0
  have h24 := Nat.le_of_ble_eq_true h24
  have hcs : u.cells.size = sz α := by rw [hx]; simp [cl_len]
  have hr := lit1_ (w := w) ok ht he h0 (by omega) hcs (by rw [hx]; exact cl_one x g)
  obtain ⟨S, f1, h1, h3⟩ := Cx.frame (Γ1 := [E α x g]) H
  obtain ⟨fx, r, rfl, ox, hr'⟩ := h1.all
  obtain rfl : r = [] := hr'
  have ox : own w S fx x g := ox
  have hu : Ext w (w.alloc (.cells u.cells e)) := Upd.alloc w _
  have hlt : ∀ b ∈ fx, b < w.heap.size := own_lt ox
  have ho : OwnG (sz α) (qOf S) (w.alloc (.cells u.cells e)) (w.heap.size :: fx) (some ⟨w.heap.size, 0, none⟩) 1 1 [x] := by
    refine .inr ⟨w.heap.size, 0, u.cells, e, [fx], rfl, heap_alloc_new w _, rfl, Nat.le_refl _, by unfold maxLen; omega, by rw [hcs]; omega, rfl, by simp, ?_, ?_⟩
    · exact List.nodup_cons.2 ⟨fun h => by have := hlt _ h; omega, own_nd ox⟩
    · intro i hi hi'
      obtain rfl : i = 0 := by simp at hi; omega
      refine ⟨g, ?_, own_keep (fun b hb => hu.block b (h1.sb b hb).1 (by simp)) (fun b hb => hu.block b (hlt b hb) (by simp)) ox⟩
      unfold chk
      rw [hx]
      simp
      exact List.take_of_length_le (by rw [cl_len]; exact Nat.le_refl _)
  refine erun_of hr (hK ⟨some ⟨w.heap.size, 0, none⟩, 1, 1⟩ _ hu (h3 _ [E (List α) [x] _] ⟨S, w.heap.size :: fx, hu.mono (fun _ h => by cases h), fun _ h => h, fun b hb => ⟨Nat.lt_of_lt_of_le (h1.sb b hb).1 hu.size, .inl hb⟩, ⟨_, [], by simp, ho, rfl⟩, ho.nodup, fun b hb => ?_⟩))
  rcases List.mem_cons.1 hb with rfl | hb
  · exact ⟨fun hS => by have := (h1.sb _ hS).1; omega, .inr (Nat.le_refl _)⟩
  · exact ⟨(h1.out b (by simpa using hb)).1, .inl (by simpa using hb)⟩
/-- []T{x}, a number -/
theorem lit1S {α : Type} [Rep α] [Sc α] {t e st bt be : Nat} {zt ze : Value} {ke : TK} {x : α} {K : Value → World → Prop} (ok : EngOk P G) (ht : nthO G.tt t = some ⟨.slice e, st, bt, zt⟩) (he : nthO G.tt e = some ⟨ke, sz α, be, ze⟩) (h0 : Nat.blt 0 (sz α) = true) (h24 : Nat.ble (sz α) 1000 = true) (H : Cx w0 F S0 w Γ) (hK : ∀ (h' : Hd) w', Ext w w' → Cx w0 F S0 w' (E (List α) [x] h' :: Γ) → K h'.v w') :
    ERun P (Instr.buildSlice t 1 #[(0, Sc.val x)]) w K := by
  refine lit1 (x := x) (g := Sc.gh) ok ht he h0 h24 ?_ (H.add fun S fp _ => (Sc.own_nil _ _ _ _ _).2 rfl) hK
  rw [Sc.cl_val]
  have := Sc.one x
  cases hv : Sc.val x <;> rw [hv] at this <;> first | rfl | (simp [Value.oneCell'] at this)

/-! ### stores into a row of one's own -/
theorem Rdb.setp {α : Type} [Rep α] {xs ys : List α} {h : Hd} {k : Int} {a : α} (hr : Rdb w xs h) (hx : setO xs k a = some ys) : ∃ (p : Addr) (m : Nat), h.a = some p ∧ k = (m : Int) ∧ m < h.n := by
  obtain ⟨S, h1, h2, h3, h4⟩ := hr
  obtain ⟨m, rfl, hm, rfl⟩ := setO_some hx
  obtain ⟨b, o, ha, _⟩ := h4 (by omega)
  exact ⟨_, m, ha, rfl, by omega⟩
/-- xs[k] = y, one cell -/
theorem set1 {α : Type} [Rep α] {xs ys : List α} {h : Hd} {k : Int} {m : Nat} {p : Addr} {y : α} {g : Gh α} {u : Value} {K : World → Prop} (hs1 : sz α = 1) (hc : cl y g = [u]) (H : Cx w0 F S0 w (E (List α) xs h :: E α y g :: Γ)) (ha : h.a = some p) (hk : k = (m : Int)) (hset : setO xs k y = some ys) (hK : ∀ w', Cx w0 F S0 w' (E (List α) ys h :: Γ) → K w') : EStore (.pointer (some (p.add (m * 1)))) u w K := by
  obtain ⟨m', hk', hm, rfl⟩ := setO_some hset
  obtain rfl : m = m' := by omega
  obtain ⟨S, f1, h1, h3⟩ := Cx.frame (Γ1 := [E (List α) xs h, E α y g]) H
  obtain ⟨fx, r, rfl, ox, fy, r2, rfl, oy, hr⟩ := h1.all
  obtain rfl : r2 = [] := hr
  have ox : OwnG (sz α) (qOf S) w fx h.a h.n h.c xs := ox
  have oy : own w S fy y g := oy
  have hxy : ∀ b ∈ fx, b ∉ fy := fun b hb hb' => by
    have := (List.nodup_append.1 h1.nd).2.2 b hb b (by simpa using hb')
    exact this rfl
  have hn := ox.n_eq
  obtain ⟨g', o, cells, e, fk, ha', hg, hsz, hgf, _, hfk, hgk, hch⟩ := ox.chg hm q_lt q_nd
  rw [ha] at ha'
  simp only [Option.some.injEq] at ha'
  subst ha'
  rw [hs1] at hsz
  have hlt : o + m * 1 < cells.size := by omega
  have hu : Upd [g'] w (w.setCell ⟨g', o + m * 1, none⟩ u) := Upd.setCell w ⟨g', o + m * 1, none⟩ u
  have hSg : ∀ b, S b → b < w.heap.size ∧ b ∉ [g'] := fun b hb => ⟨(h1.sb b hb).1, fun hm => by simp at hm; subst hm; exact (h1.out b (List.mem_append_left _ hgf)).1 hb⟩
  have hone : u.oneCell' = true := cl_one y g u (by rw [hc]; simp)
  have hgy : ∀ b ∈ fy, b ∉ [g'] := fun b hb hb' => by simp at hb'; subst hb'; exact hxy _ hgf hb
  refine .mk ⟨_, cells[o + m * 1], rfl, ?_, ?_, hone, ?_⟩
  · rw [Addr.add_lit, cell_of_row w g' _ cells e (0, 0) hg, Array.getElem?_eq_getElem hlt]
  · rw [Addr.add_lit]; exact frozen_of_row w g' _ cells e hg
  · rw [Addr.add_lit]
    have hq : qOf S (w.setCell ⟨g', o + m * 1, none⟩ u) fy (chk (cells.setIfInBounds (o + m * 1) u) o 1 m) y := by
      refine ⟨g, ?_, own_keep (fun b hb => hu.block b (hSg b hb).1 (hSg b hb).2) (fun b hb => hu.block b (own_lt oy b hb) (hgy b hb)) oy⟩
      rw [hc]
      apply List.ext_getElem?
      intro j
      by_cases hj : j < 1
      · obtain rfl : j = 0 := by omega
        rw [chk_get (by decide), Nat.add_zero, Array.getElem?_setIfInBounds_self_of_lt hlt]
        rfl
      · rw [chk_get_none (by omega), List.getElem?_eq_none (by simp; omega)]
    obtain ⟨fp', k1, k2⟩ := hch _ _ fy [g'] y (setCell_heap u hg) (by simp) (fun i hi hil => chk_congr fun j hj => by
      rw [hs1] at hj ⊢
      have hne : o + m * 1 ≠ o + i * 1 + j := by omega
      rw [Array.getElem?_setIfInBounds_ne hne]) (by rw [hs1]; exact hq) (fun b hb => .inr (fun h => hxy b h hb)) hu (fun b hb => .inl (by simpa using hb)) (fun f' cs x hf hx => q_keep (fun b hb => hu.block b (hSg b hb).1 (hSg b hb).2) hf hx)
    refine hK _ (h3 _ [E (List α) (xs.set m y) h] ⟨S, fp', hu.mono (fun b hb => .inl ?_), fun _ h => h, fun b hb => ⟨Nat.lt_of_lt_of_le (h1.sb b hb).1 hu.size, .inl hb⟩, ⟨fp', [], by simp, ?_, rfl⟩, k1.nodup, fun b hb => ?_⟩)
    · simp only [List.mem_singleton] at hb; subst hb; exact List.mem_append_left _ hgf
    · exact k1
    · have : b ∈ fx ++ (fy ++ []) := by
        rcases k2 b hb with k | k
        · exact List.mem_append_left _ k
        · exact List.mem_append_right _ (by simpa using k)
      exact ⟨(h1.out b this).1, .inl this⟩
/-- xs[k] = a number -/
theorem setS {α : Type} [Rep α] [Sc α] {xs ys : List α} {h : Hd} {k : Int} {m : Nat} {p : Addr} {y : α} {K : World → Prop} (H : Cx w0 F S0 w (E (List α) xs h :: Γ)) (ha : h.a = some p) (hk : k = (m : Int)) (hset : setO xs k y = some ys) (hK : ∀ w', Cx w0 F S0 w' (E (List α) ys h :: Γ) → K w') : EStore (.pointer (some (p.add (m * 1)))) (Sc.val y) w K := by
  have H1 : Cx w0 F S0 w (E α y Sc.gh :: E (List α) xs h :: Γ) := H.add fun S fp _ => (Sc.own_nil _ _ _ _ _).2 rfl
  have H2 : Cx w0 F S0 w (E (List α) xs h :: E α y Sc.gh :: Γ) := by
    obtain ⟨S, fp, I⟩ := H1
    obtain ⟨f, g, rfl, h1, f2, g2, rfl, h3, h4⟩ := I.all
    have hf : f = [] := (Sc.own_nil _ _ _ _ _).1 h1
    subst hf
    exact ⟨S, f2 ++ g2, I.upd, I.s0, I.sb, ⟨f2, g2, rfl, h3, [], g2, rfl, h1, h4⟩, I.nd, I.out⟩
  exact set1 Sc.sz1 (Sc.cl_val y Sc.gh) H2 ha hk hset hK
/-- xs[k] = a slice -/
theorem setL {β : Type} [Rep β] {xs ys : List (List β)} {h g : Hd} {k : Int} {m : Nat} {p : Addr} {y : List β} {K : World → Prop} (H : Cx w0 F S0 w (E (List (List β)) xs h :: E (List β) y g :: Γ)) (ha : h.a = some p) (hk : k = (m : Int)) (hset : setO xs k y = some ys) (hK : ∀ w', Cx w0 F S0 w' (E (List (List β)) ys h :: Γ) → K w') : EStore (.pointer (some (p.add (m * 1)))) g.v w K :=
  set1 (α := List β) rfl rfl H ha hk hset hK

/-- nil is one's own -/
theorem Cx.nil {α : Type} [Rep α] (H : Cx w0 F S0 w Γ) : Cx w0 F S0 w (E (List α) [] nilH :: Γ) := H.add fun _ _ _ => .inl ⟨rfl, rfl, rfl, rfl, rfl⟩
/-! ### slice expressions -/
theorem sub_flat {β : Type} : ∀ {l1 l2 : List (List β)}, List.Sublist l1 l2 → List.Sublist l1.flatten l2.flatten
  | _, _, .slnil => .slnil
  | _, _, .cons a h => by rw [List.flatten_cons]; exact (sub_flat h).trans (List.sublist_append_right _ _)
  | _, _, .cons_cons a h => by rw [List.flatten_cons, List.flatten_cons]; exact List.Sublist.append_left (sub_flat h) _
def subA (A : Option Addr) (l c s : Nat) : Option Addr := if c = l then A else A.map (·.add (l * s))
def Hd.sub (h : Hd) (l m c s : Nat) : Hd := ⟨subA h.a l c s, m - l, c - l⟩
def optI (d : Int) : Option Value → Option Int
  | none => some d
  | some (.int .i64 n) => some n
  | _ => none
theorem sl_run {t e st bt be se : Nat} {zt ze : Value} {ke : TK} {A : Option Addr} {n c : Nat} {lo hi : Option Value} (ok : EngOk P G) (ht : nthO G.tt t = some ⟨.slice e, st, bt, zt⟩) (he : nthO G.tt e = some ⟨ke, se, be, ze⟩) (l h : Nat) (hlo : optI 0 lo = some (l : Int)) (hhi : optI n hi = some (h : Int)) (hlh : l ≤ h) (hhc : h ≤ c) :
    (Instr.sliceAt t (.slice A n c) lo hi none).run P w = .ok (.slice (subA A l c se) (h - l) (c - l)) w := by
  have hu := und_slice (und_of ok ht)
  have hs := sizeOf_run ok he w
  simp only at hs
  have h1 : (0 : Int) ≤ (h : Int) ∧ (h : Int) ≤ (c : Int) := ⟨by omega, by omega⟩
  have h2 : (0 : Int) ≤ (l : Int) ∧ (l : Int) ≤ (h : Int) := ⟨by omega, by omega⟩
  unfold optI at hlo hhi
  split at hlo
  · simp only [Option.some.injEq] at hlo
    obtain rfl : l = 0 := by omega
    split at hhi
    · simp only [Option.some.injEq] at hhi
      obtain rfl : n = h := by omega
      simp [Instr.sliceAt, Instr.slice, run_underlying hu, Instr.sliceBounds, hs, subA]
    · simp only [Option.some.injEq] at hhi
      subst hhi
      simp [Instr.sliceAt, Instr.slice, run_underlying hu, Instr.sliceBounds, Instr.sliceBound, asIntOf, hs, subA, hhc]
    · cases hhi
  · simp only [Option.some.injEq] at hlo
    subst hlo
    split at hhi
    · simp only [Option.some.injEq] at hhi
      obtain rfl : n = h := by omega
      simp [Instr.sliceAt, Instr.slice, run_underlying hu, Instr.sliceBounds, Instr.sliceBound, asIntOf, hs, subA, hlh]
    · simp only [Option.some.injEq] at hhi
      subst hhi
      simp [Instr.sliceAt, Instr.slice, run_underlying hu, Instr.sliceBounds, Instr.sliceBound, asIntOf, hs, subA, hlh, hhc]
    · cases hhi
  · cases hlo
theorem sl3_run {t e st bt be se : Nat} {zt ze : Value} {ke : TK} {A : Option Addr} {n c : Nat} {hi mx : Int} (ok : EngOk P G) (ht : nthO G.tt t = some ⟨.slice e, st, bt, zt⟩) (he : nthO G.tt e = some ⟨ke, se, be, ze⟩) (h m : Nat) (hhi : hi = (h : Int)) (hmx : mx = (m : Int)) (hhm : h ≤ m) (hmc : m ≤ c) :
    (Instr.sliceAt t (.slice A n c) none (some (.int .i64 hi)) (some (.int .i64 mx))).run P w = .ok (.slice (subA A 0 m se) (h - 0) (m - 0)) w := by
  have hu := und_slice (und_of ok ht)
  have hs := sizeOf_run ok he w
  simp only at hs
  subst hhi; subst hmx
  simp [Instr.sliceAt, Instr.slice, run_underlying hu, Instr.sliceBounds, Instr.sliceBound, asIntOf, hs, subA, hhm, hmc]

theorem RdG.sub {α : Type} {s : Nat} {r : World → List Value → α → Prop} {S : Nat → Prop} {A : Option Addr} {n c l m c' : Nat} {xs : List α} (hx : RdG s r w S A n c xs) (hlm : l ≤ m) (hmn : m ≤ xs.length) (hc' : m ≤ c' ∧ c' ≤ c) :
    RdG s r w S (subA A l c' s) (m - l) (c' - l) ((xs.drop l).take (m - l)) := by
  have hlen : ((xs.drop l).take (m - l)).length = m - l := by rw [List.length_take, List.length_drop]; omega
  refine ⟨hlen.symm, by omega, by have := hx.2.2.1; omega, fun h0 => ?_⟩
  obtain ⟨b, o, rfl, hb, hc⟩ := hx.2.2.2 (by omega)
  have hcl : c' ≠ l := by omega
  refine ⟨b, o + l * s, ?_, hb, fun i hi => ?_⟩
  · unfold subA; rw [if_neg hcl]; simp only [Option.map_some]; rw [Addr.add_lit]
  · obtain ⟨cs, h1, h2⟩ := hc (l + i) (by omega)
    refine ⟨cs, fun j u hj => ?_, ?_⟩
    · have := h1 j u hj
      rw [Nat.add_mul] at this
      rw [show o + l * s + i * s + j = o + (l * s + i * s) + j from by omega]; exact this
    · have e : ((xs.drop l).take (m - l))[i] = xs[l + i]'(by omega) := by simp
      rw [e]; exact h2
theorem OwnG.sub {α : Type} {s : Nat} {q : World → List Nat → List Value → α → Prop} {fp : List Nat} {A : Option Addr} {n c l m c' : Nat} {xs : List α} (hx : OwnG s q w fp A n c xs) (hlm : l ≤ m) (hmn : m ≤ xs.length) (hc' : m ≤ c' ∧ c' ≤ c) :
    ∃ fp', OwnG s q w fp' (subA A l c' s) (m - l) (c' - l) ((xs.drop l).take (m - l)) ∧ (∀ b ∈ fp', b ∈ fp) := by
  rcases hx with ⟨rfl, rfl, rfl, rfl, rfl⟩ | ⟨g, o, cells, e, fps, rfl, hg, hn, hnc, hcm, hsz, hl, rfl, hnd, hqs⟩
  · simp only [List.length_nil] at hmn
    obtain rfl : m = 0 := by omega
    obtain rfl : l = 0 := by omega
    obtain rfl : c' = 0 := by omega
    exact ⟨[], .inl ⟨by simp [subA], rfl, rfl, rfl, rfl⟩, fun _ h => h⟩
  · have hlen : ((xs.drop l).take (m - l)).length = m - l := by rw [List.length_take, List.length_drop]; omega
    have hsub : ∀ b ∈ ((fps.drop l).take (m - l)).flatten, b ∈ fps.flatten := by
      intro b hb
      obtain ⟨f, hf, hb⟩ := List.mem_flatten.1 hb
      exact List.mem_flatten.2 ⟨f, List.mem_of_mem_drop (List.mem_of_mem_take hf), hb⟩
    have hnd2 : (g :: ((fps.drop l).take (m - l)).flatten).Nodup := by
      refine List.nodup_cons.2 ⟨fun h => (List.nodup_cons.1 hnd).1 (hsub g h), ?_⟩
      exact (List.nodup_cons.1 hnd).2.sublist (sub_flat ((List.take_sublist _ _).trans (List.drop_sublist _ _)))
    have hlc : l * s ≤ c' * s := Nat.mul_le_mul_right _ (by omega)
    have hcc : c' * s ≤ c * s := Nat.mul_le_mul_right _ hc'.2
    refine ⟨g :: ((fps.drop l).take (m - l)).flatten, ?_, fun b hb => ?_⟩
    · by_cases hcl : c' = l
      · have hml : m = l := by omega
        refine .inr ⟨g, o, cells, e, (fps.drop l).take (m - l), by unfold subA; rw [if_pos hcl], hg, hlen.symm, by omega, by omega, ?_, ?_, rfl, hnd2, fun i hi => ?_⟩
        · rw [show c' - l = 0 by omega]; omega
        · rw [List.length_take, List.length_drop]; omega
        · omega
      · refine .inr ⟨g, o + l * s, cells, e, (fps.drop l).take (m - l), by unfold subA; rw [if_neg hcl]; simp only [Option.map_some]; rw [Addr.add_lit], hg, hlen.symm, by omega, by omega, ?_, ?_, rfl, hnd2, fun i hi hi' => ?_⟩
        · have : (c' - l) * s = c' * s - l * s := Nat.sub_mul ..
          omega
        · rw [List.length_take, List.length_drop]; omega
        · have e1 : ((xs.drop l).take (m - l))[i] = xs[l + i]'(by omega) := by simp
          have e2 : ((fps.drop l).take (m - l))[i] = fps[l + i]'(by omega) := by simp
          rw [e1, e2]
          have e3 : chk cells (o + l * s) s i = chk cells o s (l + i) := by
            refine chk_congr fun j hj => ?_
            rw [Nat.add_mul, show o + l * s + i * s + j = o + (l * s + i * s) + j from by omega]
          rw [e3]
          exact hqs (l + i) (by omega) (by omega)
    · rcases List.mem_cons.1 hb with rfl | hb
      · simp
      · exact List.mem_cons_of_mem _ (hsub b hb)

theorem Cx.subO {α : Type} [Rep α] {xs : List α} {h : Hd} {l m c' : Nat} (H : Cx w0 F S0 w (E (List α) xs h :: Γ)) (hlm : l ≤ m) (hmn : m ≤ xs.length) (hc' : m ≤ c' ∧ c' ≤ h.c) : Cx w0 F S0 w (E (List α) ((xs.drop l).take (m - l)) (h.sub l m c' (sz α)) :: Γ) := by
  obtain ⟨S, fp, I⟩ := H
  obtain ⟨f, g, rfl, h1, h2⟩ := I.all
  have h1 : OwnG (sz α) (qOf S) w f h.a h.n h.c xs := h1
  obtain ⟨f', k1, k2⟩ := h1.sub hlm hmn hc'
  obtain ⟨n1, n2, n3⟩ := List.nodup_append.1 I.nd
  exact ⟨S, f' ++ g, I.upd, I.s0, I.sb, ⟨f', g, rfl, k1, h2⟩, List.nodup_append.2 ⟨k1.nodup, n2, fun b hb c hc => n3 b (k2 b hb) c hc⟩, fun b hb => I.out b (by
    rcases List.mem_append.1 hb with hb | hb
    · exact List.mem_append_left _ (k2 b hb)
    · exact List.mem_append_right _ hb)⟩
theorem Vw.sub {α : Type} [Rep α] {xs : List α} {h : Hd} {l m c' : Nat} (hv : Vw w Γ (Es (List α) xs h)) (hlm : l ≤ m) (hmn : m ≤ xs.length) (hc' : m ≤ c' ∧ c' ≤ h.c) : Vw w Γ (Es (List α) ((xs.drop l).take (m - l)) (h.sub l m c' (sz α))) := by
  intro S fp hA
  obtain ⟨_, h2⟩ := hv S fp hA
  have h2 : RdG (sz α) (rOf _) w _ h.a h.n h.c xs := h2
  exact ⟨rfl, h2.sub hlm hmn hc'⟩
theorem Rdb.cap {α : Type} [Rep α] {xs : List α} {h : Hd} (hr : Rdb w xs h) : xs.length ≤ h.c := by obtain ⟨S, h1, h2, _⟩ := hr; omega

/-- xs[lo:hi] of one's own: the rest is let go -/
theorem slO {α : Type} [Rep α] {t e st bt be : Nat} {zt ze : Value} {ke : TK} {xs zs : List α} {h : Hd} {lo hi : Option Value} {l m : Int} {K : Value → World → Prop} (ok : EngOk P G) (ht : nthO G.tt t = some ⟨.slice e, st, bt, zt⟩) (he : nthO G.tt e = some ⟨ke, sz α, be, ze⟩) (H : Cx w0 F S0 w (E (List α) xs h :: Γ)) (hz : sliceO xs l m = some zs) (hlo : optI 0 lo = some l) (hhi : optI h.n hi = some m) (hK : ∀ h' : Hd, Cx w0 F S0 w (E (List α) zs h' :: Γ) → K h'.v w) : ERun P (Instr.sliceAt t h.v lo hi none) w K := by
  obtain ⟨l', m', rfl, rfl, hlm, hmn, rfl⟩ := sliceO_some hz
  have hc := (H.ro 0 rfl).cap
  exact erun_of (sl_run ok ht he l' m' hlo hhi hlm (by omega)) (hK (h.sub l' m' h.c (sz α)) (H.subO hlm hmn ⟨by omega, Nat.le_refl _⟩))
theorem slO3 {α : Type} [Rep α] {t e st bt be : Nat} {zt ze : Value} {ke : TK} {xs zs : List α} {h : Hd} {m : Int} {K : Value → World → Prop} (ok : EngOk P G) (ht : nthO G.tt t = some ⟨.slice e, st, bt, zt⟩) (he : nthO G.tt e = some ⟨ke, sz α, be, ze⟩) (H : Cx w0 F S0 w (E (List α) xs h :: Γ)) (hz : sliceO xs 0 m = some zs) (hK : ∀ h' : Hd, Cx w0 F S0 w (E (List α) zs h' :: Γ) → K h'.v w) : ERun P (Instr.sliceAt t h.v none (some (.int .i64 m)) (some (.int .i64 m))) w K := by
  obtain ⟨l', m', hl, rfl, hlm, hmn, rfl⟩ := sliceO_some hz
  obtain rfl : l' = 0 := by omega
  have hc := (H.ro 0 rfl).cap
  exact erun_of (sl3_run ok ht he m' m' rfl rfl (Nat.le_refl _) (by omega)) (hK (h.sub 0 m' m' (sz α)) (H.subO hlm hmn ⟨Nat.le_refl _, by omega⟩))
end
end Go.Proofs.YtnlbhdepagkjgaaDoor.RW
