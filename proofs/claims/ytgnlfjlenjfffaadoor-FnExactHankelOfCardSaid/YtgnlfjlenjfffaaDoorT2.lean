/-
  The laws' helpers on matrices (a number and rows of numbers) and on lists of them: sizes, copies, comparing, marks. Conditions: the arguments read so; sizes in range.
-/
import Derived.Test.YtgnlfjlenjfffaaDoorT1
namespace Go.Proofs.YtgnlfjlenjfffaaDoor
open Go
open Go.RowKit (Below)
open Go.Proofs.YtgnlfjlenjfffaaDoor.RW
open Rep Szn MkE

section
variable {β : Type} [Rep β] {w : World} {S : Nat → Prop} {v : Value}
theorem RW.RdV.pair {x : Int × List β} (h : RdV w S v x) : ∃ A n c, v = .agg #[.int .i64 x.1, .slice A n c] ∧ inI x.1 ∧ RdL w S A n c x.2 := by
  obtain ⟨cs, ⟨c1, c2, rfl, ⟨rfl, h1⟩, A, n, c, rfl, h2⟩, rfl⟩ := h
  exact ⟨A, n, c, rfl, h1, h2⟩
theorem RW.RdV.pair_mk {a : Int} {A : Option Addr} {n c : Nat} {l : List β} (ha : inI a) (h : RdL w S A n c l) : RdV w S (.agg #[.int .i64 a, .slice A n c]) (a, l) :=
  ⟨[.int .i64 a, .slice A n c], ⟨[.int .i64 a], [.slice A n c], rfl, ⟨rfl, ha⟩, A, n, c, rfl, h⟩, rfl⟩
theorem RW.OwnV.pair {fp : List Nat} {x : Int × List β} (h : OwnV w fp v x) : ∃ A n c, v = .agg #[.int .i64 x.1, .slice A n c] ∧ inI x.1 ∧ OwnL w fp A n c x.2 := by
  obtain ⟨cs, ⟨c1, c2, f1, f2, rfl, rfl, ⟨rfl, rfl, h1⟩, ⟨A, n, c, rfl, h2⟩, _⟩, rfl⟩ := h
  exact ⟨A, n, c, rfl, h1, h2⟩
theorem RW.own_pair {fp : List Nat} {a : Int} {A : Option Addr} {n c : Nat} {l : List β} (ha : inI a) (h : OwnL w fp A n c l) : own w fp [.int .i64 a, .slice A n c] (a, l) :=
  ⟨[.int .i64 a], [.slice A n c], [], fp, rfl, rfl, ⟨rfl, rfl, ha⟩, ⟨A, n, c, rfl, h⟩, by simpa using h.nodup⟩
theorem RW.OwnV.pair_mk {fp : List Nat} {a : Int} {A : Option Addr} {n c : Nat} {l : List β} (ha : inI a) (h : OwnL w fp A n c l) : OwnV w fp (.agg #[.int .i64 a, .slice A n c]) (a, l) :=
  ⟨[.int .i64 a, .slice A n c], own_pair ha h, rfl⟩
theorem RW.RdL.atM {A : Option Addr} {n c k : Nat} {xs : List (Int × List β)} (h : RdL w S A n c xs) (hk : k < xs.length) :
    ∃ b o A' n' c', A = some ⟨b, o, none⟩ ∧ S b ∧ (∀ j u, ([.int .i64 xs[k].1, .slice A' n' c'] : List Value)[j]? = some u → w.cell? (Addr.add (Addr.add ⟨b, o, none⟩ (k * 2)) j) = some u) ∧ inI xs[k].1 ∧ RdL w S A' n' c' xs[k].2 := by
  obtain ⟨b, o, cs, rfl, hb, h1, h2⟩ := RdL.at_ h hk
  obtain ⟨c1, c2, rfl, ⟨rfl, h3⟩, A', n', c', rfl, h4⟩ := h2
  exact ⟨b, o, A', n', c', rfl, hb, fun j u hj => by rw [Addr.add_lit, Addr.add_lit]; exact h1 j u hj, h3, h4⟩
/-- a field of an element: the rows -/
theorem RW.OwnL.atP {fp : List Nat} {A : Option Addr} {n c k : Nat} {xs : List (Int × List β)} (h : OwnL w fp A n c xs) (hk : k < xs.length) :
    ∃ b o v fk, A = some ⟨b, o, none⟩ ∧ w.cell? (Addr.add (Addr.add ⟨b, o, none⟩ (k * 2)) 1) = some v ∧ OwnV w fk v xs[k].2 ∧ (∀ x ∈ fk, x ∈ fp) ∧
      ∀ w' y, OwnV w' fk v y → Upd fk w w' → OwnL w' fp A n c (xs.set k (xs[k].1, y)) := by
  obtain ⟨g, o, cells, e, fk, rfl, hg, hsz, hgf, ho, hfk, hgk, hch⟩ := h.chg hk
  obtain ⟨c1, c2, f1, f2, hc, rfl, ⟨rfl, rfl, hi⟩, ⟨A', n', c', rfl, ho'⟩, _⟩ := ho
  simp only [List.nil_append] at hfk hgk hch
  refine ⟨g, o, .slice A' n' c', f2, rfl, ?_, OwnV.list_mk ho', hfk, fun w' y hy hu => ?_⟩
  · rw [Addr.add_lit, Addr.add_lit]
    exact chk_cell (s := sz (Int × List β)) (j := 1) hg (by rw [hc]; rfl)
  · obtain ⟨A2, n2, c2, e2, hy2⟩ := hy.list
    injection e2 with e3 e4 e5
    subst e3; subst e4; subst e5
    obtain ⟨fp', h1, h2, h3⟩ := hch w' cells f2 f2 (xs[k].1, y) ((hu.block g (lt_of_some hg) hgk).trans hg) rfl (fun _ _ _ => rfl) (by rw [hc]; exact own_pair hi hy2) (fun b hb => .inl hb) hu (fun b hb => .inr (.inl hb))
    rw [h3 rfl] at h1
    exact h1
/-- the number of an element written -/
theorem stP {fp : List Nat} {b o : Nat} {n c k : Nat} {xs : List (Int × List β)} {a : Int} (hown : OwnL w fp (some ⟨b, o, none⟩) n c xs) (hk : k < xs.length) (ha : inI a) {K : World → Prop}
    (hK : ∀ w', OwnL w' fp (some ⟨b, o, none⟩) n c (xs.set k (a, xs[k].2)) → Upd fp w w' → K w') : EStore (.pointer (some (Addr.add (Addr.add ⟨b, o, none⟩ (k * 2)) 0))) (.int .i64 a) w K := by
  have hn := hown.n_eq
  obtain ⟨g, o', cells, e, fk, hA, hg, hsz, hgf, ho, hfk, hgk, hch⟩ := hown.chg hk
  obtain ⟨c1, c2, f1, f2, hc, rfl, ⟨rfl, rfl, hi⟩, ⟨A', n', c', rfl, ho'⟩, _⟩ := ho
  simp only [List.nil_append] at hfk hgk hch
  simp only [Option.some.injEq, Addr.mk.injEq] at hA
  obtain ⟨rfl, rfl, _⟩ := hA
  have hs2 : sz (Int × List β) = 2 := rfl
  rw [hs2] at hsz hch hc
  have hlt : o + k * 2 + 0 < cells.size := by omega
  have hu : Upd [b] w (w.setCell ⟨b, o + k * 2 + 0, none⟩ (.int .i64 a)) := Upd.setCell w ⟨b, o + k * 2 + 0, none⟩ (.int .i64 a)
  refine .mk ?_
  refine ⟨_, cells[o + k * 2 + 0], rfl, ?_, ?_, rfl, ?_⟩
  · rw [Addr.add_lit, Addr.add_lit, cell_of_row w b _ cells e (0, 0) hg, Array.getElem?_eq_getElem hlt]
  · rw [Addr.add_lit, Addr.add_lit]; exact frozen_of_row w b _ cells e hg
  · rw [Addr.add_lit, Addr.add_lit]
    have hch2 : chk (cells.setIfInBounds (o + k * 2 + 0) (.int .i64 a)) o 2 k = [.int .i64 a, .slice A' n' c'] := by
      apply List.ext_getElem?
      intro j
      by_cases hj : j < 2
      · rw [chk_get hj]
        have h1 : (chk cells o 2 k)[j]? = ([Value.int .i64 xs[k].1] ++ [.slice A' n' c'])[j]? := by rw [hc]
        rw [chk_get hj] at h1
        rcases (by omega : j = 0 ∨ j = 1) with rfl | rfl
        · rw [Array.getElem?_setIfInBounds_self_of_lt hlt]; rfl
        · rw [Array.getElem?_setIfInBounds_ne (by omega), h1]; rfl
      · rw [chk_get_none (by omega), List.getElem?_eq_none (by simp; omega)]
    obtain ⟨fp', h1, h2, h3⟩ := hch _ _ f2 [b] (a, xs[k].2) (setCell_heap (.int .i64 a) hg) (by simp) (fun i hik hil => chk_congr fun j hj => by
        have hne : o + k * 2 + 0 ≠ o + i * 2 + j := by omega
        rw [Array.getElem?_setIfInBounds_ne hne]) (by rw [hch2]; exact own_pair ha (OwnL.upd ho' hu (fun x hx h => hgk (by simp only [List.mem_singleton] at h; subst h; exact hx)))) (fun b hb => .inl hb) hu (fun b hb => .inl (by simpa using hb))
    rw [h3 rfl] at h1
    exact hK _ h1 (hu.mono fun b hb => .inl (by simp only [List.mem_singleton] at hb; subst hb; exact hgf))
end

theorem szMatrix_t : SzC (Int × List (List Int)) 27 := by
  intro v x S l w h hS hl
  obtain ⟨A, n, c, rfl, hi, hr⟩ := h.pair
  refine enter (args := [_, _]) gok Tryd.func27 rfl rfl rfl rfl rfl ?_
  refine box_ ?_
  intro w1 hb hu1 _
  refine fld gok rfl rfl rfl rfl (load1 (hb.get rfl) ?_)
  refine call (szIntSS_t _ _ _ _ _ (RdV.list_mk (hr.keep (Rep.rd_keep fun b hb => hu1.block b (hS b hb) (by simp)) (fun b hb => hu1.block b (hS b hb) (by simp)))) (fun b hb => Nat.lt_of_lt_of_le (hS b hb) hu1.size) hl) ?_
  rintro _ w2 ⟨rfl, hu2⟩
  refine ⟨_, rfl, ?_⟩
  have e : szn x = szn x.2 := rfl
  refine cmp (fun h1 => ?_) (fun h1 => ?_)
  · have := szOut_lt h1
    exact ⟨by rw [szOut_neg (by omega)], hu1.trans hu2 (fun _ h => by cases h)⟩
  · exact ⟨by rw [e], hu1.trans hu2 (fun _ h => by cases h)⟩
theorem szMatrixS_t : SzC (List (Int × List (List Int))) 7 := by
  intro v x S l w h hS hl
  obtain ⟨A, n, c, rfl, hr⟩ := h.list
  obtain rfl := hr.1
  have hmm : maxLen = 9223372036854775807 := rfl
  have hcm := hr.2.2.1
  have hlc := hr.2.1
  have e : szn x = x.length + (x.map szn).sum := rfl
  refine enter (args := [_, _]) gok Tryd.func7 rfl rfl rfl rfl rfl ?_
  refine ar (by omega) ?_
  refine cmp (fun h1 => ?_) (fun h1 => ?_)
  · exact ⟨by rw [szOut_neg (by omega)], Upd.refl _ _⟩
  refine loop (fun i : Nat => [(0, .slice A x.length c), (1, .int .i64 (l - szU x i)), (5, .int .i64 i)])
    (fun i w' => Ext w w' ∧ i ≤ x.length ∧ (szU x i : Int) ≤ l) (fun i => x.length - i) 0 ⟨rfl, by rw [szU_zero]; rfl, rfl, trivial⟩ ⟨Upd.refl _ _, Nat.zero_le _, by rw [szU_zero]; omega⟩ ?_
  rintro T0 i w2 ⟨hu, hi, hs⟩
  have hr2 : RdL w2 S A x.length c x := hr.keep (Rep.rd_keep fun b hb => hu.block b (hS b hb) (by simp)) (fun b hb => hu.block b (hS b hb) (by simp))
  refine cmp (fun hlt => ?_) (fun hlt => ?_)
  · have hlt' : i < x.length := by omega
    have st := szU_step hlt'
    have le := szU_le x (i + 1)
    obtain ⟨b, o, A', n', c', rfl, _, hc, hi1, hv⟩ := hr2.atM hlt'
    refine idx i rfl hlt' (loadN [.int .i64 x[i].1, .slice A' n' c'] rfl hc ?_)
    refine call (szMatrix_t _ _ _ _ _ (RdV.pair_mk hi1 hv) (fun b hb => Nat.lt_of_lt_of_le (hS b hb) hu.size) (by omega)) ?_
    rintro _ w3 ⟨rfl, hu3⟩
    refine ⟨_, rfl, ?_⟩
    refine cmp (fun h2 => ?_) (fun h2 => ?_)
    · have := szOut_lt h2
      have e2 : szn (x[i].1, x[i].2) = szn x[i] := rfl
      exact ⟨by rw [szOut_neg (by omega)], hu.trans hu3 (fun _ h => by cases h)⟩
    · have := szOut_ge h2
      have e2 : szn (x[i].1, x[i].2) = szn x[i] := rfl
      refine ar (by omega) ?_
      refine ⟨i + 1, ⟨rfl, ?_, rfl, trivial⟩, ⟨hu.trans hu3 (fun _ h => by cases h), hlt', by omega⟩, by omega⟩
      show Value.int .i64 _ = Value.int .i64 _
      rw [szOut_pos this]; congr 1; omega
  · have : i = x.length := by omega
    subst this
    have := szU_all x
    exact ⟨by rw [szOut_pos (by omega)]; congr 1; congr 1; omega, hu⟩
set_option maxRecDepth 10000 in
theorem toMatrix_t : ToC (Int × List (List Int)) (fun x => szn x ≤ 1048576) 30 := by
  intro v x S w h hS hl
  obtain ⟨A, n, c, rfl, hi, hr⟩ := h.pair
  refine enterC (args := [_]) gok Tryd.func30 rfl _ rfl rfl rfl ?_
  refine box_ ?_
  intro w1 hb1 hu1 l1
  refine alloc_ gok rfl ?_
  intro w2 hb2 hu2 l2
  refine alloc_ gok rfl ?_
  intro w3 hb3 hu3 l3
  have hb1' := (hb1.ext hu2).ext hu3
  refine fld gok rfl rfl rfl rfl (load1 (hb1'.get rfl) ?_)
  refine fld gok rfl rfl rfl rfl (stB hb3 (by decide) rfl ?_)
  intro w4 hb4 hu4
  have hu14 : Ext w w4 := ((hu1.trans hu2 (fun _ h => by cases h)).trans hu3 (fun _ h => by cases h)).trans (fp := []) hu4 (fun b hb => .inr (by simp only [List.mem_singleton] at hb; omega))
  have hb1'' := hb1'.upd hu4 (by simp; omega)
  have hb2' := (hb2.ext hu3).upd hu4 (by simp; omega)
  refine fld gok rfl rfl rfl rfl (load1 (hb1''.get rfl) ?_)
  refine call (toIntSS_t _ _ _ _ (RdV.list_mk (hr.keep (Rep.rd_keep fun b hb => hu14.block b (hS b hb) (by simp)) (fun b hb => hu14.block b (hS b hb) (by simp)))) (fun b hb => Nat.lt_of_lt_of_le (hS b hb) hu14.size) hl) ?_
  rintro _ w5 ⟨r, rfl, ⟨fr, hor, hfr⟩, hu5⟩
  refine ⟨_, rfl, ?_⟩
  obtain ⟨Ar, nr, cr, rfl, hol⟩ := hor.list
  have hb4' := hb4.ext hu5
  have hb2'' := hb2'.ext hu5
  refine fld gok rfl rfl rfl rfl (stB hb4' (by simp [Value.cells]) rfl ?_)
  intro w6 hb6 hu6
  have hb6 : Blk w6 _ [.int .i64 x.1, .slice Ar nr cr] := hb6
  have hs4 := hu14.size
  have hs5 := hu5.size
  refine loadN [.int .i64 x.1, .slice Ar nr cr] rfl hb6.all ?_
  refine stA (cs' := #[.int .i64 x.1, .slice Ar nr cr]) gok rfl (hb2''.upd hu6 (by simp; omega)) rfl (by simp [Value.oneCell']) ?_
  intro w7 hb7 hu7
  have e2 : w.heap.size < w2.heap.size := by omega
  refine loadN [.int .i64 x.1, .slice Ar nr cr] rfl hb7.all ?_
  refine ⟨_, rfl, ⟨fr, OwnV.pair_mk hi (OwnL.upd (OwnL.upd hol hu6 (fun b hb h => ?_)) hu7 (fun b hb h => ?_)), fun b hb => ?_⟩, ?_⟩
  · have := hfr b hb; simp only [List.mem_singleton] at h; have := hb4.lt; omega
  · have := hfr b hb; simp only [List.mem_singleton] at h; have := hb2'.lt; omega
  · have := hfr b hb; omega
  · exact ((hu14.trans hu5 (fun _ h => by cases h)).trans (fp := []) hu6 (fun b hb => .inr (by simp only [List.mem_singleton] at hb; omega))).trans (fp := []) hu7 (fun b hb => .inr (by simp only [List.mem_singleton] at hb; omega))
end Go.Proofs.YtgnlfjlenjfffaaDoor
