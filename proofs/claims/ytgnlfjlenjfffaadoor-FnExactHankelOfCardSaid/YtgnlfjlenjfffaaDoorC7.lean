/-
  The rows of a Hankel matrix, the program's. Conditions: the blocks are a response; the indices are in range.
-/
import Derived.Test.YtgnlfjlenjfffaaDoorC6
namespace Go.Proofs.YtgnlfjlenjfffaaDoor
open Go
open Go.RowKit (Below)
open Go.Proofs.YtgnlfjlenjfffaaDoor.RW
open Rep Szn MkE

/-- out[k] read, its row changed or grown, and put back -/
theorem RW.OwnL.stK {β : Type} [Rep β] {w : World} {fp : List Nat} {A : Option Addr} {n c k : Nat} {xs : List (List β)} (hown : OwnL w fp A n c xs) (hk : k < xs.length) :
    ∃ g o v fk, A = some ⟨g, o, none⟩ ∧ w.cell? (Addr.add ⟨g, o, none⟩ (k * 1)) = some v ∧ OwnV w fk v xs[k] ∧ (∀ b ∈ fk, b ∈ fp) ∧
      ∀ (w6 : World) (v6 : Value) (y : List β) (fr : List Nat) (K : World → Prop), Upd fk w w6 → OwnV w6 fr v6 y → (∀ b ∈ fr, b ∈ fk ∨ w.heap.size ≤ b) →
        (∀ w7 fp', OwnL w7 fp' A n c (xs.set k y) → Upd fp w w7 → (∀ b ∈ fp', b ∈ fp ∨ w.heap.size ≤ b) → K w7) → EStore (.pointer (some (Addr.add ⟨g, o, none⟩ (k * 1)))) v6 w6 K := by
  have hn := hown.n_eq
  have hlt0 := hown.lt own_lt
  obtain ⟨g, o, cells, e, fk, rfl, hg, hsz, hgf, ho, hfk, hgk, hch⟩ := hown.chg hk
  obtain ⟨A', n', c', hc, ho'⟩ := ho
  have hs1 : sz (List β) = 1 := rfl
  rw [hs1] at hsz
  have hlt : o + k * 1 < cells.size := by omega
  refine ⟨g, o, .slice A' n' c', fk, rfl, ?_, OwnV.list_mk ho', hfk, ?_⟩
  · rw [Addr.add_lit]
    exact chk_cell (s := sz (List β)) (j := 0) hg (by rw [hc]; rfl)
  · intro w6 v6 y fr K hu6 hy hfr hK
    obtain ⟨A2, n2, c2, rfl, hy2⟩ := hy.list
    have hg6 : w6.heap[g]? = some (.cells cells e (0, 0)) := (hu6.block g (lt_of_some hg) hgk).trans hg
    have hgr : g ∉ fr := fun h => by
      rcases hfr g h with h1 | h1
      · exact hgk h1
      · have := lt_of_some hg; omega
    have hu : Upd [g] w6 (w6.setCell ⟨g, o + k * 1, none⟩ (.slice A2 n2 c2)) := Upd.setCell w6 ⟨g, o + k * 1, none⟩ (.slice A2 n2 c2)
    have hut : Upd (g :: fk) w (w6.setCell ⟨g, o + k * 1, none⟩ (.slice A2 n2 c2)) := (hu6.mono (fun b hb => .inl (List.mem_cons_of_mem _ hb))).trans hu (fun b hb => .inl (by simp only [List.mem_singleton] at hb; subst hb; simp))
    have hcell : chk (cells.setIfInBounds (o + k * 1) (.slice A2 n2 c2)) o 1 k = [.slice A2 n2 c2] := by
      apply List.ext_getElem?
      intro j
      by_cases hj : j < 1
      · obtain rfl : j = 0 := by omega
        rw [chk_get (by decide), Nat.add_zero, Array.getElem?_setIfInBounds_self_of_lt hlt]
        rfl
      · rw [chk_get_none (by omega), List.getElem?_eq_none (by simp; omega)]
    obtain ⟨fp', h1, h2, _⟩ := hch _ _ fr (g :: fk) y (setCell_heap (.slice A2 n2 c2) hg6) (by simp) (fun i hi hil => chk_congr fun j hj => by
        rw [hs1] at hj
        rw [hs1]
        have hne : o + k * 1 ≠ o + i * 1 + j := by omega
        rw [Array.getElem?_setIfInBounds_ne hne])
      ⟨A2, n2, c2, by rw [hs1, hcell], OwnL.upd hy2 hu (fun b hb h => hgr (by simp only [List.mem_singleton] at h; subst h; exact hb))⟩
      (fun b hb => by
        rcases hfr b hb with h | h
        · exact .inl h
        · exact .inr (fun h' => by have := hlt0 b h'; omega)) hut
      (fun b hb => by
        rcases List.mem_cons.1 hb with h | h
        · exact .inl h
        · exact .inr (.inl h))
    refine .mk ?_
    refine ⟨_, cells[o + k * 1], rfl, ?_, ?_, rfl, ?_⟩
    · rw [Addr.add_lit, cell_of_row w6 g _ cells e (0, 0) hg6, Array.getElem?_eq_getElem hlt]
    · rw [Addr.add_lit]; exact frozen_of_row w6 g _ cells e hg6
    · rw [Addr.add_lit]
      refine hK _ fp' h1 (hut.mono fun b hb => .inl ?_) (fun b hb => ?_)
      · rcases List.mem_cons.1 hb with rfl | h
        · exact hgf
        · exact hfk b h
      · rcases h2 b hb with h | h
        · exact .inl h
        · rcases hfr b h with h | h
          · exact .inl (hfk b h)
          · exact .inr h

theorem set_same {α : Type} {l : List α} {i : Nat} {d : α} (h : i < l.length) (e : l[i] = d) : l.set i d = l := by subst e; exact List.set_getElem_self _
def bsRow (bl : List Mx) (u : Nat) : Nat → List Int
  | 0 => []
  | j + 1 => bsRow bl u j ++ (bl.getD j (0, [])).2.getD u []
def bsAll (bl : List Mx) (rows : Nat) : List (List Int) := (List.range rows).map fun u => bsRow bl u bl.length
theorem bsAll_len (bl : List Mx) (rows : Nat) : (bsAll bl rows).length = rows := by simp [bsAll]
theorem bsAll_get {bl : List Mx} {rows u : Nat} (h : u < rows) : (bsAll bl rows)[u]'(by rw [bsAll_len]; exact h) = bsRow bl u bl.length := by simp [bsAll]

set_option maxRecDepth 10000 in
theorem beside_c (v : Value) (bl : List Mx) (rows : Nat) (S : Nat → Prop) (w : World) (h : RdV w S v bl) (hS : ∀ b, S b → b < w.heap.size) (hr8 : rows ≤ 8) (hb60 : bl.length ≤ 60)
    (hsh : ∀ k (hk : k < bl.length), bl[k].2.length = rows ∧ ∀ u (hu : u < bl[k].2.length), bl[k].2[u].length ≤ 8) :
    Calls Tryd.prog 54 #[.int .i64 rows, v] w fun e w' => ∃ r, e = .returned r ∧ Fresh w.heap.size w' r (bsAll bl rows) ∧ Ext w w' := by
  obtain ⟨A, n, c, rfl, hr⟩ := h.list
  obtain rfl := hr.1
  have hmm : maxLen = 9223372036854775807 := rfl
  have hal := bsAll_len bl rows
  refine enter (args := [_, _]) gok Tryd.func54 rfl rfl rfl rfl rfl ?_
  refine make_ (α := List Int) gok rfl rfl rfl rows rows rfl rfl (Nat.le_refl _) (by omega) (by omega) ?_
  intro A1 w1 ho hu1
  refine loop (fun i : Nat => [(1, .slice A bl.length c), (5, .slice A1 rows rows), (12, .int .i64 rows), (13, .int .i64 i)])
    (fun i w' => Ext w w' ∧ i ≤ rows ∧ ∃ fp, OwnL w' fp A1 rows rows ((bsAll bl rows).take i ++ List.replicate (rows - i) []) ∧ ∀ b ∈ fp, w.heap.size ≤ b) (fun i => rows - i) 0 ⟨rfl, rfl, rfl, rfl, trivial⟩
    ⟨hu1, Nat.zero_le _, _, ho, fun b hb => by simp only [List.mem_singleton] at hb; omega⟩ ?_
  rintro T0 i w2 ⟨hu, hi, fp, hown, hfp⟩
  refine cmp (fun hlt => ?_) (fun hlt => ?_)
  rotate_left
  · have : i = rows := by omega
    subst this
    refine ⟨_, rfl, ⟨fp, OwnV.list_mk ?_, hfp⟩, hu⟩
    have e : (bsAll bl i).take i ++ List.replicate (i - i) [] = bsAll bl i := by rw [List.take_of_length_le (by omega)]; simp
    rw [e] at hown; exact hown
  have hlt' : i < rows := by omega
  have hil : i < ((bsAll bl rows).take i ++ List.replicate (rows - i) ([] : List Int)).length := by simp [hal]; omega
  have hset0 : ((bsAll bl rows).take i ++ List.replicate (rows - i) ([] : List Int)).set i (bsRow bl i 0) = (bsAll bl rows).take i ++ List.replicate (rows - i) [] := by
    have : ((bsAll bl rows).take i ++ List.replicate (rows - i) ([] : List Int))[i] = [] := by
      rw [List.getElem_append_right (by simp [hal]; omega)]; simp
    exact set_same hil this
  refine loop (fun j : Nat => [(1, .slice A bl.length c), (5, .slice A1 rows rows), (6, .int .i64 i), (12, .int .i64 rows), (13, .int .i64 i), (16, .slice A bl.length c), (17, .int .i64 bl.length), (18, .int .i64 j)])
    (fun j w' => Ext w w' ∧ j ≤ bl.length ∧ (bsRow bl i j).length ≤ 8 * j ∧ ∃ fp, OwnL w' fp A1 rows rows (((bsAll bl rows).take i ++ List.replicate (rows - i) []).set i (bsRow bl i j)) ∧ ∀ b ∈ fp, w.heap.size ≤ b) (fun j => bl.length - j) 0 ⟨rfl, rfl, rfl, rfl, rfl, rfl, rfl, rfl, trivial⟩
    ⟨hu, Nat.zero_le _, Nat.zero_le _, fp, by rw [hset0]; exact hown, hfp⟩ ?_
  rintro T1 j w3 ⟨hu3, hj, hlj, fp3, hown3, hfp3⟩
  refine cmp (fun hlt2 => ?_) (fun hlt2 => ?_)
  rotate_left
  · have : j = bl.length := by omega
    subst this
    refine ar (by omega) ?_
    refine ⟨i + 1, ⟨rfl, rfl, rfl, rfl, trivial⟩, ⟨hu3, hlt', fp3, ?_, hfp3⟩, by omega⟩
    have e := take_rep_set (xs := bsAll bl rows) (d := []) (i := i) (by omega)
    rw [bsAll_get hlt', hal] at e
    rw [e] at hown3; exact hown3
  have hlt2' : j < bl.length := by omega
  obtain ⟨hs1, hs2⟩ := hsh j hlt2'
  have hiu : i < bl[j].2.length := by omega
  have hs3 := hs2 i hiu
  have ej : bl.getD j (0, []) = bl[j] := getDq hlt2'
  have ei : bl[j].2.getD i [] = bl[j].2[i] := getDq hiu
  obtain ⟨b1, o1, A2, n2, c2, rfl, hSb, hc1, hi1, hv1⟩ := (hr.ext_ hS hu3).atM hlt2'
  refine idx j rfl hlt2' (loadN [.int .i64 bl[j].1, .slice A2 n2 c2] rfl hc1 ?_)
  refine alloc_ gok rfl ?_
  intro w4 hb4 hu4 l4
  refine stA (cs' := #[.int .i64 bl[j].1, .slice A2 n2 c2]) gok rfl hb4 rfl (by simp [Value.oneCell']) ?_
  intro w5 hb5 hu5
  have hu35 : Ext w3 w5 := hu4.trans (fp := []) hu5 (fun b hb => .inr (by simp only [List.mem_singleton] at hb; omega))
  have hu5' : Ext w w5 := hu3.trans hu35 (fun _ h => by cases h)
  have hown5 := OwnL.ext hown3 hu35
  have hkl : i < (((bsAll bl rows).take i ++ List.replicate (rows - i) ([] : List Int)).set i (bsRow bl i j)).length := by simpa using hil
  have hown5d := OwnL.ext hown5 (ext_drewN 1)
  obtain ⟨g, o, vi, fk, rfl, hci, hoi, hfk, hst⟩ := hown5d.stK hkl
  have hgi : (((bsAll bl rows).take i ++ List.replicate (rows - i) ([] : List Int)).set i (bsRow bl i j))[i] = bsRow bl i j := by simp
  rw [hgi] at hoi
  obtain ⟨Ai, ni, ci, rfl, hoiL⟩ := hoi.list
  have eni := hoiL.n_eq
  obtain ⟨b6, o6, v6, hA6, hc6, hv6⟩ := RdL.atL (hv1.ext_ (fun b hb => Nat.lt_of_lt_of_le (hS b hb) hu3.size) hu35) hiu
  subst hA6
  obtain ⟨A7, n7, c7, rfl, hv7⟩ := hv6.list
  have en7 := hv7.1
  have hSf : ∀ b, S b → b ∉ fp3 := fun b hb h => by have := hS b hb; have := hfp3 b h; omega
  have hb6S : S b6 := by
    obtain ⟨b', o', e', hb', _⟩ := hv1.2.2.2 (by omega)
    injection e' with e'; injection e' with e1 e2
    rw [e1]; exact hb'
  have hb3 : w3.heap.size ∉ fp3 := fun h => by have := hown3.lt own_lt _ h; omega
  refine held (Upd fp3 w5) [(false, 0), (false, 1), (false, 2), (false, 3), (false, 4), (false, 6), (false, 8), (false, 7), (false, 9), (false, 10), (true, 5), (true, 11), (false, 12), (true, 13)] mixed (by kernel_rfl) ((ext_drewN 1).mono (fun _ h => by cases h)) ?_
  refine idx i rfl hlt' ?_
  refine anyH (fun w' => fld gok rfl rfl rfl rfl ⟨rfl, rfl⟩) ?_
  refine loadH (fun w' hw' => (hb5.upd hw' hb3).get rfl) ?_
  refine idx i rfl (by have := hv1.1; omega) ?_
  refine loadH (cellU hc6 (by rw [Addr.add_lit]; exact hSf _ hb6S)) ?_
  refine load1 hci (hold ((ext_drewN 1).mono (fun _ h => by cases h)) ?_)
  refine appS gok rfl rfl hoiL ((hv7.ext_ (fun b hb => Nat.lt_of_lt_of_le (hS b hb) hu5'.size) (ext_drewN 1))) (by omega) ?_
  intro A8 c8 w8 fp8 ho8 hu8 hf8
  refine hold (((ext_drewN 1).mono (fun _ h => by cases h)).trans hu8 (fun b hb => .inl (hfk b hb))) ?_
  refine idx i rfl hlt' ?_
  refine hst w8 _ _ fp8 _ hu8 (OwnV.list_mk ho8) hf8 ?_
  intro w9 fp9 hown9 hu9 hf9
  refine hold (((ext_drewN 1).mono (fun _ h => by cases h)).trans hu9 (fun b hb => .inl hb)) ?_
  refine ar (by omega) ?_
  rw [List.set_set] at hown9
  have hu59 : Ext w w9 := (hu5'.trans (ext_drewN 1) (fun _ h => by cases h)).trans (fp := []) hu9 (fun b hb => .inr (hfp3 b hb))
  refine ⟨j + 1, ⟨rfl, rfl, rfl, rfl, rfl, rfl, rfl, rfl, trivial⟩, ⟨hu59, hlt2', ?_, fp9, ?_, fun b hb => ?_⟩, by omega⟩
  · simp only [bsRow, List.length_append, ej, ei]; omega
  · simp only [bsRow, ej, ei]; exact hown9
  · rcases hf9 b hb with h | h
    · exact hfp3 b h
    · exact Nat.le_trans hu5'.size h
end Go.Proofs.YtgnlfjlenjfffaaDoor
