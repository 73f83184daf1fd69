/-
  Two elements of a list of one's own exchanged, by two stores ('EZ': the first is done); another element of a list that has a hole is read. No condition.
-/
import Derived.Test.YtnlbhdepagkjgaaDoorZOps5
namespace Go.Proofs.YtnlbhdepagkjgaaDoor

namespace RW
open Go
open Go.RowKit (Below)
open Rep RepZ

section
variable {P : Program} {G : Eng} {w0 w : World} {F : List Nat} {S0 : Nat → Prop} {Γ : List Ent}

/-- a known element's facts -/
theorem Cx.kn {α : Type} [Rep α] {xs : List α} {h : Hd} {ks : List (Kn α)} {k : Kn α} (H : Cx w0 F S0 w Γ) (i : Nat) (hi : entAt Γ i = EH α xs h ks) (j : Nat) (hj : ks[j]? = some k) : KnOk w xs h k := by
  obtain ⟨S, fp, h1, h2⟩ := H.at_ i hi
  exact h2 k (List.mem_of_getElem? hj)
/-- another element of a list that has a hole -/
theorem Vw.ex {α : Type} [Rep α] {xs : List α} {h : Hd} {m : Nat} {cs : List Value} {k : Kn α} (i : Nat) (hi : entAt Γ i = EX α m cs xs h) (hk : KnOk w xs h k) (hm : k.m ≠ m) : Vw w Γ (Es α k.x k.g) := by
  intro S fp hA
  obtain ⟨f, h1, h2⟩ := hA.ent i
  rw [hi] at h1
  obtain ⟨b, o, cells, e, fps, ha, hg, hn, hnc, hcm, hsz, hl, hml, hc, rfl, hnd, hqs⟩ := h1
  obtain ⟨hx, b', o', ha', hcl⟩ := hk
  rw [ha] at ha'
  simp only [Option.some.injEq, Addr.mk.injEq, and_true] at ha'
  obtain ⟨rfl, rfl⟩ := ha'
  obtain ⟨hkl, he⟩ := List.getElem?_eq_some_iff.1 hx
  have hkf : k.m < fps.length := by omega
  obtain ⟨g, k1, k2⟩ := hqs k.m hkl hkf hm
  rw [he] at k1 k2
  have hgg : g = k.g := by
    refine cl_inj k.x _ _ (List.ext_getElem? fun j => ?_)
    by_cases hj : j < sz α
    · have l1 : j < (cl k.x g).length := by rw [cl_len]; exact hj
      have l2 : j < (cl k.x k.g).length := by rw [cl_len]; exact hj
      have e1 := chk_cell (s := sz α) (o := o) (i := k.m) (j := j) hg (u := (cl k.x g)[j]) (by rw [k1]; exact List.getElem?_eq_getElem l1)
      have e2 := hcl j _ (List.getElem?_eq_getElem l2)
      rw [e1] at e2
      rw [List.getElem?_eq_getElem l1, List.getElem?_eq_getElem l2]; exact e2
    · rw [List.getElem?_eq_none (by rw [cl_len]; omega), List.getElem?_eq_none (by rw [cl_len]; omega)]
  subst hgg
  refine ⟨rfl, rd_mono (fun y hy => ?_) (own_rd k2)⟩
  rcases hy with hy | hy
  · exact .inl hy
  · refine .inr (h2 y (List.mem_cons_of_mem _ (List.mem_flatten.2 ⟨fps[k.m], ?_, hy⟩)))
    have : (fps.set m [])[k.m]'(by simpa using hkf) = fps[k.m] := List.getElem_set_ne (Ne.symm hm) _
    rw [← this]; exact List.getElem_mem _

/-- xs, whose element i's cells hold what element j's hold; element i itself is still there -/
def EZ (α : Type) [Rep α] (i j : Nat) (a b : α) (ga gb : Gh α) (xs : List α) (h : Hd) : Ent := ⟨fun w S fp => ∃ (g o : Nat) (cells : Array Value) (e : TypeId) (fps : List (List Nat)), h.a = some ⟨g, o, none⟩ ∧ w.heap[g]? = some (.cells cells e (0, 0)) ∧ h.n = xs.length ∧ h.n ≤ h.c ∧ h.c ≤ maxLen ∧ o + h.c * sz α ≤ cells.size ∧
    fps.length = xs.length ∧ xs[i]? = some a ∧ xs[j]? = some b ∧ chk cells o (sz α) i = cl b gb ∧ chk cells o (sz α) j = cl b gb ∧ fp = g :: fps.flatten ∧ fp.Nodup ∧ (∀ f, fps[i]? = some f → own w S f a ga) ∧ (∀ f, fps[j]? = some f → own w S f b gb) ∧
    ∀ k (hk : k < xs.length) (hk' : k < fps.length), k ≠ i → k ≠ j → qOf S w fps[k] (chk cells o (sz α) k) xs[k],
  fun hS ⟨g, o, cells, e, fps, h1, h2, h3, h4, h5, h6, h7, h8, h9, h10, h11, h12, h13, h14, h15, h16⟩ => ⟨g, o, cells, e, fps, h1, h2, h3, h4, h5, h6, h7, h8, h9, h10, h11, h12, h13, fun f hf => own_mono hS (h14 f hf), fun f hf => own_mono hS (h15 f hf),
    fun k hk hk' a b => by obtain ⟨g, k1, k2⟩ := h16 k hk hk' a b; exact ⟨g, k1, own_mono hS k2⟩⟩,
  fun {_ _ _ fp} hS hf ⟨g, o, cells, e, fps, h1, h2, h3, h4, h5, h6, h7, h8, h9, h10, h11, h12, h13, h14, h15, h16⟩ => by
    have hin : ∀ (k : Nat) (f : List Nat), fps[k]? = some f → ∀ x ∈ f, x ∈ fp := fun k f hk x hx => (show x ∈ fp by rw [h12]; exact List.mem_cons_of_mem _ (List.mem_flatten.2 ⟨f, List.mem_of_getElem? hk, hx⟩))
    exact ⟨g, o, cells, e, fps, h1, by rw [hf g (by rw [h12]; simp)]; exact h2, h3, h4, h5, h6, h7, h8, h9, h10, h11, h12, h13, fun f hk => own_keep hS (fun x hx => hf x (hin i f hk x hx)) (h14 f hk), fun f hk => own_keep hS (fun x hx => hf x (hin j f hk x hx)) (h15 f hk),
      fun k hk hk' a b => q_keep hS (fun x hx => hf x (hin k _ (List.getElem?_eq_getElem hk') x hx)) (h16 k hk hk' a b)⟩,
  fun ⟨g, o, cells, e, fps, h1, h2, h3, h4, h5, h6, h7, h8, h9, h10, h11, h12, h13, h14, h15, h16⟩ x hx => by
    rw [h12] at hx
    rcases List.mem_cons.1 hx with rfl | hx
    · exact lt_of_some h2
    · obtain ⟨f, hf, hx⟩ := List.mem_flatten.1 hx
      obtain ⟨k, hk, rfl⟩ := List.mem_iff_getElem.1 hf
      by_cases hi : k = i
      · subst hi; exact own_lt (h14 _ (List.getElem?_eq_getElem hk)) x hx
      · by_cases hj : k = j
        · subst hj; exact own_lt (h15 _ (List.getElem?_eq_getElem hk)) x hx
        · exact q_lt (h16 k (by omega) hk hi hj) x hx⟩

theorem chk1 {cells : Array Value} {o i : Nat} {u : Value} (h : cells[o + i]? = some u) : chk cells o 1 i = [u] := by
  apply List.ext_getElem?
  intro j
  by_cases hj : j < 1
  · obtain rfl : j = 0 := by omega
    rw [chk_get (by omega)]
    rw [show o + i * 1 + 0 = o + i by omega, h]; rfl
  · rw [chk_get_none (by omega)]; cases j with
    | zero => omega
    | succ j => simp
/-- the first store of an exchange -/
theorem stZ1 {β : Type} [Rep β] {xs : List (List β)} {h : Hd} {ks : List (Kn (List β))} {i j ki kj : Nat} {a b : List β} {ga gb : Hd} {p : Addr} {K : World → Prop} (H : Cx w0 F S0 w (EH (List β) xs h ks :: Γ)) (hi : ks[ki]? = some ⟨i, a, ga⟩) (hj : ks[kj]? = some ⟨j, b, gb⟩) (ha : h.a = some p) (hK : ∀ w', Cx w0 F S0 w' (EZ (List β) i j a b ga gb xs h :: Γ) → K w') : EStore (.pointer (some (p.add (i * 1)))) gb.v w K := by
  obtain ⟨S, f1, I, h2⟩ := Cx.frame (Γ1 := [EH (List β) xs h ks]) H
  obtain ⟨f, r, rfl, hh, hr⟩ := I.all
  obtain rfl : r = [] := hr
  have n1 := hh.2 _ (List.mem_of_getElem? hi)
  have n2 := hh.2 _ (List.mem_of_getElem? hj)
  have m1 := n1.1
  have m2 := n2.1
  simp only at m1 m2
  have hil : i < xs.length := (List.getElem?_eq_some_iff.1 m1).1
  have hjl : j < xs.length := (List.getElem?_eq_some_iff.1 m2).1
  have h1 : OwnG (sz (List β)) (qOf S) w f h.a h.n h.c xs := hh.1
  rcases h1 with ⟨_, _, _, rfl, _⟩ | ⟨g, o, cells, e, fps, ha', hg, hn, hnc, hcm, hsz, hl, rfl, hnd, hqs⟩
  · simp at hil
  have hkn : ∀ {k : Nat} {x : List β} {gx : Hd}, KnOk w xs h ⟨k, x, gx⟩ → k < xs.length → cells[o + k]? = some gx.v := by
    intro k x gx hk hkl
    obtain ⟨_, b', o', hb, hc⟩ := hk
    rw [ha'] at hb
    simp only [Option.some.injEq, Addr.mk.injEq, and_true] at hb
    obtain ⟨rfl, rfl⟩ := hb
    have := hc 0 gx.v rfl
    rw [cell_of_row w g _ cells e (0, 0) hg] at this
    rwa [show o + k * sz (List β) + 0 = o + k by show o + k * 1 + 0 = o + k; omega] at this
  have c1 := hkn n1 hil
  have c2 := hkn n2 hjl
  have hos : ∀ {k : Nat} {x : List β} {gx : Hd} (hkl : k < xs.length) (hkf : k < fps.length), xs[k]? = some x → cells[o + k]? = some gx.v → own w S fps[k] x gx := by
    intro k x gx hkl hkf hx hc
    obtain ⟨g', k1, k2⟩ := hqs k hkl hkf
    have hx' : xs[k] = x := by rw [List.getElem?_eq_getElem hkl] at hx; exact Option.some.inj hx
    rw [hx'] at k1 k2
    have : chk cells o 1 k = [gx.v] := chk1 hc
    have k1 : chk cells o 1 k = [Hd.v g'] := k1
    rw [this] at k1
    have : gx = g' := cl_inj (α := List β) x _ _ k1
    rw [this]; exact k2
  rw [ha] at ha'
  obtain rfl := Option.some.inj ha'
  have hcl : o + i < cells.size := (Array.getElem?_eq_some_iff.1 c1).1
  have hu : Upd [g] w (w.setCell ⟨g, o + i, none⟩ gb.v) := Upd.setCell w ⟨g, o + i, none⟩ gb.v
  have hSb : ∀ x, S x → x < w.heap.size ∧ x ∉ [g] := fun x hx => ⟨(I.sb x hx).1, fun hm => by simp at hm; subst hm; exact (I.out x (by simp)).1 hx⟩
  have hfg : ∀ (k : Nat) (hk : k < fps.length), ∀ x ∈ fps[k], x ∉ [g] := fun k hk x hx hx' => by
    simp only [List.mem_singleton] at hx'
    subst hx'
    exact (List.nodup_cons.1 hnd).1 (List.mem_flatten.2 ⟨fps[k], List.getElem_mem _, hx⟩)
  have hkeep : ∀ {k : Nat} {x : List β} {gx : Hd} (hk : k < fps.length), own w S fps[k] x gx → own (w.setCell ⟨g, o + i, none⟩ gb.v) S fps[k] x gx := fun hk ho =>
    own_keep (fun b hb => hu.block b (hSb b hb).1 (hSb b hb).2) (fun b hb => hu.block b (own_lt ho b hb) (hfg _ hk b hb)) ho
  have hif : i < fps.length := by omega
  have hjf : j < fps.length := by omega
  refine .mk ⟨_, ga.v, rfl, ?_, ?_, rfl, ?_⟩
  · rw [Addr.add_lit, show o + i * 1 = o + i by omega, cell_of_row w g _ cells e (0, 0) hg]; exact c1
  · rw [Addr.add_lit]; exact frozen_of_row w g _ cells e hg
  · have hz : (EZ (List β) i j a b ga gb xs h).h (w.setCell ⟨g, o + i, none⟩ gb.v) S (g :: fps.flatten) := by
      refine ⟨g, o, cells.setIfInBounds (o + i) gb.v, e, fps, ha, setCell_heap _ hg, hn, hnc, hcm, by simpa using hsz, hl, m1, m2, ?_, ?_, rfl, hnd, fun f hf => ?_, fun f hf => ?_, fun k hk hk' hki hkj => ?_⟩
      · exact chk1 (by rw [Array.getElem?_setIfInBounds_self_of_lt hcl])
      · refine chk1 ?_
        by_cases hij : i = j
        · subst hij; rw [Array.getElem?_setIfInBounds_self_of_lt hcl]
        · rw [Array.getElem?_setIfInBounds_ne (by omega)]; exact c2
      · rw [List.getElem?_eq_getElem hif] at hf
        obtain rfl := Option.some.inj hf
        exact hkeep hif (hos hil hif m1 c1)
      · rw [List.getElem?_eq_getElem hjf] at hf
        obtain rfl := Option.some.inj hf
        exact hkeep hjf (hos hjl hjf m2 c2)
      · have e1 : chk (cells.setIfInBounds (o + i) gb.v) o (sz (List β)) k = chk cells o (sz (List β)) k := by
          refine chk_congr fun l hl' => ?_
          have hs1 : sz (List β) = 1 := rfl
          rw [Array.getElem?_setIfInBounds_ne]
          rw [hs1] at hl' ⊢; omega
        rw [e1]
        exact q_upd hSb hu (hfg k hk') (hqs k hk hk')
    rw [Addr.add_lit, show o + i * 1 = o + i by omega]
    exact hK _ (h2 _ [EZ (List β) i j a b ga gb xs h] ⟨S, g :: fps.flatten, hu.mono (fun x hx => .inl (by simp only [List.mem_singleton] at hx; subst hx; simp)), fun _ h => h, fun x hx => ⟨Nat.lt_of_lt_of_le (I.sb x hx).1 hu.size, .inl hx⟩, ⟨_, [], by simp, hz, rfl⟩, hnd, fun x hx => ⟨(I.out x (by simpa using hx)).1, .inl (by simpa using hx)⟩⟩)
/-- the second store of an exchange -/
theorem stZ2 {β : Type} [Rep β] {xs ys : List (List β)} {h : Hd} {i j : Nat} {a b : List β} {ga gb : Hd} {p : Addr} {ii jj : Int} {K : World → Prop} (H : Cx w0 F S0 w (EZ (List β) i j a b ga gb xs h :: Γ)) (hii : ii = (i : Int)) (hjj : jj = (j : Int)) (ha : h.a = some p) (hs : swapO xs ii jj = some ys) (hK : ∀ w', Cx w0 F S0 w' (E (List (List β)) ys h :: Γ) → K w') : EStore (.pointer (some (p.add (j * 1)))) ga.v w K := by
  obtain ⟨S, f1, I, h2⟩ := Cx.frame (Γ1 := [EZ (List β) i j a b ga gb xs h]) H
  obtain ⟨f, r, rfl, hh, hr⟩ := I.all
  obtain rfl : r = [] := hr
  obtain ⟨g, o, cells, e, fps, ha', hg, hn, hnc, hcm, hsz, hl, m1, m2, q1, q2, rfl, hnd, o1, o2, hqs⟩ := hh
  obtain ⟨hil, hia⟩ := List.getElem?_eq_some_iff.1 m1
  obtain ⟨hjl, hjb⟩ := List.getElem?_eq_some_iff.1 m2
  subst hii hjj
  have hys : ys = (xs.set i b).set j a := by
    unfold swapO at hs
    have e1 : idxO xs (i : Int) = some a := by unfold idxO; rw [if_pos (by omega), Int.toNat_natCast]; exact m1
    have e2 : idxO xs (j : Int) = some b := by unfold idxO; rw [if_pos (by omega), Int.toNat_natCast]; exact m2
    rw [e1] at hs
    simp only [Option.bind_some] at hs
    rw [e2] at hs
    simp only [Option.bind_some] at hs
    obtain ⟨zs, h3, h4⟩ := bindS hs
    obtain ⟨m, hm, _, rfl⟩ := setO_some h3
    obtain ⟨m', hm', _, rfl⟩ := setO_some h4
    obtain rfl : m = i := by omega
    obtain rfl : m' = j := by omega
    rfl
  subst hys
  rw [ha] at ha'
  obtain rfl := Option.some.inj ha'
  have hif : i < fps.length := by omega
  have hjf : j < fps.length := by omega
  have c2 : cells[o + j]? = some gb.v := by
    have q2 : chk cells o 1 j = [gb.v] := q2
    have := chk_get (cells := cells) (o := o) (s := 1) (i := j) (j := 0) (by omega)
    rw [q2] at this
    rw [show o + j * 1 + 0 = o + j by omega] at this
    exact this.symm
  have hcl : o + j < cells.size := (Array.getElem?_eq_some_iff.1 c2).1
  have hu : Upd [g] w (w.setCell ⟨g, o + j, none⟩ ga.v) := Upd.setCell w ⟨g, o + j, none⟩ ga.v
  have hSb : ∀ x, S x → x < w.heap.size ∧ x ∉ [g] := fun x hx => ⟨(I.sb x hx).1, fun hm => by simp at hm; subst hm; exact (I.out x (by simp)).1 hx⟩
  have hfg : ∀ (k : Nat) (hk : k < fps.length), ∀ x ∈ fps[k], x ∉ [g] := fun k hk x hx hx' => by
    simp only [List.mem_singleton] at hx'
    subst hx'
    exact (List.nodup_cons.1 hnd).1 (List.mem_flatten.2 ⟨fps[k], List.getElem_mem _, hx⟩)
  have hkeep : ∀ {k : Nat} {x : List β} {gx : Hd} (hk : k < fps.length), own w S fps[k] x gx → own (w.setCell ⟨g, o + j, none⟩ ga.v) S fps[k] x gx := fun hk ho =>
    own_keep (fun b hb => hu.block b (hSb b hb).1 (hSb b hb).2) (fun b hb => hu.block b (own_lt ho b hb) (hfg _ hk b hb)) ho
  have hperm : ((fps.set i fps[j]).set j fps[i]).Perm fps := List.set_set_perm hif hjf
  have hpf : ((fps.set i fps[j]).set j fps[i]).flatten.Perm fps.flatten := hperm.flatten
  have hnd' : (g :: ((fps.set i fps[j]).set j fps[i]).flatten).Nodup := (List.Perm.cons g hpf).symm.nodup hnd
  have hmem : ∀ x, x ∈ g :: ((fps.set i fps[j]).set j fps[i]).flatten → x ∈ g :: fps.flatten := fun x hx => (List.Perm.cons g hpf).mem_iff.1 hx
  refine .mk ⟨_, gb.v, rfl, ?_, ?_, rfl, ?_⟩
  · rw [Addr.add_lit, show o + j * 1 = o + j by omega, cell_of_row w g _ cells e (0, 0) hg]; exact c2
  · rw [Addr.add_lit]; exact frozen_of_row w g _ cells e hg
  · rw [Addr.add_lit, show o + j * 1 = o + j by omega]
    refine hK _ (h2 _ [E (List (List β)) ((xs.set i b).set j a) h] ⟨S, g :: ((fps.set i fps[j]).set j fps[i]).flatten, hu.mono (fun x hx => .inl (by simp only [List.mem_singleton] at hx; subst hx; simp)), fun _ h => h, fun x hx => ⟨Nat.lt_of_lt_of_le (I.sb x hx).1 hu.size, .inl hx⟩, ⟨_, [], by simp, .inr ⟨g, o, cells.setIfInBounds (o + j) ga.v, e, (fps.set i fps[j]).set j fps[i], ha, setCell_heap _ hg, by simpa using hn, hnc, hcm, by simpa using hsz, by simpa using hl, rfl, hnd', fun k hk hk' => ?_⟩, rfl⟩, hnd', fun x hx => ⟨(I.out x (by simpa using hmem x hx)).1, .inl (by simpa using hmem x hx)⟩⟩)
    simp only [List.length_set] at hk hk'
    by_cases hkj : k = j
    · subst hkj
      rw [List.getElem_set_self, List.getElem_set_self]
      exact ⟨ga, chk1 (by rw [Array.getElem?_setIfInBounds_self_of_lt hcl]), hkeep hif (o1 _ (List.getElem?_eq_getElem hif))⟩
    · have e1 : chk (cells.setIfInBounds (o + j) ga.v) o (sz (List β)) k = chk cells o (sz (List β)) k := by
        refine chk_congr fun l hl' => ?_
        have hs1 : sz (List β) = 1 := rfl
        rw [Array.getElem?_setIfInBounds_ne]
        rw [hs1] at hl' ⊢; omega
      rw [e1, List.getElem_set_ne (Ne.symm hkj), List.getElem_set_ne (Ne.symm hkj)]
      by_cases hki : k = i
      · subst hki
        rw [List.getElem_set_self, List.getElem_set_self]
        exact ⟨gb, q1, hkeep hjf (o2 _ (List.getElem?_eq_getElem hjf))⟩
      · rw [List.getElem_set_ne (Ne.symm hki), List.getElem_set_ne (Ne.symm hki)]
        exact q_upd hSb hu (hfg k hk') (hqs k hk hk' hki hkj)
end
end RW
end Go.Proofs.YtnlbhdepagkjgaaDoor
