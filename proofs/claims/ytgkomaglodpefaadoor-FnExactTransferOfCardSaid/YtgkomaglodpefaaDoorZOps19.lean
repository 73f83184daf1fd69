/-
  A list's end handed over to be changed in its place ('EW'), and copy. Conditions: the engine's table holds ('EngOk').
-/
import Derived.Test.YtgkomaglodpefaaDoorZOps18
namespace Go.Proofs.YtgkomaglodpefaaDoor.RW
open Go
open Rep RepZ
section
variable {P : Program} {G : Eng} {w w0 : World} {F : List Nat} {S0 : Nat → Prop} {Γ : List Ent} {K : Value → World → Prop}
/-- a list of one's own, of which one looks at the end: pre ++ suf lies there (header h), h' is the end's header -/
def EW (pre suf : List Int) (h h' : Hd) : Ent :=
  ⟨fun w S fp => own w S fp (pre ++ suf) h ∧ h'.n = suf.length ∧ h'.n ≤ h'.c ∧ h'.c ≤ maxLen ∧ (suf ≠ [] → h'.a = h.a.map (·.add (pre.length * 1))),
    fun hS ⟨h1, h2⟩ => ⟨own_mono hS h1, h2⟩, fun hS hf ⟨h1, h2⟩ => ⟨own_keep hS hf h1, h2⟩, fun ⟨h1, _⟩ => own_lt h1⟩
theorem addr_add2 (a : Addr) (m n : Nat) : (a.add m).add n = a.add (m + n) := by
  unfold Addr.add
  by_cases hm : m = 0
  · subst hm; simp
  · by_cases hn : n = 0
    · subst hn; simp
    · rw [if_neg hm, if_neg hn, if_neg (by omega)]; simp [Nat.add_assoc]
theorem cloW {pre suf : List Int} {h h' : Hd} : Clo (EW pre suf h h') := fun ⟨h1, h2⟩ => ⟨Closed.clo h1, h2⟩
theorem Cx.ent_map {e e' : Ent} (H : Cx w0 F S0 w (e :: Γ)) (h : ∀ S fp, e.h w S fp → e'.h w S fp) : Cx w0 F S0 w (e' :: Γ) := by
  obtain ⟨S, fp, I⟩ := H
  obtain ⟨f, g, h1, h2, h3⟩ := I.all
  exact ⟨S, fp, I.upd, I.s0, I.sb, ⟨f, g, h1, h _ _ h2, h3⟩, I.nd, I.out⟩
theorem Cx.ofW {pre suf : List Int} {h h' : Hd} (H : Cx w0 F S0 w (EW pre suf h h' :: Γ)) : Cx w0 F S0 w (E (List Int) (pre ++ suf) h :: Γ) := H.ent_map fun _ _ ⟨h1, _⟩ => h1
theorem Cx.rw {pre suf : List Int} {h h' : Hd} (H : Cx w0 F S0 w Γ) (i : Nat) (hi : entAt Γ i = EW pre suf h h') : Rdb w suf h' := by
  obtain ⟨S, fp, I⟩ := H
  obtain ⟨f, h1, _⟩ := I.all.ent i
  rw [hi] at h1
  obtain ⟨h1, h2, h3, h4, h5⟩ := h1
  have hr : RdG 1 (rOf (fun b => S b ∨ b ∈ f)) w (fun b => S b ∨ b ∈ f) h.a h.n h.c (pre ++ suf) := own_rd h1
  refine ⟨fun b => S b ∨ b ∈ f, h2, h3, h4, fun hp => ?_⟩
  have hne : suf ≠ [] := fun e => by subst e; exact absurd hp (by simp)
  obtain ⟨b, o, ha, hb, hc⟩ := hr.2.2.2 (by rw [List.length_append]; omega)
  refine ⟨b, o + pre.length * 1, by rw [h5 hne, ha]; show some (Addr.add _ _) = _; rw [Addr.add_lit], hb, fun j hj => ?_⟩
  obtain ⟨cs, k1, k2⟩ := hc (pre.length + j) (by rw [List.length_append]; omega)
  have e1 : (pre ++ suf)[pre.length + j]'(by rw [List.length_append]; omega) = suf[j] := by
    rw [List.getElem_append_right (by omega)]
    simp
  rw [e1] at k2
  refine ⟨cs, fun q u hu => ?_, k2⟩
  have := k1 q u hu
  show w.cell? ⟨b, o + pre.length * 1 + j * 1 + q, none⟩ = some u
  rw [show o + pre.length * 1 + j * 1 + q = o + (pre.length + j) * 1 + q by omega]
  exact this
theorem setW {pre suf ys : List Int} {h h' : Hd} {k y : Int} {m : Nat} {p : Addr} {K : World → Prop} (H : Cx w0 F S0 w (EW pre suf h h' :: Γ)) (ha : h'.a = some p) (hk : k = (m : Int)) (hset : setO suf k y = some ys)
    (hK : ∀ w', Cx w0 F S0 w' (EW pre ys h h' :: Γ) → K w') : EStore (.pointer (some (p.add (m * 1)))) (.int .i64 y) w K := by
  have hset0 := hset
  obtain ⟨m', hk', hm, rfl⟩ := setO_some hset
  obtain rfl : m = m' := by omega
  have hne : suf ≠ [] := fun e => by subst e; exact absurd hm (by simp)
  have facts : h'.n = suf.length ∧ h'.n ≤ h'.c ∧ h'.c ≤ maxLen ∧ (suf ≠ [] → h'.a = h.a.map (·.add (pre.length * 1))) := by
    obtain ⟨S, fp, I⟩ := H
    obtain ⟨f, h1, _⟩ := I.all.ent 0
    exact h1.2
  obtain ⟨f2, f3, f4, f5⟩ := facts
  cases hha : h.a with
  | none => rw [f5 hne, hha] at ha; cases ha
  | some q =>
    have hp : p = q.add (pre.length * 1) := by rw [f5 hne, hha] at ha; exact (Option.some.inj ha).symm
    have hs : setO (pre ++ suf) ((pre.length + m : Nat) : Int) y = some (pre ++ suf.set m y) := by
      unfold setO
      rw [if_pos ⟨by omega, by rw [List.length_append]; omega⟩, Int.toNat_natCast, List.set_append_right _ _ (by omega), Nat.add_sub_cancel_left]
    have := setS (α := Int) (K := K) H.ofW hha rfl hs (fun w' H' => hK w' (H'.ent_map fun S fp h1 => ⟨h1, by rw [List.length_set]; exact f2, f3, f4, fun _ => f5 hne⟩))
    rw [hp]
    rw [show (q.add (pre.length * 1)).add (m * 1) = q.add ((pre.length + m) * 1) by
      rw [Nat.add_mul, addr_add2]]
    exact this
theorem Cx.toWs {xs : List Int} {h : Hd} {l : Nat} (H : Cx w0 F S0 w (E (List Int) xs h :: Γ)) (hl : l ≤ xs.length) : Cx w0 F S0 w (EW (xs.take l) (xs.drop l) h (h.sub l xs.length h.c 1) :: Γ) := by
  have hc := (H.ro 0 rfl).cap
  have hn := (H.ro (α := List Int) 0 rfl).len
  obtain ⟨S, fp, I⟩ := H
  obtain ⟨f, g, h1, h2, h3⟩ := I.all
  have hmax : h.c ≤ maxLen := by
    have hr : RdG 1 (rOf (fun b => S b ∨ b ∈ f)) w (fun b => S b ∨ b ∈ f) h.a h.n h.c xs := own_rd h2
    exact hr.2.2.1
  refine ⟨S, fp, I.upd, I.s0, I.sb, ⟨f, g, h1, ⟨?_, ?_, ?_, ?_, ?_⟩, h3⟩, I.nd, I.out⟩
  · rw [List.take_append_drop]; exact h2
  · show xs.length - l = _
    rw [List.length_drop]
  · show xs.length - l ≤ h.c - l
    omega
  · show h.c - l ≤ maxLen
    omega
  · intro hne
    have : l < xs.length := by
      refine Nat.lt_of_not_le fun h => hne ?_
      exact List.drop_eq_nil_of_le h
    show subA h.a l h.c 1 = _
    unfold subA
    rw [if_neg (by omega), List.length_take, Nat.min_eq_left hl]
theorem slWX {S' : World → Prop} {t e st bt be : Nat} {zt ze : Value} {ke : TK} {xs zs : List Int} {h : Hd} {lo : Value} {l : Int} {K : Value → Prop} (ok : EngOk P G) (ht : nthO G.tt t = some ⟨.slice e, st, bt, zt⟩) (he : nthO G.tt e = some ⟨ke, 1, be, ze⟩) (H : Cx w0 F S0 w (E (List Int) xs h :: Γ)) (hz : sliceO xs l ((xs.length : Nat) : Int) = some zs) (hlo : optI 0 (some lo) = some l)
    (hK : ∀ h' : Hd, Cx w0 F S0 w (EW (xs.take l.toNat) zs h h' :: Γ) → K h'.v) : EHAny P S' (Instr.sliceAt t h.v (some lo) none none) K := by
  obtain ⟨l', m', rfl, hm, hlm, hmn, rfl⟩ := sliceO_some hz
  obtain rfl : m' = xs.length := by omega
  have hn := (H.ro (α := List Int) 0 rfl).len
  have hc := (H.ro 0 rfl).cap
  have H2 := H.toWs (l := l') hlm
  have e1 : (xs.drop l').take (xs.length - l') = xs.drop l' := List.take_of_length_le (by rw [List.length_drop]; omega)
  refine anyH (v := (h.sub l' xs.length h.c 1).v) (fun w' => erun_of (sl_run ok ht he l' xs.length hlo (by show some _ = some _; rw [hn]) hlm (by omega)) ⟨rfl, rfl⟩) (hK (h.sub l' xs.length h.c 1) ?_)
  rw [e1, Int.toNat_natCast]
  exact H2
/-- copy into a list of one's own -/
theorem copyO {dT sT ty e st bt be : Nat} {zt ze : Value} {ke : TK} {xs ys : List Int} {h h2 : Hd} (ok : EngOk P G) (hD : nthO G.tt dT = some ⟨.slice e, st, bt, zt⟩) (he : nthO G.tt e = some ⟨ke, 1, be, ze⟩) (H : Cx w0 F S0 w (E (List Int) xs h :: Γ)) (hr : Rdb w ys h2)
    (hK : ∀ v w', Cx w0 F S0 w' (E (List Int) (copL xs ys) h :: Γ) → K v w') : ERun P (Builtin.copy_ #[dT, sT] ty #[h.v, h2.v]) w K := by
  have hu := und_slice (und_of ok hD)
  obtain ⟨i, hi, _, his, _⟩ := inf_of ok he
  simp only at his
  have hlen := hr.len
  obtain ⟨S, f1, h1, h3⟩ := Cx.frame (Γ1 := [E (List Int) xs h]) H
  obtain ⟨f, g, hfg, ho, hgg⟩ := h1.all
  have hgg : g = [] := hgg
  subst hgg
  rw [List.append_nil] at hfg
  subst hfg
  have ho : OwnG 1 (qOf (α := Int) S) w f1 h.a h.n h.c xs := ho
  -- what is copied
  have hcp : copL xs ys = ys.take xs.length ++ xs.drop (ys.take xs.length).length := by
    unfold copL
    rw [List.length_take]
    by_cases hle : ys.length ≤ xs.length
    · rw [Nat.min_eq_right hle]
    · rw [Nat.min_eq_left (by omega), List.drop_eq_nil_of_le (by omega), List.drop_eq_nil_of_le (Nat.le_refl _)]
  have hsrc : ∀ (p : Addr), h2.a = some p → ∀ j v, ((ys.take xs.length).map (Value.int .i64))[j]? = some v → w.cell? (p.add j) = some v := by
    intro p hpa j v hj
    rw [List.getElem?_map, List.getElem?_take] at hj
    split at hj
    · cases hx : ys[j]? with
      | none => rw [hx] at hj; cases hj
      | some x =>
        rw [hx] at hj
        obtain ⟨p', m, k1, k2, k3, k4⟩ := hr.at1 (k := (j : Int)) (a := x) (by unfold idxO; rw [if_pos (by omega), Int.toNat_natCast]; exact hx)
        rw [hpa] at k1
        obtain rfl := Option.some.inj k1
        obtain rfl : j = m := by omega
        rw [Nat.mul_one] at k4
        rw [k4, ← Option.some.inj hj]; rfl
    · cases hj
  rcases ho with ⟨ha, hn, hc, rfl, rfl⟩ | ⟨g, o, cells, e', fps, ha, hg, hn, hnc, hcm, hsz, hl, rfl, hnd, hq⟩
  · -- nothing is there
    have hv : h.v = .slice none 0 0 := by unfold Hd.v; rw [ha, hn, hc]
    have hrun : (Builtin.copy_ #[dT, sT] ty #[h.v, h2.v]).run P w = .ok (goInt 0) w := by
      rw [hv]
      obtain ⟨ha2, hn2, hc2⟩ := h2
      cases ha2 with
      | none => simp [Hd.v, Builtin.copy_, run_underlying hu, Builtin.lenOf, Builtin.firstCells, sizeOf, typeInfo, hi]
      | some a => simp [Hd.v, Builtin.copy_, run_underlying hu, Builtin.lenOf, Builtin.firstCells, sizeOf, typeInfo, hi, loadCells, loadCellsFrom]
    refine erun_of hrun (hK _ _ ?_)
    have : copL ([] : List Int) ys = [] := by simp [copL]
    rw [this]; exact H
  · have hv : h.v = .slice (some ⟨g, o, none⟩) h.n h.c := by unfold Hd.v; rw [ha]
    have hfl : ∀ k (hk : k < xs.length) (hk' : k < fps.length), fps[k] = [] := fun k hk hk' => by
      obtain ⟨_, _, k2⟩ := hq k hk hk'
      exact k2
    have hcell : ∀ k (hk : k < xs.length), cells[o + k]? = some (.int .i64 xs[k]) := fun k hk => by
      obtain ⟨_, k1, _⟩ := hq k hk (by omega)
      have this : (chk cells o 1 k)[0]? = ([Value.int .i64 xs[k]] : List Value)[0]? := by rw [k1]; rfl
      rw [chk_get (by omega)] at this
      simpa using this
    have key : ∃ v w', (Builtin.copy_ #[dT, sT] ty #[h.v, h2.v]).run P w = .ok v w' ∧ w' = w.setRow g (cells.toList.take o ++ (ys.take xs.length).map (Value.int .i64) ++ cells.toList.drop (o + (ys.take xs.length).length)).toArray := by
      by_cases hp : 0 < ys.length
      · obtain ⟨p, hpa⟩ := hr.some_ hp
        have := run_copy_row (P := P) w dT sT ty e g o h.n h.c p h2.n h2.c cells e' ((ys.take xs.length).map (Value.int .i64)) hu (by rw [hi]; simp [his]) hg (by rw [List.length_map, List.length_take, hlen, hn]; show min _ _ = min _ _; omega) (hsrc p hpa) (by rw [List.length_map, List.length_take]; omega) (by intro v hv; obtain ⟨x, _, rfl⟩ := List.mem_map.1 hv; rfl)
        refine ⟨goInt ((ys.take xs.length).map (Value.int .i64)).length, _, ?_, rfl⟩
        have hv2 : h2.v = .slice (some p) h2.n h2.c := by unfold Hd.v; rw [hpa]
        rw [hv, hv2, this]
        simp
      · obtain rfl : ys = [] := List.length_eq_zero_iff.1 (by omega)
        have hn0 : h2.n = 0 := hlen
        have e1 : w.setRow g cells = w := setRow_self w g cells e' (0, 0) hg
        refine ⟨goInt 0, w, ?_, by simp [e1]⟩
        rw [hv]
        obtain ⟨ha2, hn2, hc2⟩ := h2
        simp only at hn0
        subst hn0
        cases ha2 with
        | none => simp [Hd.v, Builtin.copy_, run_underlying hu, Builtin.lenOf, Builtin.firstCells, sizeOf, typeInfo, hi, storeCells]
        | some a => simp [Hd.v, Builtin.copy_, run_underlying hu, Builtin.lenOf, Builtin.firstCells, sizeOf, typeInfo, hi, storeCells, loadCells, loadCellsFrom]
    obtain ⟨v, w', hrun, rfl⟩ := key
    have hlc : (copL xs ys).length = xs.length := by rw [hcp, List.length_append, List.length_drop, List.length_take]; omega
    have hnew : ∀ k (hk : k < xs.length), (cells.toList.take o ++ (ys.take xs.length).map (Value.int .i64) ++ cells.toList.drop (o + (ys.take xs.length).length))[o + k]? = some (.int .i64 ((copL xs ys)[k]'(by omega))) := by
      intro k hk
      have lo : (cells.toList.take o).length = o := by rw [List.length_take, Array.length_toList]; omega
      by_cases hk2 : k < (ys.take xs.length).length
      · have e3 : (copL xs ys)[k]'(by omega) = (ys.take xs.length)[k] := by simp only [hcp]; exact List.getElem_append_left hk2
        rw [e3, List.append_assoc, List.getElem?_append_right (by omega), lo, Nat.add_sub_cancel_left, List.getElem?_append_left (by rw [List.length_map]; exact hk2), List.getElem?_map, List.getElem?_eq_getElem hk2]; rfl
      · have e3 : (copL xs ys)[k]'(by omega) = xs[k] := by
          simp only [hcp]
          rw [List.getElem_append_right (by omega), List.getElem_drop]
          congr 1; omega
        rw [e3, List.getElem?_append_right (by rw [List.length_append, lo, List.length_map]; omega), List.length_append, lo, List.length_map, List.getElem?_drop,
          show o + (ys.take xs.length).length + (o + k - (o + (ys.take xs.length).length)) = o + k by omega, Array.getElem?_toList]
        exact hcell k hk
    have hfl0 : fps.flatten = [] := by
      refine List.eq_nil_iff_forall_not_mem.2 fun b hb => ?_
      obtain ⟨l, hl1, hl2⟩ := List.mem_flatten.1 hb
      obtain ⟨k, hk, rfl⟩ := List.mem_iff_getElem.1 hl1
      rw [hfl k (by omega) hk] at hl2
      cases hl2
    refine erun_of hrun (hK _ _ (h3 _ [E (List Int) (copL xs ys) h] ⟨S, g :: fps.flatten, ⟨rfl, rfl, rfl, by simp, fun x hx hn => setRow_other w g x _ (fun e => hn (by rw [e]; exact List.mem_cons_self ..))⟩, fun _ h => h, fun x hx => ⟨?_, .inl hx⟩, ⟨g :: fps.flatten, [], by simp, ?_, rfl⟩, hnd, fun x hx => h1.out x hx⟩))
    · have := (h1.sb x hx).1
      simpa using this
    · refine .inr ⟨g, o, _, e', fps, ha, setRow_heap w g _ _ _ _ hg, by rw [hlc]; exact hn, hnc, hcm, ?_, by rw [hlc]; exact hl, rfl, hnd, fun k hk hk' => ?_⟩
      · have : (cells.toList.take o ++ (ys.take xs.length).map (Value.int .i64) ++ cells.toList.drop (o + (ys.take xs.length).length)).length = cells.size := by
          rw [List.length_append, List.length_append, List.length_take, List.length_map, List.length_drop, List.length_take, Array.length_toList]; omega
        rw [List.size_toArray, this]; exact hsz
      · have hkx : k < xs.length := by omega
        refine ⟨(), ?_, hfl k hkx hk'⟩
        have h0 := hnew k hkx
        show chk _ o 1 k = [Value.int .i64 _]
        apply List.ext_getElem?
        intro j
        by_cases hj : j < 1
        · obtain rfl : j = 0 := by omega
          rw [chk_get (by omega), List.getElem?_toArray, show o + k * 1 + 0 = o + k by omega, h0]; rfl
        · rw [chk_get_none (by omega), List.getElem?_eq_none (by simp; omega)]
end
end Go.Proofs.YtgkomaglodpefaaDoor.RW
