/-
  Arrays of numbers: compared, copied into, sliced as a whole. Conditions: the engine's table holds ('EngOk').
-/
import Derived.Test.YtnlbhdepagkjgaaDoorZOps7
import Derived.ChangeKeysEq
import Derived.Laws.CopyRow
namespace Go.Proofs.YtnlbhdepagkjgaaDoor.RW
open Go
open Go.RowKit (Below)
open Rep RepZ
section
variable {P : Program} {G : Eng} {w : World}

/-- an array of numbers -/
def arrV (l : List Int) : Array Value := (l.map (Value.int .i64)).toArray
theorem arrV_list (l : List Int) : (arrV l).toList = l.map (Value.int .i64) := by simp [arrV]
theorem eqItems_run {e b : Nat} {z : Value} {xs ys : Array Value} {ls bs : List Int} (ok : EngOk P G) (d : Nat) (he : nthO G.tt e = some ⟨.int .i64, 1, b, z⟩) (hx : xs.toList = ls.map (Value.int .i64)) (hy : ys.toList = bs.map (Value.int .i64)) (hl : ls.length = bs.length) :
    ∀ (m k : Nat), m + k = ls.length → (Op.eqItems (d + 1) e 1 xs ys (List.range' k m)).run P w = .ok (decide (ls.drop k = bs.drop k)) w
  | 0, k, hk => by
    rw [List.drop_of_length_le (by omega), List.drop_of_length_le (by omega)]
    simp [Op.eqItems]
  | m + 1, k, hk => by
    have hd := und_of ok he
    simp only at hd
    have hu := und_int hd
    have h1 := isAgg_run hd w
    have ha : isAggK (.int .i64) = false := rfl
    rw [ha] at h1
    have hka : k < ls.length := by omega
    have hkb : k < bs.length := by omega
    have gx : xs[k]? = some (.int .i64 ls[k]) := by rw [← Array.getElem?_toList, hx, List.getElem?_map, List.getElem?_eq_getElem hka]; rfl
    have gy : ys[k]? = some (.int .i64 bs[k]) := by rw [← Array.getElem?_toList, hy, List.getElem?_map, List.getElem?_eq_getElem hkb]; rfl
    have p1 : (part e xs (k * 1)).run P w = .ok (.int .i64 ls[k]) w := by rw [Nat.mul_one]; simp [part, h1, gx]
    have p2 : (part e ys (k * 1)).run P w = .ok (.int .i64 bs[k]) w := by rw [Nat.mul_one]; simp [part, h1, gy]
    have hq := run_equalIn_int (P := P) w d e .i64 .i64 ls[k] bs[k] hu
    have ih := eqItems_run ok d he hx hy hl m (k + 1) (by omega)
    rw [List.range'_succ, List.drop_eq_getElem_cons hka, List.drop_eq_getElem_cons hkb]
    simp only [Op.eqItems, Sem.run_bind, p1, p2, hq, Result.andThen_ok, Sem.run_ite]
    generalize ls.drop (k + 1) = A at ih ⊢
    generalize bs.drop (k + 1) = B at ih ⊢
    by_cases hab : ls[k] = bs[k]
    · simp [hab, ih]
    · simp [hab]
/-- arrays of numbers compared -/
theorem neqAr {t n e b be : Nat} {zt z : Value} {st : Nat} {x y : Operand} {ls bs : List Int} {r : Bool} {K : Value → World → Prop} (ok : EngOk P G) (ht : nthO G.tt t = some ⟨.array n e, st, b, zt⟩) (he : nthO G.tt e = some ⟨.int .i64, 1, be, z⟩) (hc : P.cellsOf e = 1) (hg : P.eqGuardType P.depth t = false) (hr : neqArO n ls bs = some r) (hK : K (.bool r) w) : ERun P (do eqGuard .neq t x y (.agg (arrV ls)) (.agg (arrV bs)); binOp .neq t (.agg (arrV ls)) (.agg (arrV bs))) w K := by
  have hu := und_array (und_of ok ht)
  obtain ⟨h1, h2, rfl⟩ := neqArO_some hr
  obtain ⟨i, hi, _, _, _⟩ := inf_of ok he
  have h3 := run_equalIn_array (P := P) w 9999 (arrV ls) (arrV bs) hu hi
  rw [hc, List.range_eq_range', eqItems_run ok 9998 he (arrV_list ls) (arrV_list bs) (by omega) n 0 (by omega)] at h3
  simp only [List.drop_zero] at h3
  have h4 : (Op.equal t (.agg (arrV ls)) (.agg (arrV bs))).run P w = .ok (decide (ls = bs)) w := h3
  have h5 : (eqGuard .neq t x y (.agg (arrV ls)) (.agg (arrV bs))).run P w = .ok () w := by simp [eqGuard, hg]
  have h6 : binOp .neq t (.agg (arrV ls)) (.agg (arrV bs)) = (do pure (.bool (!(← Op.equal t (.agg (arrV ls)) (.agg (arrV bs)))))) := by simp [binOp]
  refine erun_of (v := .bool (!decide (ls = bs))) (w' := w) ?_ hK
  rw [h6]
  simp only [Sem.run_bind, h5, Result.andThen_ok, h4, Sem.run_pure]
/-- numbers copied into a variable's block -/
theorem copyB {w0 : World} {F : List Nat} {S0 : Nat → Prop} {Γ : List Ent} {dT sT ty e st bt be b : Nat} {zt ze : Value} {ke : TK} {cs : List Value} {xs : List Int} {h : Hd} {K : Value → World → Prop} (ok : EngOk P G) (hD : nthO G.tt dT = some ⟨.slice e, st, bt, zt⟩) (he : nthO G.tt e = some ⟨ke, 1, be, ze⟩) (N : Nat) (H : Cx w0 F S0 w (Bx b cs :: Γ)) (hN : cs.length = N) (hr : Rdb w xs h) (hK : ∀ v w', Cx w0 F S0 w' (Bx b ((xs.take N).map (Value.int .i64) ++ cs.drop (xs.take N).length) :: Γ) → K v w') : ERun P (Builtin.copy_ #[dT, sT] ty #[.slice (some ⟨b, 0, none⟩) N N, h.v]) w K := by
  have hu := und_slice (und_of ok hD)
  obtain ⟨i, hi, _, his, _⟩ := inf_of ok he
  simp only at his
  have hlen := hr.len
  obtain ⟨S, f1, h1, h2⟩ := Cx.frame (Γ1 := [Bx b cs]) H
  obtain ⟨f, g, hfg, ⟨hf, e', hb⟩, hgg⟩ := h1.all
  have hgg : g = [] := hgg
  subst hf hgg hfg
  have hl : (xs.take N).length ≤ N := by rw [List.length_take]; omega
  have hsz : (xs.take N).length ≤ cs.length := by omega
  have key : ∃ w', (Builtin.copy_ #[dT, sT] ty #[.slice (some ⟨b, 0, none⟩) N N, h.v]).run P w = .ok (goInt (xs.take N).length) w' ∧ w' = w.setRow b ((xs.take N).map (Value.int .i64) ++ cs.drop (xs.take N).length).toArray := by
    by_cases hp : 0 < xs.length
    · obtain ⟨p, hpa⟩ := hr.some_ hp
      have hsrc : ∀ j v, ((xs.take N).map (Value.int .i64))[j]? = some v → w.cell? (p.add j) = some v := by
        intro j v hj
        rw [List.getElem?_map, List.getElem?_take] at hj
        split at hj
        · cases hx : xs[j]? with
          | none => rw [hx] at hj; cases hj
          | some x =>
            rw [hx] at hj
            obtain ⟨p', m, k1, k2, k3, k4⟩ := hr.at1 (k := (j : Int)) (a := x) (by unfold idxO; rw [if_pos (by omega), Int.toNat_natCast]; exact hx)
            rw [hpa] at k1
            obtain rfl := Option.some.inj k1
            obtain rfl : j = m := by omega
            rw [Nat.mul_one] at k4
            rw [k4, ← Option.some.inj hj]; rfl
        · cases hj
      have := run_copy_row (P := P) w dT sT ty e b 0 N N p h.n h.c cs.toArray e' ((xs.take N).map (Value.int .i64)) hu (by rw [hi]; simp [his]) hb (by rw [List.length_map, List.length_take, hlen]; show _ = min _ _; omega) hsrc (by simp; omega) (by intro v hv; obtain ⟨x, _, rfl⟩ := List.mem_map.1 hv; rfl)
      refine ⟨_, ?_, rfl⟩
      have hv : h.v = .slice (some p) h.n h.c := by unfold Hd.v; rw [hpa]
      rw [hv, this]
      simp
    · obtain rfl : xs = [] := List.length_eq_zero_iff.1 (by omega)
      refine ⟨_, ?_, rfl⟩
      have e1 : w.setRow b cs.toArray = w := setRow_self w b cs.toArray e' (0, 0) hb
      have hn0 : h.n = 0 := hlen
      obtain ⟨ha, hn, hc⟩ := h
      simp only at hn0
      subst hn0
      cases ha with
      | none => simp [Hd.v, Builtin.copy_, run_underlying hu, Builtin.lenOf, Builtin.firstCells, sizeOf, typeInfo, hi, storeCells, e1]
      | some a => simp [Hd.v, Builtin.copy_, run_underlying hu, Builtin.lenOf, Builtin.firstCells, sizeOf, typeInfo, hi, storeCells, loadCells, loadCellsFrom, e1]
  obtain ⟨w', hrun, rfl⟩ := key
  refine erun_of hrun (hK _ _ (h2 _ [Bx b ((xs.take N).map (Value.int .i64) ++ cs.drop (xs.take N).length)] ⟨S, [b], ⟨rfl, rfl, rfl, by simp, fun x hx hn => setRow_other w b x _ (by simpa using hn)⟩, fun _ h => h, fun x hx => ⟨?_, .inl hx⟩, ⟨[b], [], rfl, ⟨rfl, e', setRow_heap w b _ _ _ _ hb⟩, rfl⟩, by simp, fun x hx => h1.out x hx⟩))
  have := (h1.sb x hx).1
  simpa using this
/-- the whole of an array as a slice -/
theorem slA {t n e st b be se : Nat} {zt ze : Value} {ke : TK} {g : Nat} {K : Value → World → Prop} (ok : EngOk P G) (ht : nthO G.tt t = some ⟨.array n e, st, b, zt⟩) (he : nthO G.tt e = some ⟨ke, se, be, ze⟩) (hK : n ≠ 0 → K (.slice (some ⟨g, 0, none⟩) n n) w) (hn : Nat.beq n 0 = false) :
    ERun P (Instr.sliceAt t (.pointer (some ⟨g, 0, none⟩)) none none none) w K := by
  have hn0 : n ≠ 0 := by intro h; subst h; simp [Nat.beq] at hn
  have hu := und_array (und_of ok ht)
  have hs := sizeOf_run ok he w
  simp only at hs
  refine erun_of (v := .slice (some ⟨g, 0, none⟩) n n) (w' := w) ?_ (hK hn0)
  simp [Instr.sliceAt, run_underlying hu, Instr.sureAddr, Instr.sliceBounds, hs, Ne.symm hn0, addr_add0]
/-- an array whose elements are all the zero -/
theorem buildA0 {t n e st b be se : Nat} {zt ze : Value} {ke : TK} {K : Value → World → Prop} (ok : EngOk P G) (ht : nthO G.tt t = some ⟨.array n e, st, b, zt⟩) (he : nthO G.tt e = some ⟨ke, se, be, ze⟩) (hK : K (.agg zt.cells) w) : ERun P (Instr.build t #[]) w K := by
  obtain ⟨i, hi, hiz, his, hib⟩ := inf_of ok ht
  simp only at hiz
  have hu := und_array (und_of ok ht)
  have hs := sizeOf_run ok he w
  simp only at hs
  refine erun_of (v := .agg zt.cells) (w' := w) ?_ hK
  simp [Instr.build, zeroValue, typeInfo, hi, hiz, run_underlying hu, hs, Instr.fill]
end
end Go.Proofs.YtnlbhdepagkjgaaDoor.RW
