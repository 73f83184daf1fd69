/-
  Bytes and strings: comparisons, indices, conversions, sums. Conditions: the engine's table holds ('EngOk').
-/
import Derived.Test.YtmchibapkddniaaGreatZOps11
namespace Go.Proofs.YtmchibapkddniaaGreat.RW
open Go
open Rep RepZ
instance : Rep By where
  Gh := Unit
  sz := 1
  agg := false
  cl x _ := [.int .u8 x]
  rd _ _ _ _ := True
  own _ _ fp _ _ := fp = []
  cl_len _ _ := rfl
  cl_one _ _ u hu := by simp at hu; subst hu; rfl
  rd_mono _ h := h
  rd_keep _ h := h
  own_rd _ := trivial
  own_mono _ h := h
  own_keep _ _ h := h
  own_lt h b hb := by rw [h] at hb; cases hb
  own_nd h := by rw [h]; exact List.nodup_nil
  cl_inj _ _ _ _ := rfl
instance : RepZ By := ⟨(0 : Int), (), fun _ _ => rfl⟩
instance : Closed By := ⟨fun h => h⟩
instance : Sc By := ⟨fun x => .int .u8 x, rfl, fun _ _ => rfl, fun _ => rfl, fun _ _ _ _ => trivial, fun _ _ _ _ _ => Iff.rfl, ()⟩
section
variable {P : Program} {G : Eng} {w0 w : World} {F : List Nat} {S0 : Nat → Prop} {Γ : List Ent} {t : Nat} {x y : Operand} {k : IntKind} {a b : Int} {r : Bool} {K : Value → World → Prop}
theorem und_intK {kk : IntKind} (h : descK P t = some (.int kk)) : P.underlying t = some (.int kk) := by
  unfold descK at h; split at h <;> simp_all
theorem wrap_u8 (x : Int) : IntKind.u8.wrap x = x % 256 := by
  simp [IntKind.wrap, IntKind.bits, IntKind.signed]
theorem convIY {s d s1 b1 s2 b2 : Nat} {z1 z2 : Value} {n z : Int} (ok : EngOk P G) (hs : nthO G.tt s = some ⟨.int .i64, s1, b1, z1⟩) (hd : nthO G.tt d = some ⟨.int .u8, s2, b2, z2⟩) (h : some (n % 256) = some z) (hK : K (.int .u8 z) w) : ERun P (convert s d (.int .i64 n)) w K := by
  have h1 := und_intK (und_of ok hs)
  have h2 := und_intK (und_of ok hd)
  rw [← Option.some.inj h] at hK
  refine erun_of (v := .int .u8 (n % 256)) (w' := w) ?_ hK
  simp [convert, run_underlying h1, run_underlying h2, Conv.intToInt, wrap_u8]
/-- a + b of strings -/
theorem catZ {s u z : ByteArray} (h : catO s u = some z) (hK : K (.string z) w) : ERun P (do eqGuard .add t x y (.string s) (.string u); binOp .add t (.string s) (.string u)) w K := by
  unfold catO at h
  split at h
  · rename_i h0
    rw [← Option.some.inj h] at hK
    have h1 : ¬ ((s.size + u.size : Nat) : Int) > IntKind.i64.max := by
      have : IntKind.i64.max = 9223372036854775807 := by decide
      omega
    refine erun_of (v := .string (s ++ u)) (w' := w) ?_ hK
    simp only [eqGuard, binOp, Op.stringOp]
    rw [if_neg h1]
    simp
  · cases h
def bv (x : By) : Value := .int .u8 x
theorem push_loop {f : Value → ByteArray → Sem (ForInStep ByteArray)} (w : World) (hf : ∀ n s, f (.int .u8 n) s = pure (.yield (s.push (UInt8.ofNat n.toNat)))) : ∀ (xs : List By) (s : ByteArray),
    (forIn (m := Sem) (xs.map bv) s f).run P w = .ok (xs.foldl (fun s n => s.push (byU n)) s) w
  | [], s => by simp
  | x :: xs, s => by
    have ih := push_loop w hf xs (s.push (byU x))
    have hf' : f (bv x) s = pure (.yield (s.push (byU x))) := hf x s
    rw [List.map_cons, List.forIn_cons, hf']
    simp only [Sem.run_bind, Sem.run_pure, Result.andThen_ok, List.foldl_cons]
    exact ih
theorem push_all : ∀ (xs : List By) (s : ByteArray), xs.foldl (fun s n => s.push (byU n)) s = ⟨s.data ++ (xs.map byU).toArray⟩
  | [], s => by simp
  | x :: xs, s => by
    rw [List.foldl_cons, push_all xs]
    congr 1
    apply Array.ext'
    simp [ByteArray.push]
theorem convBZ {s d e s1 b1 s2 b2 s3 b3 : Nat} {z1 z2 z3 : Value} {xs : List By} {h : Hd} {z : ByteArray} (ok : EngOk P G) (hs : nthO G.tt s = some ⟨.slice e, s1, b1, z1⟩) (he : nthO G.tt e = some ⟨.int .u8, s3, b3, z3⟩) (hd : nthO G.tt d = some ⟨.string, s2, b2, z2⟩) (hr : Rdb w xs h) (hz : some (ofBytes xs) = some z) (hK : K (.string z) w) : ERun P (convert s d h.v) w K := by
  have h1 := und_slice (und_of ok hs)
  have h2 := und_string (und_of ok hd)
  have h3 := und_intK (und_of ok he)
  rw [← Option.some.inj hz] at hK
  have hlen := hr.len
  refine erun_of (v := .string (ofBytes xs)) (w' := w) ?_ hK
  have key : (Conv.bytesToString h.v).run P w = .ok (.string (ofBytes xs)) w := by
    obtain ⟨A, n, c⟩ := h
    simp only at hlen
    subst hlen
    cases A with
    | none =>
      have : xs = [] := by
        cases xs with
        | nil => rfl
        | cons x xs => obtain ⟨p, hp⟩ := hr.some_ (by simp); cases hp
      subst this; rfl
    | some a =>
      have hc : ∀ j u, (xs.map bv)[j]? = some u → w.cell? (a.add (0 + j)) = some u := by
        intro j u hj
        rw [List.getElem?_map] at hj
        obtain ⟨x, hx, rfl⟩ := Option.map_eq_some_iff.1 hj
        obtain ⟨p, m, h4, h5, h6, h7⟩ := hr.at1 (k := (j : Int)) (a := x) (by unfold idxO; rw [if_pos (by omega), Int.toNat_natCast]; exact hx)
        obtain rfl : a = p := Option.some.inj h4
        obtain rfl : j = m := by omega
        rw [Nat.zero_add]
        rwa [Nat.mul_one] at h7
      have hl := loadCellsFrom_run (P := P) a w (xs.map bv) 0 #[] hc
      rw [List.length_map] at hl
      simp only [Hd.v, Conv.bytesToString, loadCells, Sem.run_bind, hl, Result.andThen_ok]
      have e : (#[] ++ (xs.map bv).toArray) = (xs.map bv).toArray := by simp
      rw [e, Array.forIn_toList.symm]
      rw [push_loop w (fun n s => rfl) xs ByteArray.empty, push_all]
      simp only [Result.andThen_ok, Sem.run_pure]
      congr 3
      show (#[] : Array UInt8) ++ _ = _
      rw [Array.empty_append]
  unfold convert
  simp only [Sem.run_bind, run_underlying h1, run_underlying h2, Result.andThen_ok]
  obtain ⟨A, n, c⟩ := h
  cases A with
  | none => simp only [Hd.v, Sem.run_bind, run_underlying h3, Result.andThen_ok]; exact key
  | some a => simp only [Hd.v, Sem.run_bind, run_underlying h3, Result.andThen_ok]; exact key
/-- xs[lo:hi] of one's own, in a region that draws its order: the rest is let go -/
theorem slOX {α : Type} [Rep α] {S' : World → Prop} {t e st bt be : Nat} {zt ze : Value} {ke : TK} {xs zs : List α} {h : Hd} {lo hi : Option Value} {l m : Int} {K : Value → Prop} (ok : EngOk P G) (ht : nthO G.tt t = some ⟨.slice e, st, bt, zt⟩) (he : nthO G.tt e = some ⟨ke, sz α, be, ze⟩) (H : Cx w0 F S0 w (E (List α) xs h :: Γ)) (hz : sliceO xs l m = some zs) (hlo : optI 0 lo = some l) (hhi : optI h.n hi = some m) (hK : ∀ h' : Hd, Cx w0 F S0 w (E (List α) zs h' :: Γ) → K h'.v) : EHAny P S' (Instr.sliceAt t h.v lo hi none) K := by
  obtain ⟨l', m', rfl, rfl, hlm, hmn, rfl⟩ := sliceO_some hz
  have hc := (H.ro 0 rfl).cap
  exact anyH (v := (h.sub l' m' h.c (sz α)).v) (fun w' => erun_of (sl_run ok ht he l' m' hlo hhi hlm (by omega)) ⟨rfl, rfl⟩) (hK (h.sub l' m' h.c (sz α)) (H.subO hlm hmn ⟨by omega, Nat.le_refl _⟩))
theorem Rdb.at1' {α : Type} [Rep α] [Sc α] {xs : List α} {h : Hd} {k : Int} {a : α} {p : Addr} {m : Nat} (hr : Rdb w xs h) (ha : h.a = some p) (hk : k = (m : Int)) (hx : idxO xs k = some a) : w.cell? (p.add (m * 1)) = some (Sc.val a) := by
  obtain ⟨p', m', h1, h2, _, h3⟩ := hr.at1 hx
  rw [ha] at h1
  obtain rfl := Option.some.inj h1
  obtain rfl : m = m' := by omega
  exact h3
/-- []T{x}, what the element's headers are is kept in mind -/
theorem lit1K {α : Type} [Rep α] {t e st bt be : Nat} {zt ze : Value} {ke : TK} {u : Value} {x : α} {g : Gh α} {K : Value → World → Prop} (ok : EngOk P G) (ht : nthO G.tt t = some ⟨.slice e, st, bt, zt⟩) (he : nthO G.tt e = some ⟨ke, sz α, be, ze⟩) (h0 : Nat.blt 0 (sz α) = true) (h24 : Nat.ble (sz α) 1000 = true) (hx : u.cells = (cl x g).toArray) (H : Cx w0 F S0 w (E α x g :: Γ)) (hK : ∀ (h' : Hd) w', Ext w w' → Cx w0 F S0 w' (EH α [x] h' [⟨0, x, g⟩] :: Γ) → K h'.v w') :
    ERun P (Instr.buildSlice t 1 #[(0, u)]) w K := by
  have h0 : 0 < sz α := by simpa [Nat.blt_eq] using h0
  have h24 := Nat.le_of_ble_eq_true h24
  have hcs : u.cells.size = sz α := by rw [hx]; simp [cl_len]
  have hr := lit1_ (w := w) ok ht he h0 (by omega) hcs (by rw [hx]; exact cl_one x g)
  obtain ⟨S, f1, h1, h3⟩ := Cx.frame (Γ1 := [E α x g]) H
  obtain ⟨fx, r, rfl, ox, hr'⟩ := h1.all
  obtain rfl : r = [] := hr'
  have ox : own w S fx x g := ox
  have hu : Ext w (w.alloc (.cells u.cells e)) := Upd.alloc w _
  have hlt : ∀ b ∈ fx, b < w.heap.size := own_lt ox
  have hchk : chk u.cells 0 (sz α) 0 = cl x g := by
    unfold chk
    rw [hx]
    simp
    exact List.take_of_length_le (by rw [cl_len]; exact Nat.le_refl _)
  have ho : OwnG (sz α) (qOf S) (w.alloc (.cells u.cells e)) (w.heap.size :: fx) (some ⟨w.heap.size, 0, none⟩) 1 1 [x] := by
    refine .inr ⟨w.heap.size, 0, u.cells, e, [fx], rfl, heap_alloc_new w _, rfl, Nat.le_refl _, by unfold maxLen; omega, by rw [hcs]; omega, rfl, by simp, ?_, ?_⟩
    · exact List.nodup_cons.2 ⟨fun h => by have := hlt _ h; omega, own_nd ox⟩
    · intro i hi hi'
      obtain rfl : i = 0 := by simp at hi; omega
      exact ⟨g, hchk, own_keep (fun b hb => hu.block b (h1.sb b hb).1 (by simp)) (fun b hb => hu.block b (hlt b hb) (by simp)) ox⟩
  have hkn : KnOk (w.alloc (.cells u.cells e)) [x] ⟨some ⟨w.heap.size, 0, none⟩, 1, 1⟩ (⟨0, x, g⟩ : Kn α) := by
    refine ⟨rfl, w.heap.size, 0, rfl, fun j v hj => ?_⟩
    exact chk_cell (s := sz α) (o := 0) (i := 0) (heap_alloc_new w _) (by rw [hchk]; exact hj)
  refine erun_of hr (hK ⟨some ⟨w.heap.size, 0, none⟩, 1, 1⟩ _ hu (h3 _ [EH α [x] _ _] ⟨S, w.heap.size :: fx, hu.mono (fun _ h => by cases h), fun _ h => h, fun b hb => ⟨Nat.lt_of_lt_of_le (h1.sb b hb).1 hu.size, .inl hb⟩, ⟨_, [], by simp, ⟨ho, fun k hk => by rw [List.mem_singleton.1 hk]; exact hkn⟩, rfl⟩, ho.nodup, fun b hb => ?_⟩))
  rcases List.mem_cons.1 hb with rfl | hb
  · exact ⟨fun hS => by have := (h1.sb _ hS).1; omega, .inr (Nat.le_refl _)⟩
  · exact ⟨(h1.out b (by simpa using hb)).1, .inl (by simpa using hb)⟩
end
end Go.Proofs.YtmchibapkddniaaGreat.RW
