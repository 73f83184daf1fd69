/-
  More rules: variables that lie in blocks of their own (structs), their fields, whole loads and stores, struct literals, slice expressions; functions whose results lie in such variables. Conditions: the engine's table holds ('EngOk'); bounds in range.
-/
import Derived.Test.YtgnlfjlenjfffaaDoorOps3
import Derived.Deep.MidRow
namespace Go.Proofs.YtgnlfjlenjfffaaDoor.RW
open Go
open Go.RowKit (Below)
open Rep

/-- block b holds just these cells -/
def Blk (w : World) (b : Nat) (cs : List Value) : Prop := ∃ e, w.heap[b]? = some (.cells cs.toArray e (0, 0))
section
variable {P : Program} {G : Eng} {w w' : World} {b : Nat} {cs : List Value}
theorem Blk.keep (h : Blk w b cs) (he : w'.heap[b]? = w.heap[b]?) : Blk w' b cs := by obtain ⟨e, h⟩ := h; exact ⟨e, he.trans h⟩
theorem Blk.lt (h : Blk w b cs) : b < w.heap.size := by obtain ⟨e, h⟩ := h; exact lt_of_some h
theorem Blk.upd {f : List Nat} (h : Blk w b cs) (hu : Upd f w w') (hf : b ∉ f) : Blk w' b cs := h.keep (hu.block b h.lt hf)
theorem Blk.ext (h : Blk w b cs) (hu : Ext w w') : Blk w' b cs := h.upd hu (by simp)
theorem Blk.get (h : Blk w b cs) {j : Nat} {u : Value} (hj : cs[j]? = some u) : w.cell? (Addr.add ⟨b, 0, none⟩ j) = some u := by
  obtain ⟨e, h⟩ := h
  rw [Addr.add_lit, cell_of_row w b _ cs.toArray e (0, 0) h, Nat.zero_add]
  simpa using hj
theorem Blk.all (h : Blk w b cs) : ∀ j u, cs[j]? = some u → w.cell? (Addr.add ⟨b, 0, none⟩ j) = some u := fun _ _ hj => h.get hj

theorem blk_alloc (w : World) (c : Array Value) (e : TypeId) : Blk (w.alloc (.cells c e)) w.heap.size c.toList := ⟨e, by rw [Array.toArray_toList]; exact heap_alloc_new w _⟩
theorem box_ {t : Nat} {v : Value} {K : Value → World → Prop} (hK : ∀ w', Blk w' w.heap.size v.cells.toList → Ext w w' → w.heap.size < w'.heap.size → K (.pointer (some ⟨w.heap.size, 0, none⟩)) w') : ERun P (Instr.box t v) w K :=
  erun_of (v := .pointer (some ⟨w.heap.size, 0, none⟩)) (w' := w.alloc (.cells v.cells t)) (by simp [Instr.box, newVar, newRow]) (hK _ (blk_alloc w _ _) (Upd.alloc w _) (by simp))
theorem alloc_ (ok : EngOk P G) {t s bb : Nat} {k : TK} {z : Value} (ht : nthO G.tt t = some ⟨k, s, bb, z⟩) {K : Value → World → Prop} (hK : ∀ w', Blk w' w.heap.size z.cells.toList → Ext w w' → w.heap.size < w'.heap.size → K (.pointer (some ⟨w.heap.size, 0, none⟩)) w') :
    ERun P (Instr.alloc t true (.tuple #[])) w K := by
  obtain ⟨i, hi, hiz, his, hib⟩ := inf_of ok ht
  simp only at hiz
  exact erun_of (v := .pointer (some ⟨w.heap.size, 0, none⟩)) (w' := w.alloc (.cells z.cells t)) (by simp [Instr.alloc, zeroValue, typeInfo, hi, hiz, newVar, newRow]) (hK _ (blk_alloc w _ _) (Upd.alloc w _) (by simp))
theorem fld (ok : EngOk P G) {t s bb : Nat} {z : Value} {fs : List (Nat × Nat)} (ht : nthO G.tt t = some ⟨.struct fs, s, bb, z⟩) {f ft off se be : Nat} {ke : TK} {ze : Value} (hf : fs[f]? = some (ft, off)) (he : nthO G.tt ft = some ⟨ke, se, be, ze⟩) (h0 : Nat.beq se 0 = false)
    {a : Addr} {K : Value → World → Prop} (hK : K (.pointer (some (a.add off))) w) : ERun P (Instr.fieldAt t (.pointer (some a)) f) w K := by
  obtain ⟨F, hu, hF⟩ := und_struct (und_of ok ht)
  have hs := sizeOf_run ok he w
  have hn : ¬ se = 0 := fun e => by subst e; cases h0
  have hf' : F.toList[f]?.map (fun f => (f.type, f.offset)) = some (ft, off) := by rw [← List.getElem?_map, hF]; exact hf
  obtain ⟨fl, hfl, hfe⟩ := Option.map_eq_some_iff.1 hf'
  rw [Array.getElem?_toList] at hfl
  injection hfe with h1 h2
  refine erun_of (v := .pointer (some (a.add off))) (w' := w) ?_ hK
  simp only at hs
  simp [Instr.fieldAt, run_underlying hu, hfl, Instr.sureAddr, fieldPlace, h1, h2, hs, hn]

/-- a cell of such a variable written -/
theorem stB (h : Blk w b cs) {j : Nat} {v : Value} (hj : j < cs.length) (hv : v.oneCell' = true) {K : World → Prop} (hK : ∀ w', Blk w' b (cs.set j v) → Upd [b] w w' → K w') :
    EStore (.pointer (some (Addr.add ⟨b, 0, none⟩ j))) v w K := by
  have hg := h.get (List.getElem?_eq_getElem hj)
  obtain ⟨e, h⟩ := h
  refine .mk ?_
  refine ⟨_, _, rfl, hg, ?_, hv, hK _ ⟨e, ?_⟩ ?_⟩
  · rw [Addr.add_lit]; exact frozen_of_row w b _ cs.toArray e h
  · rw [Addr.add_lit, setCell_heap _ h, Nat.zero_add]; simp
  · refine (Upd.setCell w _ _).mono fun x hx => .inl ?_
    rw [Addr.add_lit] at hx; simpa using hx
/-- the whole of such a variable written -/
theorem stA (ok : EngOk P G) {t bb : Nat} {k : TK} {z : Value} {cs' : Array Value} (ht : nthO G.tt t = some ⟨k, cs'.size, bb, z⟩) (h : Blk w b cs) (hl : cs.length = cs'.size) (h1 : cs'.all (·.oneCell') = true)
    {K : World → Prop} (hK : ∀ w', Blk w' b cs'.toList → Upd [b] w w' → K w') : EDo P (Instr.storeAt t (.pointer (some ⟨b, 0, none⟩)) (.agg cs')) w K := by
  obtain ⟨i, hi, hiz, his, hib⟩ := inf_of ok ht
  simp only at his
  obtain ⟨e, h⟩ := h
  have hth : w.there b 0 cs'.size := fun j hj => by
    refine ⟨?_, frozen_of_row w b _ cs.toArray e h⟩
    rw [cell_of_row w b _ cs.toArray e (0, 0) h, Nat.zero_add, List.getElem?_toArray, List.getElem?_eq_getElem (by omega)]; rfl
  have hr := run_storeAt_mid (P := P) w b 0 t cs' hth (by rw [hi]; simp [his]) h1
  refine .mk ?_
  refine ⟨_, hr, hK _ ⟨e, ?_⟩ (Upd.setCells b 0 _ w)⟩
  obtain ⟨c2, k1, k2, k3, k4⟩ := setCells_heap b e (0, 0) cs'.toList 0 w cs.toArray h (by simp; omega)
  rw [k1]
  congr 2
  apply Array.ext'
  apply List.ext_getElem?
  intro j
  by_cases hj : j < cs'.size
  · have := k4 j cs'[j] (by simp [hj])
    rw [Nat.zero_add] at this
    simp [this, hj]
  · rw [List.getElem?_eq_none (by simp; simp at k2; omega), List.getElem?_eq_none (by simp; omega)]

/-- T{..}, a struct -/
noncomputable def placesOf (G : Eng) : List (Nat × Nat) → Option (List (Nat × Nat))
  | [] => some []
  | (ft, off) :: l => match nthO G.tt ft, placesOf G l with
    | some ⟨_, s, _, _⟩, some r => some ((off, s) :: r)
    | _, _ => none
theorem places_run (ok : EngOk P G) (w : World) : ∀ (F : List Field) (fs pl : List (Nat × Nat)), F.map (fun f => (f.type, f.offset)) = fs → placesOf G fs = some pl →
    (F.mapM (m := Sem) fun f => do pure (f.offset, ← sizeOf f.type)).run P w = .ok pl w
  | [], fs, pl, h, hp => by
    subst h
    simp only [List.map_nil, placesOf, Option.some.injEq] at hp
    subst hp; simp
  | f :: F, fs, pl, h, hp => by
    subst h
    simp only [List.map_cons, placesOf] at hp
    split at hp
    · rename_i s b z r ht hr
      simp only [Option.some.injEq] at hp
      subst hp
      have h1 := places_run ok w F _ r rfl hr
      have h2 := sizeOf_run ok ht w
      simp only at h2
      rw [List.mapM_cons]
      simp only [Sem.run_bind, h2, Result.andThen_ok, Sem.run_pure, h1]
    · cases hp
theorem build_ (ok : EngOk P G) {t s bb : Nat} {z : Value} {fs pl : List (Nat × Nat)} (ht : nthO G.tt t = some ⟨.struct fs, s, bb, z⟩) (hp : placesOf G fs = some pl) {parts : Array (Nat × Value)} {cs : Array Value}
    (hfill : Instr.fill (fun i => pl[i]?) z.cells parts.toList = some cs) {K : Value → World → Prop} (hK : K (.agg cs) w) : ERun P (Instr.build t parts) w K := by
  obtain ⟨i, hi, hiz, his, hib⟩ := inf_of ok ht
  simp only at hiz
  obtain ⟨F, hu, hF⟩ := und_struct (und_of ok ht)
  have hm : (F.mapM (m := Sem) fun f => do pure (f.offset, ← sizeOf f.type)).run P w = .ok pl.toArray w := by
    have := places_run ok w F.toList fs pl hF hp
    rw [Array.mapM_eq_mapM_toList]
    simp only [Sem.run_map, this, Result.andThen_ok]
  refine erun_of (v := .agg cs) (w' := w) ?_ hK
  have hfill' : Instr.fill (pl.toArray[·]?) z.cells parts.toList = some cs := by
    rw [← hfill]; congr 1; funext i; simp
  simp only [Instr.build, Sem.run_bind, zeroValue, typeInfo, run_program, hi, Sem.run_pure, Result.andThen_ok, hiz, run_underlying hu, hm, hfill']

/-- x[lo:hi] of a slice -/
def subA (A : Option Addr) (l c s : Nat) : Option Addr := if c = l then A else A.map (·.add (l * s))
theorem sl (ok : EngOk P G) {t e st bt be se : Nat} {zt ze : Value} {ke : TK} (ht : nthO G.tt t = some ⟨.slice e, st, bt, zt⟩) (he : nthO G.tt e = some ⟨ke, se, be, ze⟩) {A : Option Addr} {n c : Nat} {lo hi : Int} (l h : Nat) (hlo : lo = l) (hhi : hi = h) (hlh : l ≤ h) (hhc : h ≤ c)
    {K : Value → World → Prop} (hK : K (.slice (subA A l c se) (h - l) (c - l)) w) : ERun P (Instr.sliceAt t (.slice A n c) (some (.int .i64 lo)) (some (.int .i64 hi)) none) w K := by
  have hu := und_slice (und_of ok ht)
  have hs := sizeOf_run ok he w
  simp only at hs
  subst hlo; subst hhi
  refine erun_of (w' := w) ?_ hK
  have h1 : (0 : Int) ≤ (h : Int) ∧ (h : Int) ≤ (c : Int) := ⟨by omega, by omega⟩
  have h2 : (0 : Int) ≤ (l : Int) ∧ (l : Int) ≤ (h : Int) := ⟨by omega, by omega⟩
  simp [Instr.sliceAt, Instr.slice, run_underlying hu, Instr.sliceBounds, Instr.sliceBound, asIntOf, hs, subA, hlh, hhc]
theorem RdL.sub {α : Type} [Rep α] {S : Nat → Prop} {A : Option Addr} {n c l h : Nat} {xs : List α} (hx : RdL w S A n c xs) (hlh : l ≤ h) (hhn : h ≤ n) : RdL w S (subA A l c (sz α)) (h - l) (c - l) ((xs.drop l).take (h - l)) := by
  have hlen : ((xs.drop l).take (h - l)).length = h - l := by
    have := hx.1; rw [List.length_take, List.length_drop]; omega
  refine ⟨hlen.symm, by have := hx.2.1; omega, by have := hx.2.2.1; omega, fun h0 => ?_⟩
  have hxn := hx.1
  obtain ⟨b, o, rfl, hb, hc⟩ := hx.2.2.2 (by omega)
  have hcl : c ≠ l := by have := hx.2.1; omega
  refine ⟨b, o + l * sz α, ?_, hb, fun i hi => ?_⟩
  · unfold subA; rw [if_neg hcl]; simp only [Option.map_some]; rw [Addr.add_lit]
  · obtain ⟨cs, h1, h2⟩ := hc (l + i) (by omega)
    refine ⟨cs, fun j u hj => ?_, ?_⟩
    · have := h1 j u hj
      rw [Nat.add_mul] at this
      rw [show o + l * sz α + i * sz α + j = o + (l * sz α + i * sz α) + j from by omega]; exact this
    · have e : ((xs.drop l).take (h - l))[i] = xs[l + i]'(by omega) := by simp
      rw [e]; exact h2

/-! functions whose results lie in variables -/
def resK (G : Eng) (T : FrL) (w : World) (l : List ResultVar) : (List Value → Prop) → Prop :=
  @List.rec ResultVar (fun _ => (List Value → Prop) → Prop) (fun K => K []) (fun r _ ih K => match r with
    | .tmp t => getK T t fun v => ih fun vs => K (v :: vs)
    | .cell a t => getK T a fun p => match nthO G.tt t with
      | some ⟨k, sz, _, _⟩ => cond (isAggK k) (ELoadN sz p w fun v => ih fun vs => K (v :: vs)) (ELoad p w fun v => ih fun vs => K (v :: vs))
      | none => False) l
def tup : List Value → Value
  | [v] => v
  | l => .tuple l.toArray
def fnKC (G : Eng) (l : List ResultVar) (R : Ending → World → Prop) : Exit → FrL → World → Prop
  | .ret, T, w => resK G T w l fun vs => R (.returned (tup vs)) w
  | .normal, T, w => resK G T w l fun vs => R (.returned (tup vs)) w
  | _, _, _ => False
theorem resK_run (ok : EngOk P G) {T : FrL} {a : Act} (hT : get T = fr a) : ∀ (l : List ResultVar) (K : List Value → Prop), resK G T w l K →
    ∃ vs, (l.mapM (m := Sem) fun | .tmp t => pure (a.tmps.getD t undef) | .cell x t => do loadVar t (← asAddr (a.tmps.getD x undef))).run P w = .ok vs w ∧ vs.length = l.length ∧ K vs
  | [], K, h => ⟨[], by simp, rfl, h⟩
  | .tmp t :: l, K, h => by
    have h : getK T t (fun v => resK G T w l fun vs => K (v :: vs)) := h
    rw [getK_eq] at h
    obtain ⟨vs, h1, h2, h3⟩ := resK_run ok hT l _ h
    refine ⟨_, ?_, ?_, h3⟩
    · rw [List.mapM_cons]; simp only [Sem.run_bind, Sem.run_pure, Result.andThen_ok, h1]
      rw [hT]; rfl
    · simp [h2]
  | .cell x t :: l, K, h => by
    have h : getK T x (fun p => match nthO G.tt t with
      | some ⟨k, sz, _, _⟩ => cond (isAggK k) (ELoadN sz p w fun v => resK G T w l fun vs => K (v :: vs)) (ELoad p w fun v => resK G T w l fun vs => K (v :: vs))
      | none => False) := h
    rw [getK_eq] at h
    split at h
    · rename_i k s b z ht
      have hp : get T x = a.tmps.getD x undef := by rw [hT]; rfl
      have key : ∀ (ad : Addr) (v : Value), get T x = .pointer (some ad) → (Instr.loadAt t (.pointer (some ad))).run P w = .ok v w → (do loadVar t (← asAddr (a.tmps.getD x undef)) : Sem Value).run P w = .ok v w := by
        intro ad v h1 h2
        rw [← hp, h1]
        have h2' : (loadVar t ad).run P w = .ok v w := by simpa [Instr.loadAt, Instr.sureAddr] using h2
        simp [asAddr, h2']
      cases hk : isAggK k
      · rw [hk] at h
        simp only [cond_false] at h
        obtain ⟨ad, v, h1, h2, h3⟩ := h.out
        obtain ⟨vs, h4, h5, h6⟩ := resK_run ok hT l _ h3
        have h7 := key ad v h1 (loadAt_one ok ht hk ad v _ h2)
        refine ⟨v :: vs, ?_, by simp [h5], h6⟩
        rw [List.mapM_cons]
        simp only [Sem.run_bind, Sem.run_pure] at h7 ⊢
        rw [h7]; simp only [Result.andThen_ok, h4]
      · rw [hk] at h
        simp only [cond_true] at h
        obtain ⟨ad, cs, h1, hl, h2, h3⟩ := h.out
        obtain ⟨vs, h4, h5, h6⟩ := resK_run ok hT l _ h3
        have h7 := key ad _ h1 (loadAt_agg ok ht hk ad cs _ hl h2)
        refine ⟨_ :: vs, ?_, by simp [h5], h6⟩
        rw [List.mapM_cons]
        simp only [Sem.run_bind, Sem.run_pure] at h7 ⊢
        rw [h7]; simp only [Result.andThen_ok, h4]
    · exact h.elim
theorem enterC {f : FuncId} {fn : Func} {c : Code} {args : List Value} {R : Ending → World → Prop}
    (ok : EngOk P G) (hf : P.funcs[f]? = some fn) (hb : fn.body = some c) (rs : List ResultVar) (hr : fn.results.toList = rs) {N : Nat} (hN : fn.ntmps = N) (hn : Nat.ble args.length N = true)
    (h : vc P G N c (fnKC G rs R) (argL args 0) w) : Calls P f args.toArray w R := by
  subst hN
  have hn' : args.length ≤ fn.ntmps := Nat.le_of_ble_eq_true hn
  have fin : ∀ (a : Act) (T : FrL) (w : World), get T = fr a → resK G T w rs (fun vs => R (.returned (tup vs)) w) → ∃ v, (results fn a.tmps).run P w = .ok v w ∧ R (.returned v) w := by
    intro a T w hT h3
    obtain ⟨vs, h1, h2, h3⟩ := resK_run ok hT _ _ h3
    refine ⟨_, ?_, h3⟩
    have hm : (fn.results.mapM (m := Sem) fun | .tmp t => pure (a.tmps.getD t undef) | .cell x t => do loadVar t (← asAddr (a.tmps.getD x undef))).run P w = .ok vs.toArray w := by
      rw [Array.mapM_eq_mapM_toList, hr]
      simp only [Sem.run_map, h1, Result.andThen_ok]
    unfold results
    rw [Sem.run_bind]
    refine (congrArg (fun r => Result.andThen r _) hm).trans ?_
    clear hm h1 h2 h3
    match vs with
    | [] => rfl
    | [v] => rfl
    | v :: u :: vs => simp [tup]
  refine calls_of_wp hf hb ?_
  refine Code.wp_mono (Q := Lft fn.ntmps (fnKC G rs R)) ?_ (vc_sound ok c _ _ (argL args 0) w rfl (by simp; omega) ?_ h)
  · rintro e a w ⟨h1, h2, T, hT, h3⟩
    cases e <;> first | exact h3.elim | skip
    · obtain ⟨v, h4, h5⟩ := fin a T w hT h3
      exact ⟨h1, v, h4, h5⟩
    · obtain ⟨v, h4, h5⟩ := fin a T w hT h3
      exact ⟨h1, v, h4, h5⟩
  · funext i
    rw [get_argL]
    simp only [fr, Nat.zero_le, if_true, Nat.sub_zero]
    by_cases hi : i < args.length
    · simp [Array.getD, List.getD, hi]
      intro h; omega
    · simp [Array.getD, List.getD, hi]
      intro h
      rw [Array.getElem_append_right (by simpa using hi)]
      simp
end
end Go.Proofs.YtgnlfjlenjfffaaDoor.RW
