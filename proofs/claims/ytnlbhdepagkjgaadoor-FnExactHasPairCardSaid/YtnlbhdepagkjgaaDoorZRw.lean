/-
  A verification-condition engine over the kit's triples: 'vc' runs a function's code by evaluation, and stops at events (tests, sums, loads, stores, calls, loops); each event has a rule. 'enter' gives the kit's contract 'Calls'. No condition.
-/
import Derived.WalkKit
import Derived.Deep.LoopGhost
import Derived.ScopeJumps
import Derived.RangeFuncCalls
namespace Go.Proofs.YtnlbhdepagkjgaaDoor.RW
open Go

/-- what the engine knows of a type -/
inductive TK where
  | int (k : IntKind) | bool | string | slice (e : Nat) | pointer (e : Nat) | struct (fs : List (Nat × Nat)) | array (n e : Nat) | other
structure TE where
  k : TK
  sz : Nat
  bytes : Nat
  zero : Value

def descK (P : Program) (t : Nat) : Option TK :=
  match P.underlying t with
  | some (.int k) => some (.int k)
  | some .bool => some .bool
  | some .string => some .string
  | some (.slice e) => some (.slice e)
  | some (.pointer e) => some (.pointer e)
  | some (.struct fs) => some (.struct (fs.toList.map fun f => (f.type, f.offset)))
  | some (.array n e) => some (.array n e)
  | some _ => some .other
  | none => none

def infoK (P : Program) (t : Nat) : Option (Value × Nat × Nat) :=
  match P.info? t with
  | some i => match i.zero with
    | some z => some (z, i.size, i.bytes)
    | none => none
  | none => none

def callOk (P : Program) (f : Nat) : Bool :=
  match P.funcs[f]? with
  | some fn => fn.name != "runtime.NumGoroutine" && fn.body.isSome
  | none => false

/-- the table: looked up by the type's number -/
noncomputable def nthO (l : List (Nat × TE)) (t : Nat) : Option TE :=
  @List.rec (Nat × TE) (fun _ => Option TE) none (fun p _ ih => cond (Nat.beq t p.1) (some p.2) ih) l

/-- the table tells the truth -/
def TOk (P : Program) (tt : List (Nat × TE)) : Prop :=
  ∀ t e, nthO tt t = some e → descK P t = some e.k ∧ infoK P t = some (e.zero, e.sz, e.bytes)

def tokAll (P : Program) : List (Nat × TE) → Prop
  | [] => True
  | (i, e) :: l => (descK P i = some e.k ∧ infoK P i = some (e.zero, e.sz, e.bytes)) ∧ tokAll P l

theorem tok_intro {P : Program} : ∀ {l : List (Nat × TE)}, tokAll P l → TOk P l
  | [], _, _, _, h => by cases h
  | (i, x) :: l, h, t, e, ht => by
    have ht' : cond (Nat.beq t i) (some x) (nthO l t) = some e := ht
    cases hb : Nat.beq t i
    · rw [hb] at ht'; exact tok_intro h.2 t e ht'
    · rw [hb] at ht'
      obtain rfl := Nat.eq_of_beq_eq_true hb
      simp only [cond_true, Option.some.injEq] at ht'
      subst ht'; exact h.1

structure Eng where
  tt : List (Nat × TE)
  nf : Nat
  more : List Nat
noncomputable def memN (l : List Nat) (f : Nat) : Bool := @List.rec Nat (fun _ => Bool) false (fun x _ ih => cond (Nat.beq f x) true ih) l
theorem memN_mem {f : Nat} : ∀ {l : List Nat}, memN l f = true → f ∈ l
  | [], h => by cases h
  | x :: l, h => by
    have h : cond (Nat.beq f x) true (memN l f) = true := h
    cases hb : Nat.beq f x
    · rw [hb] at h; exact List.mem_cons_of_mem _ (memN_mem h)
    · obtain rfl := Nat.eq_of_beq_eq_true hb; exact List.mem_cons_self ..
/-- functions that may be called: those below nf, and some more -/
noncomputable def Eng.can (G : Eng) (f : Nat) : Bool := cond (Nat.blt f G.nf) (Nat.ble 3 f) (memN G.more f)
structure EngOk (P : Program) (G : Eng) : Prop where
  tok : TOk P G.tt
  cok : ∀ f, G.can f = true → callOk P f = true

theorem engOk {P : Program} {G : Eng} (h : tokAll P G.tt) (hc : (List.range' 3 (G.nf - 3)).all (callOk P) = true) (hm : G.more.all (callOk P) = true) : EngOk P G :=
  ⟨tok_intro h, fun f hf => by
    unfold Eng.can at hf
    cases hb : Nat.blt f G.nf
    · rw [hb] at hf
      exact List.all_eq_true.1 hm f (memN_mem hf)
    · rw [hb] at hf
      have h1 := Nat.le_of_ble_eq_true hf
      have h2 : f < G.nf := by simpa [Nat.blt_eq] using hb
      exact List.all_eq_true.1 hc f (List.mem_range'_1.2 ⟨h1, by omega⟩)⟩

/-! frames -/
abbrev Fr := Nat → Value
def upd (T : Fr) (d : Nat) (v : Value) : Fr := fun x => cond (Nat.beq x d) v (T x)
def put (N : Nat) (T : Fr) (d : Option Nat) (v : Value) : Fr :=
  match d with
  | some d => cond (Nat.blt d N) (upd T d v) T
  | none => T
def ev (T : Fr) : Operand → Value
  | .tmp t => T t
  | .const v => v
  | .global g => .pointer (some ⟨g, 0, none⟩)
  | .func f => .func (.func f) #[] #[]
noncomputable def evs (T : Fr) (l : List Operand) : List Value := @List.rec Operand (fun _ => List Value) [] (fun x _ ih => ev T x :: ih) l

noncomputable def evp (T : Fr) (l : List (Nat × Operand)) : List (Nat × Value) := @List.rec (Nat × Operand) (fun _ => List (Nat × Value)) [] (fun p _ ih => (p.1, ev T p.2) :: ih) l

theorem upd_eq (T : Fr) (d : Nat) : upd T d (T d) = T := by
  funext x; unfold upd
  cases h : Nat.beq x d
  · rfl
  · simp only [cond_true]; rw [Nat.eq_of_beq_eq_true h]
def fr (a : Act) : Fr := fun i => a.tmps.getD i undef

theorem fr_put (a : Act) (d : Option Nat) (v : Value) : fr (a.put d v) = put a.tmps.size (fr a) d v := by
  cases d with
  | none => rfl
  | some d =>
    funext x
    simp only [fr, Act.put, put]
    by_cases hd : d < a.tmps.size
    · have : Nat.blt d a.tmps.size = true := by simpa [Nat.blt_eq] using hd
      rw [this]; simp only [cond_true, upd]
      by_cases hx : x = d
      · subst hx; simp [Array.getD, hd]
      · have hb : Nat.beq x d = false := by rw [Bool.eq_false_iff]; intro h; exact hx (Nat.eq_of_beq_eq_true h)
        rw [hb]; simp only [cond_false, Array.getD, fr]
        simp only [Array.size_setIfInBounds]
        split
        · rename_i h; exact Array.getElem_setIfInBounds_ne (by simpa using h) (fun e => hx e.symm)
        · rfl
    · have : Nat.blt d a.tmps.size = false := by rw [Bool.eq_false_iff]; simpa [Nat.blt_eq] using hd
      rw [this]; simp only [cond_false]
      rw [Array.setIfInBounds_eq_of_size_le (by omega)]; rfl
theorem size_put (a : Act) (d : Option Nat) (v : Value) : (a.put d v).tmps.size = a.tmps.size := by
  cases d <;> simp [Act.put]
theorem defers_put (a : Act) (d : Option Nat) (v : Value) : (a.put d v).defers = a.defers := by
  cases d <;> simp [Act.put]
theorem ev_fr (a : Act) (x : Operand) : a.eval x = ev (fr a) x := by cases x <;> rfl
theorem evs_fr (a : Act) : ∀ l : List Operand, l.map a.eval = evs (fr a) l
  | [] => rfl
  | x :: l => by
    have ih := evs_fr a l
    rw [List.map_cons, ih, ev_fr]; rfl

theorem evp_fr (a : Act) : ∀ l : List (Nat × Operand), l.map (fun (i, x) => (i, a.eval x)) = evp (fr a) l
  | [] => rfl
  | (i, x) :: l => by
    have ih := evp_fr a l
    rw [List.map_cons, ih]
    show _ = (i, ev (fr a) x) :: evp (fr a) l
    rw [← ev_fr]
theorem map_evp (a : Act) (l : Array (Nat × Operand)) : l.map (fun (i, x) => (i, a.eval x)) = (evp (fr a) l.toList).toArray := by
  apply Array.ext'; rw [Array.toList_map, evp_fr]

/-! events -/
structure EBool (b : Bool) (K : Value → Prop) : Prop where
  out : K (.bool b)
structure ELen (n : Nat) (K : Value → Prop) : Prop where
  out : K (.int .i64 n)
structure EAr (k : IntKind) (x : Int) (K : Value → Prop) : Prop where
  out : K (.int k (k.wrap x))
structure EQuo (k : IntKind) (a b : Int) (K : Value → Prop) : Prop where
  out : b ≠ 0 ∧ K (.int k (k.wrap (a.tdiv b)))
structure ERem (k : IntKind) (a b : Int) (K : Value → Prop) : Prop where
  out : b ≠ 0 ∧ K (.int k (a.tmod b))
structure EIdx (sz : Nat) (A : Option Addr) (n : Nat) (i : Int) (K : Value → Prop) : Prop where
  out : ∃ (a : Addr) (k : Nat), A = some a ∧ i = (k : Int) ∧ k < n ∧ K (.pointer (some (a.add (k * sz))))
/-- a one-cell load -/
structure ELoad (p : Value) (w : World) (K : Value → Prop) : Prop where
  out : ∃ a v, p = .pointer (some a) ∧ w.cell? a = some v ∧ K v
/-- a load of a struct or an array -/
structure ELoadN (sz : Nat) (p : Value) (w : World) (K : Value → Prop) : Prop where
  out : ∃ (a : Addr) (cs : List Value), p = .pointer (some a) ∧ cs.length = sz ∧ (∀ j u, cs[j]? = some u → w.cell? (a.add j) = some u) ∧ K (.agg cs.toArray)
structure EStore (p v : Value) (w : World) (K : World → Prop) : Prop where
  out : ∃ a u, p = .pointer (some a) ∧ w.cell? a = some u ∧ w.frozen? a = false ∧ v.oneCell' = true ∧ K (w.setCell a v)
structure ECall (P : Program) (f : Nat) (args : Array Value) (w : World) (K : Value → World → Prop) : Prop where
  out : Calls P f args w fun e w' => ∃ v, e = .returned v ∧ K v w'
/-- a method called through an interface -/
structure EInv (P : Program) (G : Eng) (r : Value) (m : String) (args : Array Value) (w : World) (K : Value → World → Prop) : Prop where
  out : ∃ t v f x, r = .iface t v ∧ (method (P.types.size + Made.depth) t v m).run P w = .ok (f, x) w ∧ G.can f = true ∧ ECall P f (#[x] ++ args) w K
/-- whatever else: by the model's own run -/
structure ERun (P : Program) (s : Sem Value) (w : World) (K : Value → World → Prop) : Prop where
  out : ∃ v w', s.run P w = .ok v w' ∧ K v w'
structure EDo (P : Program) (s : Sem Unit) (w : World) (K : World → Prop) : Prop where
  out : ∃ w', s.run P w = .ok () w' ∧ K w'

def vcBin (P : Program) (G : Eng) (op : BinOp) (t : Nat) (x y : Operand) (a b : Value) (w : World) (K : Value → World → Prop) : Prop :=
  match a, b with
  | .int .i64 a', .int .i64 b' =>
    match op with
    | .add => EAr .i64 (a' + b') fun v => K v w
    | .sub => EAr .i64 (a' - b') fun v => K v w
    | .mul => EAr .i64 (a' * b') fun v => K v w
    | .quo => EQuo .i64 a' b' fun v => K v w
    | .rem => ERem .i64 a' b' fun v => K v w
    | .lss => EBool (decide (a' < b')) fun v => K v w
    | .leq => EBool (decide (a' ≤ b')) fun v => K v w
    | .gtr => EBool (decide (b' < a')) fun v => K v w
    | .geq => EBool (decide (b' ≤ a')) fun v => K v w
    | .eql => EBool (decide (a' = b')) fun v => K v w
    | .neq => EBool (!decide (a' = b')) fun v => K v w
    | _ => ERun P (do eqGuard op t x y a b; binOp op t a b) w K
  | .bool a', .bool b' =>
    match op, nthO G.tt t with
    | .eql, some ⟨.bool, _, _, _⟩ => EBool (decide (a' = b')) fun v => K v w
    | .neq, some ⟨.bool, _, _, _⟩ => EBool (!decide (a' = b')) fun v => K v w
    | _, _ => ERun P (do eqGuard op t x y a b; binOp op t a b) w K
  | _, _ => ERun P (do eqGuard op t x y a b; binOp op t a b) w K

def isAggK : TK → Bool
  | .struct _ | .array _ _ => true
  | _ => false

def vcOp (P : Program) (G : Eng) (o : Op) (ty : Nat) (T : Fr) (w : World) (K : Value → World → Prop) : Prop :=
  match o with
  | .move x => K (ev T x) w
  | .assign x => K (ev T x) w
  | .pick c a b => match ev T c with
    | .bool t => K (cond t (ev T a) (ev T b)) w
    | _ => False
  | .binOp op t x y _ => vcBin P G op t x y (ev T x) (ev T y) w K
  | .unOp op _ x => match op, ev T x with
    | .not, .bool b => EBool (!b) fun v => K v w
    | .neg, .int .i64 n => EAr .i64 (0 - n) fun v => K v w
    | op, v => ERun P (Op.unary op v) w K
  | .extract t i => match ev T t with
    | .tuple vs => match vs.toList[i]? with
      | some v => K v w
      | none => False
    | _ => False
  | .makeFunc fn first cap => K (.func fn (evs T first.toList).toArray (evs T cap.toList).toArray) w
  | .load t p => match nthO G.tt t with
    | some ⟨k, sz, _, _⟩ => cond (isAggK k) (ELoadN sz (ev T p) w fun v => K v w) (ELoad (ev T p) w fun v => K v w)
    | none => ERun P (Instr.loadAt t (ev T p)) w K
  | .store t p v => match nthO G.tt t with
    | some ⟨k, 1, _, _⟩ => cond (isAggK k) (EDo P (Instr.storeAt t (ev T p) (ev T v)) w fun w' => K undef w') (EStore (ev T p) (ev T v) w fun w' => K undef w')
    | _ => EDo P (Instr.storeAt t (ev T p) (ev T v)) w fun w' => K undef w'
  | .indexAddr t x i => match nthO G.tt t, ev T x, ev T i with
    | some ⟨.slice e, _, _, _⟩, .slice A n c, .int .i64 j => match nthO G.tt e with
      | some ⟨_, sz, _, _⟩ => EIdx sz A n j fun v => K v w
      | none => ERun P (Instr.indexAt t (.slice A n c) (.int .i64 j)) w K
    | _, vx, vi => ERun P (Instr.indexAt t vx vi) w K
  | .field t x f => match nthO G.tt t, ev T x with
    | some ⟨.struct fs, _, _, _⟩, .agg cs => match fs[f]? with
      | some (ft, off) => match nthO G.tt ft with
        | some ⟨k, sz, _, _⟩ => cond (isAggK k) (K (.agg (cs.extract off (off + sz))) w) (match cs.toList[off]? with | some v => K v w | none => False)
        | none => ERun P (Instr.field t (.agg cs) f) w K
      | none => False
    | _, v => ERun P (Instr.field t v f) w K
  | .call ⟨.builtin .len, args, tys⟩ => match args.toList, tys.toList with
    | [x], [t] => match nthO G.tt t, ev T x with
      | some ⟨.slice _, _, _, _⟩, .slice _ n _ => ELen n fun v => K v w
      | some ⟨.string, _, _, _⟩, .string s => ELen s.size fun v => K v w
      | _, v => ERun P (Builtin.len_ tys ty #[v]) w K
    | _, _ => ERun P (Builtin.len_ tys ty (evs T args.toList).toArray) w K
  | .call ⟨.builtin .append, args, tys⟩ => ERun P (Builtin.append_ tys ty (evs T args.toList).toArray) w K
  | .call ⟨.builtin .copy, args, tys⟩ => ERun P (Builtin.copy_ tys ty (evs T args.toList).toArray) w K
  | .call ⟨.builtin .cap, args, tys⟩ => ERun P (Builtin.cap_ tys ty (evs T args.toList).toArray) w K
  | .call ⟨.builtin .delete, args, tys⟩ => ERun P (Builtin.delete_ tys ty (evs T args.toList).toArray) w K
  | .call ⟨.builtin .min, args, tys⟩ => ERun P (Builtin.min_ tys ty (evs T args.toList).toArray) w K
  | .call ⟨.builtin .max, args, tys⟩ => ERun P (Builtin.max_ tys ty (evs T args.toList).toArray) w K
  | .call ⟨.value f, args, _⟩ => match ev T f with
    | .func (.func g) first cap => cond (G.can g) (ECall P g ((first ++ (evs T args.toList).toArray) ++ cap) w K) False
    | _ => False
  | .call ⟨.invoke r m, args, _⟩ => EInv P G (ev T r) m (evs T args.toList).toArray w K
  | .makeInterface t x => ERun P (Instr.makeInterface t (ev T x)) w K
  | .typeAssert x s t c => ERun P (Instr.typeAssert (ev T x) s t c) w K
  | .box e x => ERun P (Instr.box e (ev T x)) w K
  | .alloc e => ERun P (Instr.alloc e true (.tuple #[])) w K
  | .build t parts => ERun P (Instr.build t (evp T parts.toList).toArray) w K
  | .buildSlice t len parts => ERun P (Instr.buildSlice t len (evp T parts.toList).toArray) w K
  | .makeSlice t l c => ERun P (Instr.makeSlice t (ev T l) (ev T c)) w K
  | .makeMap t r => ERun P (Instr.makeMap t (r.map (ev T))) w K
  | .lookup t m x c => ERun P (Instr.lookup t (ev T m) (ev T x) c) w K
  | .mapUpdate t m x v => EDo P (Instr.mapUpdate t (ev T m) (ev T x) (ev T v)) w fun w' => K undef w'
  | .insert t m x v => EDo P (Instr.mapUpdate t (ev T m) (ev T x) (ev T v)) w fun w' => K undef w'
  | .range t x => ERun P (Instr.range t (ev T x)) w K
  | .next it s => ERun P (Instr.next (ev T it) s ty) w K
  | .entry it => ERun P (Instr.entry (ev T it)) w K
  | .slice t x lo hi mx => ERun P (Instr.sliceAt t (ev T x) (lo.map (ev T)) (hi.map (ev T)) (mx.map (ev T))) w K
  | .fieldAddr t x f => ERun P (Instr.fieldAt t (ev T x) f) w K
  | .index t x i => ERun P (Instr.index t (ev T x) (ev T i)) w K
  | .convert s d x => ERun P (convert s d (ev T x)) w K
  | .nilCheck x => match ev T x with
    | .pointer (some a) => K (.pointer (some a)) w
    | .func (.func g) first cap => K (.func (.func g) first cap) w
    | _ => False
  | _ => False

section
variable {P : Program} {G : Eng}

theorem und_of {t : Nat} {e : TE} (ok : EngOk P G) (h : nthO G.tt t = some e) : descK P t = some e.k := (ok.tok t e h).1
theorem inf_of {t : Nat} {e : TE} (ok : EngOk P G) (h : nthO G.tt t = some e) : ∃ i, P.info? t = some i ∧ i.zero = some e.zero ∧ i.size = e.sz ∧ i.bytes = e.bytes := by
  have := (ok.tok t e h).2
  unfold infoK at this
  split at this
  · rename_i i hi
    split at this
    · rename_i z hz
      simp only [Option.some.injEq, Prod.mk.injEq] at this
      exact ⟨i, hi, by rw [hz, this.1], this.2.1, this.2.2⟩
    · cases this
  · cases this

theorem und_slice {t e : Nat} (h : descK P t = some (.slice e)) : P.underlying t = some (.slice e) := by
  unfold descK at h; split at h <;> simp_all
theorem und_bool {t : Nat} (h : descK P t = some .bool) : P.underlying t = some .bool := by
  unfold descK at h; split at h <;> simp_all
theorem und_string {t : Nat} (h : descK P t = some .string) : P.underlying t = some .string := by
  unfold descK at h; split at h <;> simp_all
theorem und_array {t n e : Nat} (h : descK P t = some (.array n e)) : P.underlying t = some (.array n e) := by
  unfold descK at h; split at h <;> simp_all
theorem und_struct {t : Nat} {fs : List (Nat × Nat)} (h : descK P t = some (.struct fs)) : ∃ F : Array Field, P.underlying t = some (.struct F) ∧ F.toList.map (fun f => (f.type, f.offset)) = fs := by
  unfold descK at h; split at h <;> simp_all
theorem isAgg_run {t : Nat} {k : TK} (h : descK P t = some k) (w : World) : (isAgg t).run P w = .ok (isAggK k) w := by
  unfold descK at h
  unfold isAgg
  split at h <;> simp only [Option.some.injEq, reduceCtorEq] at h <;> rename_i hu <;> simp [run_underlying hu] <;> subst h <;> first | rfl | skip
theorem sizeOf_run {t : Nat} {e : TE} (ok : EngOk P G) (h : nthO G.tt t = some e) (w : World) : (sizeOf t).run P w = .ok e.sz w := by
  obtain ⟨i, hi, _, hs, _⟩ := inf_of ok h
  simp [sizeOf, typeInfo, hi, hs]

theorem loadCellsFrom_run (a : Addr) (w : World) : ∀ (cs : List Value) (i : Nat) (acc : Array Value), (∀ j u, cs[j]? = some u → w.cell? (a.add (i + j)) = some u) →
    (loadCellsFrom a i cs.length acc).run P w = .ok (acc ++ cs.toArray) w
  | [], _, acc, _ => by simp [loadCellsFrom]
  | v :: cs, i, acc, h => by
    have h0 := h 0 v rfl
    have ih := loadCellsFrom_run a w cs (i + 1) (acc.push v) (fun j u hj => by
      have := h (j + 1) u (by simpa using hj)
      rwa [show i + 1 + j = i + (j + 1) from by omega])
    simp only [List.length_cons, loadCellsFrom, Sem.run_bind, run_load, Nat.add_zero] at h0 ⊢
    rw [h0]
    simp only [Result.andThen_ok, ih]
    congr 1
    apply Array.ext'
    simp

theorem loadAt_agg {t : Nat} {e : TE} (ok : EngOk P G) (h : nthO G.tt t = some e) (hk : isAggK e.k = true) (a : Addr) (cs : List Value) (w : World) (hl : cs.length = e.sz)
    (hc : ∀ j u, cs[j]? = some u → w.cell? (a.add j) = some u) : (Instr.loadAt t (.pointer (some a))).run P w = .ok (.agg cs.toArray) w := by
  have h1 := isAgg_run (und_of ok h) w
  have h2 := sizeOf_run ok h w
  have h3 := loadCellsFrom_run (P := P) a w cs 0 #[] (by simpa using hc)
  rw [hk] at h1
  simp [Instr.loadAt, Instr.sureAddr, loadVar, h1, h2, loadCells, ← hl, h3]
theorem loadAt_one {t : Nat} {e : TE} (ok : EngOk P G) (h : nthO G.tt t = some e) (hk : isAggK e.k = false) (a : Addr) (v : Value) (w : World)
    (hc : w.cell? a = some v) : (Instr.loadAt t (.pointer (some a))).run P w = .ok v w := by
  have h1 := isAgg_run (und_of ok h) w
  rw [hk] at h1
  simp [Instr.loadAt, Instr.sureAddr, loadVar, h1, hc]
theorem storeAt_one {t : Nat} {e : TE} (ok : EngOk P G) (h : nthO G.tt t = some e) (hs : e.sz = 1) (a : Addr) (v u : Value) (w : World)
    (hc : w.cell? a = some u) (hf : w.frozen? a = false) (ho : v.oneCell' = true) : (Instr.storeAt t (.pointer (some a)) v).run P w = .ok () (w.setCell a v) := by
  have h2 := sizeOf_run ok h w
  have hv : v.cells = #[v] := by cases v <;> first | rfl | (simp [Value.oneCell'] at ho)
  simp [Instr.storeAt, Instr.sureAddr, storeVar, h2, hs, hv, storeCells, run_store P w a v .plain ho, hc, hf, Addr.add_zero']

theorem call_run {g : Nat} (ok : EngOk P G) (h : G.can g = true) (args : Array Value) (w : World) : (callFunc g args).run P w = .ok (.enter g args) w := by
  have := ok.cok g h
  unfold callOk at this
  split at this
  · rename_i fn hf
    simp only [Bool.and_eq_true, bne_iff_ne, ne_eq] at this
    have h2 : fn.body.isNone = false := by cases hb : fn.body <;> simp_all
    have h1 : (fn.name == "runtime.NumGoroutine") = false := by simpa using this.1
    simp only [callFunc, Sem.run_bind, run_program, Result.andThen_ok, hf, h1, h2, Bool.false_eq_true, if_false, Sem.run_pure]
  · cases this

theorem eql_bool {t : Nat} (hb : P.underlying t = some .bool) (a b : Bool) (w : World) : (binOp .eql t (.bool a) (.bool b)).run P w = .ok (.bool (a == b)) w := by
  have h : ∀ d, (Op.equalIn (d + 1) t (.bool a) (.bool b)).run P w = .ok (a == b) w := fun d => by simp [Op.equalIn, run_underlying hb]
  show (do pure (Value.bool (← Op.equal t (.bool a) (.bool b))) : Sem Value).run P w = _
  simp only [Op.equal, Op.maxDepth, Sem.run_bind, h 9999, Result.andThen_ok, Sem.run_pure]
theorem neq_bool {t : Nat} (hb : P.underlying t = some .bool) (a b : Bool) (w : World) : (binOp .neq t (.bool a) (.bool b)).run P w = .ok (.bool (!(a == b))) w := by
  have h : ∀ d, (Op.equalIn (d + 1) t (.bool a) (.bool b)).run P w = .ok (a == b) w := fun d => by simp [Op.equalIn, run_underlying hb]
  show (do pure (Value.bool (!(← Op.equal t (.bool a) (.bool b)))) : Sem Value).run P w = _
  simp only [Op.equal, Op.maxDepth, Sem.run_bind, h 9999, Result.andThen_ok, Sem.run_pure]

theorem vcBin_sound {op : BinOp} {t : Nat} {x y : Operand} {a b : Value} {w : World} {K : Value → World → Prop} (ok : EngOk P G) (h : vcBin P G op t x y a b w K) :
    ∃ v w', Sem.run P (do eqGuard op t x y a b; binOp op t a b) w = .ok v w' ∧ K v w' := by
  unfold vcBin at h
  split at h
  · rename_i a' b'
    cases op
    case add => have h := h.out; exact ⟨_, _, by simp [go_sem], h⟩
    case sub => have h := h.out; exact ⟨_, _, by simp [go_sem], h⟩
    case mul => have h := h.out; exact ⟨_, _, by simp [go_sem], h⟩
    case quo => have h := h.out; exact ⟨_, _, by simp [go_sem, h.1], h.2⟩
    case rem => have h := h.out; exact ⟨_, _, by simp [go_sem, h.1], h.2⟩
    case lss => have h := h.out; exact ⟨_, _, by simp [go_sem] <;> rfl, h⟩
    case leq => have h := h.out; exact ⟨_, _, by simp [go_sem] <;> rfl, h⟩
    case gtr => have h := h.out; exact ⟨_, _, by simp [go_sem] <;> rfl, h⟩
    case geq => have h := h.out; exact ⟨_, _, by simp [go_sem] <;> rfl, h⟩
    case eql => have h := h.out; exact ⟨_, _, by simp [go_sem] <;> rfl, h⟩
    case neq => have h := h.out; exact ⟨_, _, by simp [go_sem] <;> rfl, h⟩
    all_goals (have h := h.out; exact h)
  · rename_i a' b'
    split at h
    · rename_i ht
      have hb := und_bool (und_of ok ht)
      refine ⟨_, _, ?_, h.out⟩
      simp only [eqGuard_at_bool, Sem.run_bind, Sem.run_pure, Result.andThen_ok, eql_bool hb]
      rw [show decide (a' = b') = (a' == b') from by cases a' <;> cases b' <;> rfl]
    · rename_i ht
      have hb := und_bool (und_of ok ht)
      refine ⟨_, _, ?_, h.out⟩
      simp only [eqGuard_at_bool, Sem.run_bind, Sem.run_pure, Result.andThen_ok, neq_bool hb]
      rw [show decide (a' = b') = (a' == b') from by cases a' <;> cases b' <;> rfl]
    · have h := h.out; exact h
  · have h := h.out; exact h

theorem wp_val {o : Oper} {a : Act} {w w' : World} {v : Value} {next : Act → World → Prop} {Q : Exit → Act → World → Prop}
    (h : (execOp a.eval o).run P w = .ok (.value v) w') (hn : next (a.put o.dst v) w') : o.wp P a w next Q := by
  unfold Oper.wp; rw [h]; exact hn
theorem wp_skp {o : Oper} {a : Act} {w w' : World} {next : Act → World → Prop} {Q : Exit → Act → World → Prop}
    (h : (execOp a.eval o).run P w = .ok .skip w') (hn : next (a.put o.dst undef) w') : o.wp P a w next Q := by
  unfold Oper.wp; rw [h]; exact hn
theorem vrun {s : Sem Value} {w w' : World} {v : Value} (h : s.run P w = .ok v w') : (do pure (Next.value (← s)) : Sem Next).run P w = .ok (.value v) w' := by
  simp only [Sem.run_bind, h, Result.andThen_ok, Sem.run_pure]
theorem urun {s : Sem Unit} {w w' : World} (h : s.run P w = .ok () w') : (do s; pure Next.skip : Sem Next).run P w = .ok .skip w' := by
  simp only [Sem.run_bind, h, Result.andThen_ok, Sem.run_pure]
theorem erun {s : Sem Value} {w : World} {K : Value → World → Prop} (h : ERun P s w K) : ∃ v w', s.run P w = .ok v w' ∧ K v w' := by have h := h.out; exact h
theorem edo {s : Sem Unit} {w : World} {K : World → Prop} (h : EDo P s w K) : ∃ w', s.run P w = .ok () w' ∧ K w' := by have h := h.out; exact h
theorem map_evs (a : Act) (l : Array Operand) : l.map a.eval = (evs (fr a) l.toList).toArray := by
  apply Array.ext'; rw [Array.toList_map, evs_fr]

theorem field_part {t : Nat} {fs : List (Nat × Nat)} {z b s : _} {f ft off : Nat} {v : Value} (ok : EngOk P G) (h : nthO G.tt t = some ⟨.struct fs, s, b, z⟩) (hf : fs[f]? = some (ft, off)) (cs : Array Value) (w : World) (hv : (part ft cs off).run P w = .ok v w) : (Instr.field t (.agg cs) f).run P w = .ok v w := by
  obtain ⟨F, hF, hm⟩ := und_struct (und_of ok h)
  have : ∃ x, F[f]? = some x ∧ x.type = ft ∧ x.offset = off := by
    rw [← hm, List.getElem?_map, Option.map_eq_some_iff] at hf
    obtain ⟨x, hx, he⟩ := hf
    simp only [Prod.mk.injEq] at he
    exact ⟨x, by rw [← hx, Array.getElem?_toList], he.1, he.2⟩
  obtain ⟨x, hx, rfl, rfl⟩ := this
  simp [Instr.field, run_underlying hF, hx, asAgg, hv]

theorem vcOp_sound {o : Oper} {a : Act} {w : World} {K : Value → World → Prop} {next : Act → World → Prop} {Q : Exit → Act → World → Prop} (ok : EngOk P G) (h : vcOp P G o.op o.type (fr a) w K) (hK : ∀ v w', K v w' → next (a.put o.dst v) w') : o.wp P a w next Q := by
  obtain ⟨dst, op, type, pos, after, guard⟩ := o
  cases op
  case move x => exact wp_val (v := a.eval x) rfl (hK _ _ (by rw [ev_fr]; exact h))
  case assign x => exact wp_val (v := a.eval x) rfl (hK _ _ (by rw [ev_fr]; exact h))
  case pick c x y =>
    simp only [vcOp] at h
    split at h
    · rename_i t ht
      refine wp_val (v := cond t (ev (fr a) x) (ev (fr a) y)) ?_ (hK _ _ h)
      simp only [execOp, ev_fr, ht, asBool, Sem.run_bind, Sem.run_pure, Result.andThen_ok]
      cases t <;> rfl
    · exact h.elim
  case binOp op t x y yt =>
    obtain ⟨v, w', hr, hk⟩ := vcBin_sound ok h
    exact wp_val (by simp only [execOp, ev_fr]; exact vrun hr) (hK _ _ hk)
  case unOp op t x =>
    simp only [vcOp] at h
    split at h
    · rename_i b hb
      have h := h.out
      exact wp_val (by simp only [execOp, ev_fr, hb]; exact vrun rfl) (hK _ _ h)
    · rename_i n hb
      have h := h.out
      exact wp_val (by simp only [execOp, ev_fr, hb]; exact vrun rfl) (hK _ _ h)
    · obtain ⟨v, w', hr, hk⟩ := erun h
      exact wp_val (by simp only [execOp, ev_fr]; exact vrun hr) (hK _ _ hk)
  case extract t i =>
    simp only [vcOp] at h
    split at h
    · rename_i vs hv
      split at h
      · rename_i v hi
        refine wp_val (v := v) ?_ (hK _ _ h)
        simp only [execOp, ev_fr, hv]
        refine vrun ?_
        have : vs[i]? = some v := by rw [← Array.getElem?_toList]; exact hi
        simp [Instr.extract, this]
      · exact h.elim
    · exact h.elim
  case makeFunc fn first cap =>
    simp only [vcOp] at h
    exact wp_val (by simp only [execOp, map_evs]; exact vrun rfl) (hK _ _ h)
  case load t p =>
    simp only [vcOp] at h
    split at h
    · rename_i k sz b z ht
      cases hk : isAggK k
      · rw [hk] at h
        simp only [cond_false] at h
        have h := h.out
        obtain ⟨ad, v, hp, hc, hkk⟩ := h
        exact wp_val (by simp only [execOp, ev_fr, hp]; exact vrun (loadAt_one ok ht hk ad v w hc)) (hK _ _ hkk)
      · rw [hk] at h
        simp only [cond_true] at h
        have h := h.out
        obtain ⟨ad, cs, hp, hl, hc, hkk⟩ := h
        exact wp_val (by simp only [execOp, ev_fr, hp]; exact vrun (loadAt_agg ok ht hk ad cs w hl hc)) (hK _ _ hkk)
    · obtain ⟨v, w', hr, hk⟩ := erun h
      exact wp_val (by simp only [execOp, ev_fr]; exact vrun hr) (hK _ _ hk)
  case store t p v =>
    simp only [vcOp] at h
    split at h
    · rename_i k b z ht
      cases hk : isAggK k
      · rw [hk] at h
        simp only [cond_false] at h
        have h := h.out
        obtain ⟨ad, u, hp, hc, hf, ho, hkk⟩ := h
        exact wp_skp (by simp only [execOp, ev_fr, hp]; exact urun (storeAt_one ok ht rfl ad _ u w hc hf ho)) (hK _ _ hkk)
      · rw [hk] at h
        simp only [cond_true] at h
        obtain ⟨w', hr, hkk⟩ := edo h
        exact wp_skp (by simp only [execOp, ev_fr]; exact urun hr) (hK _ _ hkk)
    · obtain ⟨w', hr, hkk⟩ := edo h
      exact wp_skp (by simp only [execOp, ev_fr]; exact urun hr) (hK _ _ hkk)
  case indexAddr t x i =>
    simp only [vcOp] at h
    split at h
    · rename_i e s b z A n c j ht hx hj
      split at h
      · rename_i k' sz b' z' he
        have h := h.out
        obtain ⟨ad, k, rfl, rfl, hkn, hkk⟩ := h
        refine wp_val (v := .pointer (some (ad.add (k * sz)))) ?_ (hK _ _ hkk)
        simp only [execOp, ev_fr, hx, hj]
        refine vrun ?_
        have hu := und_slice (und_of ok ht)
        have hs := sizeOf_run ok he w
        have h1 : (0 : Int) ≤ (k : Int) ∧ (k : Int) < n := ⟨by omega, by omega⟩
        simp [Instr.indexAt, run_underlying hu, asIntOf, h1, hs]
        intro hh; omega
      · obtain ⟨v, w', hr, hk⟩ := erun h
        exact wp_val (by simp only [execOp, ev_fr, hx, hj]; exact vrun hr) (hK _ _ hk)
    · obtain ⟨v, w', hr, hk⟩ := erun h
      exact wp_val (by simp only [execOp, ev_fr]; exact vrun hr) (hK _ _ hk)
  case field t x f =>
    simp only [vcOp] at h
    split at h
    · rename_i fs s b z cs ht hx
      split at h
      · rename_i ft off hf
        split at h
        · rename_i k sz b' z' he
          cases hk : isAggK k
          · rw [hk] at h
            simp only [cond_false] at h
            split at h
            · rename_i v hv
              refine wp_val (v := v) ?_ (hK _ _ h)
              simp only [execOp, ev_fr, hx]
              have h1 := isAgg_run (und_of ok he) w
              refine vrun (field_part ok ht hf cs w ?_)
              have : cs[off]? = some v := by rw [← Array.getElem?_toList]; exact hv
              simp [part, h1, hk, this]
            · exact h.elim
          · rw [hk] at h
            simp only [cond_true] at h
            refine wp_val (v := _) ?_ (hK _ _ h)
            simp only [execOp, ev_fr, hx]
            have h1 := isAgg_run (und_of ok he) w
            have h2 := sizeOf_run ok he w
            refine vrun (field_part ok ht hf cs w ?_)
            simp [part, h1, hk, h2]
        · obtain ⟨v, w', hr, hk⟩ := erun h
          exact wp_val (by simp only [execOp, ev_fr, hx]; exact vrun hr) (hK _ _ hk)
      · exact h.elim
    · obtain ⟨v, w', hr, hk⟩ := erun h
      exact wp_val (by simp only [execOp, ev_fr]; exact vrun hr) (hK _ _ hk)
  case nilCheck x =>
    simp only [vcOp] at h
    split at h
    · rename_i ad hx
      exact wp_val (v := .pointer (some ad)) (by simp only [execOp, ev_fr, hx]; rfl) (hK _ _ h)
    · rename_i g first cap hx
      exact wp_val (v := .func (.func g) first cap) (by simp only [execOp, ev_fr, hx]; rfl) (hK _ _ h)
    · exact h.elim
  case call c =>
    obtain ⟨callee, args, tys⟩ := c
    cases callee
    case invoke r m =>
      obtain ⟨t, v, f, x, hr, hm, hg, hc⟩ := EInv.out (h : EInv P G (ev (fr a) r) m (evs (fr a) args.toList).toArray w K)
      have h := hc.out
      unfold Oper.wp
      have : (execOp a.eval ⟨dst, .call ⟨.invoke r m, args, tys⟩, type, pos, after, guard⟩).run P w = .ok (.enter f (#[x] ++ (evs (fr a) args.toList).toArray)) w := by
        simp only [execOp, resolve, ev_fr, map_evs, Sem.run_bind, Sem.run_pure, Result.andThen_ok, invoke, hr]
        have e1 : (#[Value.iface t v] ++ (evs (fr a) args.toList).toArray)[0]? = some (.iface t v) := by simp
        have e2 : (#[Value.iface t v] ++ (evs (fr a) args.toList).toArray).extract 1 (#[Value.iface t v] ++ (evs (fr a) args.toList).toArray).size = (evs (fr a) args.toList).toArray := by
          apply Array.ext'; simp
        rw [e1]
        simp only [e2, callMethod, Sem.run_bind, run_program, Result.andThen_ok, hm]
        exact call_run ok hg _ w
      rw [this]
      refine h.mono ?_
      rintro e w' ⟨v, rfl, hk⟩
      exact hK _ _ hk
    case value f =>
      simp only [vcOp] at h
      split at h
      · rename_i g first cap hf
        cases hg : G.can g
        · rw [hg] at h; exact h.elim
        · rw [hg] at h
          simp only [cond_true] at h
          have h := h.out
          unfold Oper.wp
          have : (execOp a.eval ⟨dst, .call ⟨.value f, args, tys⟩, type, pos, after, guard⟩).run P w = .ok (.enter g (first ++ (evs (fr a) args.toList).toArray ++ cap)) w := by
            simp only [execOp, resolve, ev_fr, hf, Deferred.ofValue, map_evs, Sem.run_bind, Sem.run_pure, Result.andThen_ok, invoke]
            exact call_run ok hg _ w
          rw [this]
          refine h.mono ?_
          rintro e w' ⟨v, rfl, hk⟩
          exact hK _ _ hk
      · exact h.elim
    case builtin b =>
      cases b
      case len =>
        simp only [vcOp] at h
        split at h
        · rename_i x t hx ht
          have ha : args = #[x] := by apply Array.ext'; rw [hx]
          have hty : tys = #[t] := by apply Array.ext'; rw [ht]
          subst ha; subst hty
          split at h
          · rename_i e s b z A n c htt hv
            have h := h.out
            refine wp_val (v := .int .i64 n) ?_ (hK _ _ h)
            have hu := und_slice (und_of ok htt)
            simp [execOp, resolve, ev_fr, hv, invoke, builtin, Builtin.len_, run_underlying hu, goInt]
          · rename_i s b z st htt hv
            have h := h.out
            refine wp_val (v := .int .i64 st.size) ?_ (hK _ _ h)
            have hu := und_string (und_of ok htt)
            simp [execOp, resolve, ev_fr, hv, invoke, builtin, Builtin.len_, run_underlying hu, goInt]
          · obtain ⟨v, w', hr, hk⟩ := erun h
            refine wp_val (v := v) ?_ (hK _ _ hk)
            simp only [execOp, resolve, map_evs, evs, Sem.run_bind, Sem.run_pure, Result.andThen_ok, invoke, builtin, hr]
        · obtain ⟨v, w', hr, hk⟩ := erun h
          refine wp_val (v := v) ?_ (hK _ _ hk)
          simp only [execOp, resolve, map_evs, Sem.run_bind, Sem.run_pure, Result.andThen_ok, invoke, builtin, hr]
      case append =>
        simp only [vcOp] at h
        obtain ⟨v, w', hr, hk⟩ := erun h
        exact wp_val (v := v) (by simp only [execOp, resolve, map_evs, Sem.run_bind, Sem.run_pure, Result.andThen_ok, invoke, builtin, hr]) (hK _ _ hk)
      case copy =>
        simp only [vcOp] at h
        obtain ⟨v, w', hr, hk⟩ := erun h
        exact wp_val (v := v) (by simp only [execOp, resolve, map_evs, Sem.run_bind, Sem.run_pure, Result.andThen_ok, invoke, builtin, hr]) (hK _ _ hk)
      case cap =>
        simp only [vcOp] at h
        obtain ⟨v, w', hr, hk⟩ := erun h
        exact wp_val (v := v) (by simp only [execOp, resolve, map_evs, Sem.run_bind, Sem.run_pure, Result.andThen_ok, invoke, builtin, hr]) (hK _ _ hk)
      case delete =>
        simp only [vcOp] at h
        obtain ⟨v, w', hr, hk⟩ := erun h
        exact wp_val (v := v) (by simp only [execOp, resolve, map_evs, Sem.run_bind, Sem.run_pure, Result.andThen_ok, invoke, builtin, hr]) (hK _ _ hk)
      case min =>
        simp only [vcOp] at h
        obtain ⟨v, w', hr, hk⟩ := erun h
        exact wp_val (v := v) (by simp only [execOp, resolve, map_evs, Sem.run_bind, Sem.run_pure, Result.andThen_ok, invoke, builtin, hr]) (hK _ _ hk)
      case max =>
        simp only [vcOp] at h
        obtain ⟨v, w', hr, hk⟩ := erun h
        exact wp_val (v := v) (by simp only [execOp, resolve, map_evs, Sem.run_bind, Sem.run_pure, Result.andThen_ok, invoke, builtin, hr]) (hK _ _ hk)
      all_goals exact h.elim
  case box => obtain ⟨v, w', hr, hk⟩ := erun h; exact wp_val (by simp only [execOp, ev_fr]; exact vrun hr) (hK _ _ hk)
  case alloc => obtain ⟨v, w', hr, hk⟩ := erun h; exact wp_val (by simp only [execOp]; exact vrun hr) (hK _ _ hk)
  case build => obtain ⟨v, w', hr, hk⟩ := erun h; exact wp_val (by simp only [execOp, map_evp]; exact vrun hr) (hK _ _ hk)
  case buildSlice => obtain ⟨v, w', hr, hk⟩ := erun h; exact wp_val (by simp only [execOp, map_evp]; exact vrun hr) (hK _ _ hk)
  case makeSlice => obtain ⟨v, w', hr, hk⟩ := erun h; exact wp_val (by simp only [execOp, ev_fr]; exact vrun hr) (hK _ _ hk)
  case slice t x lo hi mx =>
    obtain ⟨v, w', hr, hk⟩ := erun h
    have e : ∀ l : Option Operand, l.map a.eval = l.map (ev (fr a)) := fun l => by cases l <;> simp [ev_fr]
    exact wp_val (by simp only [execOp, ev_fr, e]; exact vrun hr) (hK _ _ hk)
  case makeMap t r =>
    obtain ⟨v, w', hr, hk⟩ := erun h
    have e : ∀ l : Option Operand, l.map a.eval = l.map (ev (fr a)) := fun l => by cases l <;> simp [ev_fr]
    exact wp_val (by simp only [execOp, e]; exact vrun hr) (hK _ _ hk)
  case lookup => obtain ⟨v, w', hr, hk⟩ := erun h; exact wp_val (by simp only [execOp, ev_fr]; exact vrun hr) (hK _ _ hk)
  case mapUpdate =>
    obtain ⟨w', hr, hkk⟩ := edo h
    exact wp_skp (by simp only [execOp, ev_fr]; exact urun hr) (hK _ _ hkk)
  case insert =>
    obtain ⟨w', hr, hkk⟩ := edo h
    exact wp_skp (by simp only [execOp, ev_fr]; exact urun hr) (hK _ _ hkk)
  case range => obtain ⟨v, w', hr, hk⟩ := erun h; exact wp_val (by simp only [execOp, ev_fr]; exact vrun hr) (hK _ _ hk)
  case next => obtain ⟨v, w', hr, hk⟩ := erun h; exact wp_val (by simp only [execOp, ev_fr]; exact vrun hr) (hK _ _ hk)
  case entry => obtain ⟨v, w', hr, hk⟩ := erun h; exact wp_val (by simp only [execOp, ev_fr]; exact vrun hr) (hK _ _ hk)
  case fieldAddr => obtain ⟨v, w', hr, hk⟩ := erun h; exact wp_val (by simp only [execOp, ev_fr]; exact vrun hr) (hK _ _ hk)
  case index => obtain ⟨v, w', hr, hk⟩ := erun h; exact wp_val (by simp only [execOp, ev_fr]; exact vrun hr) (hK _ _ hk)
  case convert => obtain ⟨v, w', hr, hk⟩ := erun h; exact wp_val (by simp only [execOp, ev_fr]; exact vrun hr) (hK _ _ hk)
  case makeInterface => obtain ⟨v, w', hr, hk⟩ := erun h; exact wp_val (by simp only [execOp, ev_fr]; exact vrun hr) (hK _ _ hk)
  case typeAssert => obtain ⟨v, w', hr, hk⟩ := erun h; exact wp_val (by simp only [execOp, ev_fr]; exact vrun hr) (hK _ _ hk)
  all_goals exact h.elim
end
def dstOf : List Oper → Nat → Option Nat
  | [], _ => none
  | o :: _, 0 => o.dst
  | _ :: l, n + 1 => dstOf l n

/-! ### frames as lists: what is stored is found again as it was stored -/
abbrev FrL := List (Nat × Value)
noncomputable def get (T : FrL) : Fr := fun t => @List.rec (Nat × Value) (fun _ => Value) undef (fun p _ ih => cond (Nat.beq t p.1) p.2 ih) T
def getK (T : FrL) (t : Nat) (K : Value → Prop) : Prop := @List.rec (Nat × Value) (fun _ => Prop) (K undef) (fun p _ ih => Prod.rec (fun d v => cond (Nat.beq t d) (K v) ih) p) T
noncomputable def ups (T : FrL) (l : List (Nat × Value)) : FrL := @List.rec (Nat × Value) (fun _ => FrL) T (fun p _ ih => p :: ih) l
def Has (T : FrL) (l : List (Nat × Value)) : Prop := @List.rec (Nat × Value) (fun _ => Prop) True (fun p _ ih => get T p.1 = p.2 ∧ ih) l
def evK (T : FrL) (x : Operand) (K : Value → Prop) : Prop := match x with
  | .tmp t => getK T t K
  | .const v => K v
  | .global g => K (.pointer (some ⟨g, 0, none⟩))
  | .func f => K (.func (.func f) #[] #[])
def evsK (T : FrL) (l : List Operand) : (List Value → Prop) → Prop := @List.rec Operand (fun _ => (List Value → Prop) → Prop) (fun K => K []) (fun x _ ih K => evK T x fun v => ih fun vs => K (v :: vs)) l
def evpK (T : FrL) (l : List (Nat × Operand)) : (List (Nat × Value) → Prop) → Prop := @List.rec (Nat × Operand) (fun _ => (List (Nat × Value) → Prop) → Prop) (fun K => K []) (fun p _ ih K => evK T p.2 fun v => ih fun vs => K ((p.1, v) :: vs)) l
def evoK (T : FrL) (x : Option Operand) (K : Option Value → Prop) : Prop := match x with
  | some x => evK T x fun v => K (some v)
  | none => K none

theorem getK_eq (T : FrL) (t : Nat) (K : Value → Prop) : getK T t K = K (get T t) := by
  induction T with
  | nil => rfl
  | cons p T ih =>
    show cond (Nat.beq t p.1) (K p.2) (getK T t K) = K (cond (Nat.beq t p.1) p.2 (get T t))
    cases Nat.beq t p.1
    · exact ih
    · rfl
theorem evK_eq (T : FrL) (x : Operand) (K : Value → Prop) : evK T x K = K (ev (get T) x) := by
  cases x <;> first | exact getK_eq _ _ _ | rfl
theorem evsK_eq (T : FrL) : ∀ (l : List Operand) (K : List Value → Prop), evsK T l K = K (evs (get T) l)
  | [], _ => rfl
  | x :: l, K => by
    show evK T x (fun v => evsK T l fun vs => K (v :: vs)) = K (ev (get T) x :: evs (get T) l)
    rw [evK_eq, evsK_eq T l]
theorem evpK_eq (T : FrL) : ∀ (l : List (Nat × Operand)) (K : List (Nat × Value) → Prop), evpK T l K = K (evp (get T) l)
  | [], _ => rfl
  | p :: l, K => by
    show evK T p.2 (fun v => evpK T l fun vs => K ((p.1, v) :: vs)) = K ((p.1, ev (get T) p.2) :: evp (get T) l)
    rw [evK_eq, evpK_eq T l]
theorem evoK_eq (T : FrL) (x : Option Operand) (K : Option Value → Prop) : evoK T x K = K (x.map (ev (get T))) := by
  cases x
  · rfl
  · exact evK_eq _ _ _
theorem get_cons (T : FrL) (d : Nat) (v : Value) : get ((d, v) :: T) = upd (get T) d v := rfl
theorem ups_eq {T : FrL} : ∀ {l : List (Nat × Value)}, Has T l → get (ups T l) = get T
  | [], _ => rfl
  | (i, v) :: l, h => by
    show upd (get (ups T l)) i v = get T
    rw [ups_eq h.2, ← show get T i = v from h.1, upd_eq]
def frL (a : Act) : FrL := (List.range a.tmps.size).map fun i => (i, a.tmps.getD i undef)
theorem get_frL (a : Act) : get (frL a) = fr a := by
  funext t
  have key : ∀ l : List Nat, get (l.map fun i => (i, a.tmps.getD i undef)) t = if t ∈ l then a.tmps.getD t undef else undef := by
    intro l
    induction l with
    | nil => rfl
    | cons i l ih =>
      show cond (Nat.beq t i) (a.tmps.getD i undef) (get (l.map fun i => (i, a.tmps.getD i undef)) t) = _
      cases hb : Nat.beq t i
      · have : t ≠ i := fun e => by subst e; simp [Nat.beq_refl] at hb
        simp only [cond_false, ih, List.mem_cons, this, false_or]
      · obtain rfl := Nat.eq_of_beq_eq_true hb
        simp
  unfold frL
  rw [key]
  simp only [List.mem_range]
  by_cases h : t < a.tmps.size
  · rw [if_pos h]; rfl
  · rw [if_neg h]
    simp [fr, Array.getD, h]

/-- the boolean behind a value -/
def bK (v : Value) (t f e : Prop) : Prop := match v with
  | .bool b => cond b t f
  | _ => e

def vcOpL (P : Program) (G : Eng) (o : Op) (ty : Nat) (T : FrL) (w : World) (K : Value → World → Prop) : Prop :=
  match o with
  | .move x => evK T x fun v => K v w
  | .assign x => evK T x fun v => K v w
  | .pick c a b => evK T c fun v => bK v (evK T a fun r => K r w) (evK T b fun r => K r w) False
  | .binOp op t x y _ => evK T x fun a => evK T y fun b => vcBin P G op t x y a b w K
  | .unOp op _ x => evK T x fun v => match op, v with
    | .not, .bool b => EBool (!b) fun v => K v w
    | .neg, .int .i64 n => EAr .i64 (0 - n) fun v => K v w
    | op, v => ERun P (Op.unary op v) w K
  | .extract t i => evK T t fun v => match v with
    | .tuple vs => match vs.toList[i]? with
      | some v => K v w
      | none => False
    | _ => False
  | .makeFunc fn first cap => evsK T first.toList fun l => evsK T cap.toList fun l' => K (.func fn l.toArray l'.toArray) w
  | .load t p => evK T p fun p => match nthO G.tt t with
    | some ⟨k, sz, _, _⟩ => cond (isAggK k) (ELoadN sz p w fun v => K v w) (ELoad p w fun v => K v w)
    | none => ERun P (Instr.loadAt t p) w K
  | .store t p v => evK T p fun p => evK T v fun v => match nthO G.tt t with
    | some ⟨k, 1, _, _⟩ => cond (isAggK k) (EDo P (Instr.storeAt t p v) w fun w' => K undef w') (EStore p v w fun w' => K undef w')
    | _ => EDo P (Instr.storeAt t p v) w fun w' => K undef w'
  | .indexAddr t x i => evK T x fun x => evK T i fun i => match nthO G.tt t, x, i with
    | some ⟨.slice e, _, _, _⟩, .slice A n c, .int .i64 j => match nthO G.tt e with
      | some ⟨_, sz, _, _⟩ => EIdx sz A n j fun v => K v w
      | none => ERun P (Instr.indexAt t (.slice A n c) (.int .i64 j)) w K
    | _, vx, vi => ERun P (Instr.indexAt t vx vi) w K
  | .field t x f => evK T x fun x => match nthO G.tt t, x with
    | some ⟨.struct fs, _, _, _⟩, .agg cs => match fs[f]? with
      | some (ft, off) => match nthO G.tt ft with
        | some ⟨k, sz, _, _⟩ => cond (isAggK k) (K (.agg (cs.extract off (off + sz))) w) (match cs.toList[off]? with | some v => K v w | none => False)
        | none => ERun P (Instr.field t (.agg cs) f) w K
      | none => False
    | _, v => ERun P (Instr.field t v f) w K
  | .call ⟨.builtin .len, args, tys⟩ => match args.toList, tys.toList with
    | [x], [t] => evK T x fun v => match nthO G.tt t, v with
      | some ⟨.slice _, _, _, _⟩, .slice _ n _ => ELen n fun v => K v w
      | some ⟨.string, _, _, _⟩, .string s => ELen s.size fun v => K v w
      | _, v => ERun P (Builtin.len_ tys ty #[v]) w K
    | _, _ => False
  | .call ⟨.builtin .append, args, tys⟩ => evsK T args.toList fun l => ERun P (Builtin.append_ tys ty l.toArray) w K
  | .call ⟨.builtin .copy, args, tys⟩ => evsK T args.toList fun l => ERun P (Builtin.copy_ tys ty l.toArray) w K
  | .call ⟨.builtin .cap, args, tys⟩ => evsK T args.toList fun l => ERun P (Builtin.cap_ tys ty l.toArray) w K
  | .call ⟨.builtin .delete, args, tys⟩ => evsK T args.toList fun l => ERun P (Builtin.delete_ tys ty l.toArray) w K
  | .call ⟨.builtin .min, args, tys⟩ => evsK T args.toList fun l => ERun P (Builtin.min_ tys ty l.toArray) w K
  | .call ⟨.builtin .max, args, tys⟩ => evsK T args.toList fun l => ERun P (Builtin.max_ tys ty l.toArray) w K
  | .call ⟨.value f, args, _⟩ => evK T f fun f => evsK T args.toList fun l => match f with
    | .func (.func g) first cap => cond (G.can g) (match first.toList, cap.toList with
      | [], [] => ECall P g l.toArray w K
      | l1, l2 => ECall P g (l1 ++ l ++ l2).toArray w K) False
    | _ => False
  | .call ⟨.invoke r m, args, _⟩ => evK T r fun r => evsK T args.toList fun l => EInv P G r m l.toArray w K
  | .makeInterface t x => evK T x fun x => ERun P (Instr.makeInterface t x) w K
  | .typeAssert x s t c => evK T x fun x => ERun P (Instr.typeAssert x s t c) w K
  | .box e x => evK T x fun v => ERun P (Instr.box e v) w K
  | .alloc e => ERun P (Instr.alloc e true (.tuple #[])) w K
  | .build t parts => evpK T parts.toList fun l => ERun P (Instr.build t l.toArray) w K
  | .buildSlice t len parts => evpK T parts.toList fun l => ERun P (Instr.buildSlice t len l.toArray) w K
  | .makeSlice t l c => evK T l fun l => evK T c fun c => ERun P (Instr.makeSlice t l c) w K
  | .makeMap t r => evoK T r fun r => ERun P (Instr.makeMap t r) w K
  | .lookup t m x c => evK T m fun m => evK T x fun x => ERun P (Instr.lookup t m x c) w K
  | .mapUpdate t m x v => evK T m fun m => evK T x fun x => evK T v fun v => EDo P (Instr.mapUpdate t m x v) w fun w' => K undef w'
  | .insert t m x v => evK T m fun m => evK T x fun x => evK T v fun v => EDo P (Instr.mapUpdate t m x v) w fun w' => K undef w'
  | .range t x => evK T x fun x => ERun P (Instr.range t x) w K
  | .next it s => evK T it fun it => ERun P (Instr.next it s ty) w K
  | .entry it => evK T it fun it => ERun P (Instr.entry it) w K
  | .slice t x lo hi mx => evK T x fun x => evoK T lo fun lo => evoK T hi fun hi => evoK T mx fun mx => ERun P (Instr.sliceAt t x lo hi mx) w K
  | .fieldAddr t x f => evK T x fun x => ERun P (Instr.fieldAt t x f) w K
  | .index t x i => evK T x fun x => evK T i fun i => ERun P (Instr.index t x i) w K
  | .convert s d x => evK T x fun x => ERun P (convert s d x) w K
  | .nilCheck x => evK T x fun x => match x with
    | .pointer (some a) => K (.pointer (some a)) w
    | .func (.func g) first cap => K (.func (.func g) first cap) w
    | _ => False
  | _ => False

theorem vcOpL_imp {P : Program} {G : Eng} {o : Op} {ty : Nat} {T : FrL} {w : World} {K : Value → World → Prop} (h : vcOpL P G o ty T w K) : vcOp P G o ty (get T) w K := by
  cases o
  case pick c a b =>
    simp only [vcOpL, vcOp, evK_eq] at h ⊢
    unfold bK at h
    split at h
    · rename_i t ht
      cases t <;> exact h
    · exact h.elim
  case unOp op t x =>
    simp only [vcOpL, vcOp, evK_eq] at h ⊢
    exact h
  case call c =>
    obtain ⟨callee, args, tys⟩ := c
    cases callee
    case invoke => simpa only [vcOpL, vcOp, evK_eq, evsK_eq] using h
    case value f =>
      simp only [vcOpL, vcOp, evK_eq, evsK_eq] at h ⊢
      split at h
      · rename_i g first cap hf
        cases hg : G.can g
        · rw [hg] at h; exact h.elim
        · rw [hg] at h
          simp only [cond_true] at h ⊢
          have e : ∀ (l : List Value), first ++ l.toArray ++ cap = (first.toList ++ l ++ cap.toList).toArray := by
            intro l; apply Array.ext'; simp
          rw [e]
          split at h
          · rename_i h1 h2
            rw [h1, h2]; simpa using h
          · exact h
      · exact h.elim
    case builtin b =>
      cases b
      case len =>
        simp only [vcOpL, vcOp, evK_eq] at h ⊢
        split at h
        · rename_i x t hx ht
          exact h
        · exact h.elim
      case append => simpa only [vcOpL, vcOp, evsK_eq] using h
      case copy => simpa only [vcOpL, vcOp, evsK_eq] using h
      case cap => simpa only [vcOpL, vcOp, evsK_eq] using h
      case delete => simpa only [vcOpL, vcOp, evsK_eq] using h
      case min => simpa only [vcOpL, vcOp, evsK_eq] using h
      case max => simpa only [vcOpL, vcOp, evsK_eq] using h
      all_goals exact h.elim
  all_goals first
    | exact h.elim
    | (simp only [vcOpL, vcOp, evK_eq, evsK_eq, evpK_eq, evoK_eq] at h ⊢; exact h)

/-- is the operation wanted? -/
def wantK (all : List Oper) (T : FrL) (N : Nat) (o : Oper) (yes no : Prop) : Prop :=
  match o.guard with
  | none => yes
  | some (j, b) => match dstOf all j with
    | some d => cond (Nat.blt d N) (getK T d fun v => bK v (cond b yes no) (cond b no yes) no) no
    | none => no

/-- a call of a loop's 'yield' -/
structure EYield (P : Program) (l : Nat) (args : Array Value) (w : World) (K : Value → World → Prop) : Prop where
  out : YieldAt Fence.wide 0 P l args w (fun e w' => ∃ v, e = .returned v ∧ K v w')
/-- an operation of a region without draws -/
def vcOpY (P : Program) (G : Eng) (o : Op) (ty : Nat) (T : FrL) (w : World) (K : Value → World → Prop) : Prop :=
  match o with
  | .call ⟨.value f, args, tys⟩ => evK T f fun v => match v with
    | .func (.yield l) first cap => evsK T args.toList fun vs => EYield P l (first ++ vs.toArray) w K
    | _ => vcOpL P G (.call ⟨.value f, args, tys⟩) ty T w K
  | o => vcOpL P G o ty T w K
def vcStep (P : Program) (G : Eng) (N : Nat) (all : List Oper) (o : Oper) (ih : FrL → World → Prop) (T : FrL) (w : World) : Prop :=
  match o.dst with
  | some d => cond (Nat.blt d N) (wantK all T N o (vcOpY P G o.op o.type T w fun v w' => ih ((d, v) :: T) w') (ih ((d, undef) :: T) w)) False
  | none => wantK all T N o (vcOpY P G o.op o.type T w fun _ w' => ih T w') (ih T w)
def vcOps (P : Program) (G : Eng) (N : Nat) (all : List Oper) (Q : FrL → World → Prop) (l : List Oper) : FrL → World → Prop :=
  @List.rec Oper (fun _ => FrL → World → Prop) Q (fun o _ ih => vcStep P G N all o ih) l

def LftD (ds : List Deferred) (N : Nat) (Q : Exit → FrL → World → Prop) : Exit → Act → World → Prop := fun e a w => a.defers = ds ∧ a.tmps.size = N ∧ ∃ T, get T = fr a ∧ Q e T w
def Lft (N : Nat) (Q : Exit → FrL → World → Prop) : Exit → Act → World → Prop := LftD [] N Q

section
variable {P : Program} {G : Eng}

theorem dstOf_eq : ∀ (l : List Oper) (j : Nat), dstOf l j = (l[j]?).bind (·.dst)
  | [], j => by simp [dstOf]
  | o :: l, 0 => by simp [dstOf]
  | o :: l, j + 1 => by simp [dstOf, dstOf_eq l j]

theorem want_sound {all : List Oper} {T : FrL} {a : Act} {o : Oper} {yes no : Prop} (hT : get T = fr a) (h : wantK all T a.tmps.size o yes no) :
    (Region.wanted o (yielded all.toArray a.tmps) = true ∧ yes) ∨ (Region.wanted o (yielded all.toArray a.tmps) = false ∧ no) := by
  unfold wantK at h
  unfold Region.wanted
  split at h
  · rename_i hg; rw [hg]; exact .inl ⟨rfl, h⟩
  · rename_i j c hg
    rw [hg]
    simp only [yielded, List.getElem?_toArray]
    rw [dstOf_eq] at h
    cases hd : (all[j]?).bind (·.dst) with
    | none => rw [hd] at h; exact .inr ⟨by simp, h⟩
    | some d =>
      rw [hd] at h
      simp only [Option.bind_some] at h ⊢
      cases hlt : Nat.blt d a.tmps.size
      · rw [hlt] at h
        have hnl : ¬ d < a.tmps.size := by rw [← Nat.blt_eq, hlt]; simp
        rw [Array.getElem?_eq_none (Nat.le_of_not_lt hnl)]
        exact .inr ⟨by simp, h⟩
      · rw [hlt, cond_true, getK_eq, hT] at h
        have hd' : d < a.tmps.size := by rw [← Nat.blt_eq]; exact hlt
        have e : fr a d = a.tmps[d] := by simp [fr, Array.getD, hd']
        rw [Array.getElem?_eq_getElem hd']
        rw [e] at h
        unfold bK at h
        split at h
        · rename_i x hx
          rw [hx]
          cases x <;> cases c <;> first | exact .inl ⟨rfl, h⟩ | exact .inr ⟨rfl, h⟩
        · rename_i hx
          refine .inr ⟨?_, h⟩
          split
          · rename_i y hy; simp only [Option.some.injEq] at hy; exact (hx _ hy).elim
          · simp

/-- everywhere, within a loop's round or not -/
def FW (r : Option Nat) : Fence := { Fence.wide with round := r }
theorem wpIn_of_wp {r : Option Nat} {n : Nat} {o : Oper} {a : Act} {w : World} {next : Act → World → Prop} {Q : Exit → Act → World → Prop} (hd : ∀ c, o.op ≠ .defer c) (h : o.wp P a w next Q) : o.wpIn (FW r) n P a w next Q := by
  refine ⟨fun _ _ => trivial, ?_⟩
  have hno : ¬ (FW r).depth.isSome = true := fun h => by cases h
  unfold Oper.wp at h
  rw [show (FW r).round = r from rfl, Oper.semAt_eq r _ _ hd]
  revert h
  cases (execOp a.eval o).run P w with
  | ok x w' =>
    cases x with
    | enter f args => exact fun h => ⟨fun h => (hno h).elim, (show CallsIn Fence.wide _ P f args w' _ from callsIn_wide.2 h)⟩
    | row row args => exact fun h => ⟨fun h => (hno h).elim, fun c cs _ => by
        obtain ⟨v, w2, h1, h2⟩ := h c cs
        exact ⟨v, w2, h1, (show StepsIn (Machine.fenced P Fence.wide) P _ _ from stepsIn_wide.2 h2)⟩⟩
    | value v => exact id
    | skip => exact id
    | defer d => exact id
    | _ => exact fun h => h.elim
  | halt x w' =>
    cases x with
    | panic v => exact id
    | _ => exact fun h => h.elim
theorem vcOp_nodefer {o : Op} {ty : Nat} {T : Fr} {w : World} {K : Value → World → Prop} (h : vcOp P G o ty T w K) : ∀ c, o ≠ .defer c := by
  rintro c rfl
  exact h.elim
theorem vcOpY_sound {r : Option Nat} {n : Nat} {o : Oper} {a : Act} {T : FrL} {w : World} {K : Value → World → Prop} {next : Act → World → Prop} {Q : Exit → Act → World → Prop} (ok : EngOk P G) (hT : get T = fr a) (h : vcOpY P G o.op o.type T w K) (hK : ∀ v w', K v w' → next (a.put o.dst v) w') : o.wpIn (FW r) n P a w next Q := by
  have old : vcOpL P G o.op o.type T w K → o.wpIn (FW r) n P a w next Q := fun h => by
    have h2 := vcOpL_imp h
    exact wpIn_of_wp (vcOp_nodefer h2) (vcOp_sound ok (hT ▸ h2) hK)
  unfold vcOpY at h
  split at h
  · rename_i f args tys ho
    rw [evK_eq] at h
    split at h
    · rename_i l first cap hv
      rw [evsK_eq] at h
      obtain ⟨fn, tmps, assign, body, hy, hR⟩ := h.out
      refine ⟨fun _ _ => trivial, ?_⟩
      rw [show (FW r).round = r from rfl, Oper.semAt_eq r _ _ (by rw [ho]; intro c hc; cases hc)]
      have hrun : (execOp a.eval o).run P w = .ok (.round l fn tmps assign body) w := by
        obtain ⟨dst, op, type, pos, after, guard⟩ := o
        subst ho
        rw [hT] at hv
        have he : (evs (fr a) args.toList).toArray = args.map a.eval := by
          rw [← map_evs]
        simp only [execOp, resolve, ev_fr, hv, Deferred.ofValue, map_evs, Sem.run_bind, Sem.run_pure, Result.andThen_ok, invoke]
        rw [hT] at hy
        exact hy
      rw [hrun]
      refine ⟨(fun h => by cases h), (show RoundIn Fence.wide _ P l fn tmps assign body w _ from ?_)⟩
      have hR : RoundIn Fence.wide 0 P l fn tmps assign body w _ := hR
      refine RoundIn.mono (show RoundIn Fence.wide (n - 1) P l fn tmps assign body w _ from ⟨hR.1, fun c cs hroom => hR.2 c cs (room_wide _)⟩) ?_
      rintro e w' ⟨v, rfl, hk⟩
      exact hK _ _ hk
    · exact old (by rw [ho]; exact h)
  · exact old h
theorem vcOps_soundIn {ds : List Deferred} {r : Option Nat} {n : Nat} {N : Nat} {all : List Oper} {Q : Exit → FrL → World → Prop} (ok : EngOk P G) : ∀ (l : List Oper) (a : Act) (T : FrL) (w : World), a.tmps.size = N → a.defers = ds → get T = fr a →
    vcOps P G N all (Q .normal) l T w → wpListIn (FW r) n P all.toArray (LftD ds N Q) l a w
  | [], a, T, w, hN, hd, hT, h => ⟨hd, hN, T, hT, h⟩
  | o :: rest, a, T, w, hN, hd, hT, h => by
    have h : vcStep P G N all o (vcOps P G N all (Q .normal) rest) T w := h
    unfold vcStep at h
    unfold wpListIn
    split at h
    · rename_i d hdst
      cases hlt : Nat.blt d N
      · rw [hlt] at h; exact h.elim
      · rw [hlt, cond_true, ← hN] at h
        have hput : ∀ v, get ((d, v) :: T) = fr (a.put o.dst v) := fun v => by
          rw [get_cons, hT, fr_put, hN, hdst]; simp only [put, hlt, cond_true]
        rcases want_sound hT h with ⟨hw, h⟩ | ⟨hw, h⟩
        · rw [hw, if_pos rfl]
          refine vcOpY_sound ok hT h (fun v w' hk => ?_)
          rw [hN] at hk
          exact vcOps_soundIn ok rest _ _ _ (by rw [size_put, hN]) (by rw [defers_put, hd]) (hput v) hk
        · rw [hw, if_neg (by simp)]
          rw [hN] at h
          exact ⟨fun _ _ => trivial, vcOps_soundIn ok rest _ _ _ (by rw [size_put, hN]) (by rw [defers_put, hd]) (hput _) h⟩
    · rename_i hdst
      rw [← hN] at h
      have hput : ∀ v, get T = fr (a.put o.dst v) := fun v => by rw [hT, fr_put, hdst]; rfl
      rcases want_sound hT h with ⟨hw, h⟩ | ⟨hw, h⟩
      · rw [hw, if_pos rfl]
        refine vcOpY_sound ok hT h (fun v w' hk => ?_)
        rw [hN] at hk
        exact vcOps_soundIn ok rest _ _ _ (by rw [size_put, hN]) (by rw [defers_put, hd]) (hput v) hk
      · rw [hw, if_neg (by simp)]
        rw [hN] at h
        exact ⟨fun _ _ => trivial, vcOps_soundIn ok rest _ _ _ (by rw [size_put, hN]) (by rw [defers_put, hd]) (hput undef) h⟩
end

def thenK (K : FrL → World → Prop) (Q : Exit → FrL → World → Prop) : Exit → FrL → World → Prop
  | .normal, T, w => K T w
  | e, T, w => Q e T w
def blkK (id : Nat) (Q : Exit → FrL → World → Prop) : Exit → FrL → World → Prop
  | .exit i, T, w => cond (Nat.beq i id) (Q .normal T w) (Q (.exit i) T w)
  | e, T, w => Q e T w

/-- the code's own triple, at every frame that reads so -/
structure ECode (P : Program) (N : Nat) (c : Code) (Q : Exit → FrL → World → Prop) (T : FrL) (w : World) : Prop where
  out : ∀ a : Act, a.defers = [] → a.tmps.size = N → get T = fr a → c.wp P (Lft N Q) a w
structure EDraw (P : Program) (G : Eng) (N : Nat) (id : Nat) (ops : Array Oper) (Q : Exit → FrL → World → Prop) (T : FrL) (w : World) : Prop where
  out : EngOk P G → ECode P N (.region id ops true) Q T w
structure ELoop (P : Program) (G : Eng) (N : Nat) (b : Code) (Q : Exit → FrL → World → Prop) (T : FrL) (w : World) : Prop where
  out : EngOk P G → ECode P N (.loop b) Q T w

structure EScope (P : Program) (G : Eng) (N : Nat) (c : Code) (Q : Exit → FrL → World → Prop) (T : FrL) (w : World) : Prop where
  out : EngOk P G → ECode P N (.scope c) Q T w

structure ESeq (P : Program) (G : Eng) (N : Nat) (x : Code) (K0 : FrL → World → Prop) (Q : Exit → FrL → World → Prop) (T : FrL) (w : World) : Prop where
  out : EngOk P G → ECode P N x (thenK K0 Q) T w
noncomputable def anyG (l : List Oper) : Bool := @List.rec Oper (fun _ => Bool) false (fun o _ ih => match o.guard with
  | none => ih
  | some _ => true) l
/-- may this part end in more than one way? -/
noncomputable def stops (c : Code) : Bool := match c with
  | .region _ ops _ => anyG ops.toList
  | .skip => false
  | _ => true
def vc (P : Program) (G : Eng) (N : Nat) (c : Code) : (Exit → FrL → World → Prop) → FrL → World → Prop :=
  @Code.rec (fun _ => (Exit → FrL → World → Prop) → FrL → World → Prop)
    (fun Q T w => Q .normal T w)
    (fun id ops draw Q T w => cond draw (EDraw P G N id ops Q T w) (vcOps P G N ops.toList (Q .normal) ops.toList T w))
    (fun a _ ia ib Q T w => cond (stops a) (ESeq P G N a (ib Q) Q T w) (ia (thenK (ib Q) Q) T w))
    (fun c _ _ ix iy Q T w => evK T c fun v => bK v (ix Q T w) (iy Q T w) False)
    (fun id _ ib Q T w => ib (blkK id Q) T w)
    (fun b _ Q T w => ELoop P G N b Q T w)
    (fun _ _ _ _ _ _ _ _ _ => False)
    (fun id Q T w => Q (.exit id) T w)
    (fun c _ Q T w => EScope P G N c Q T w)
    (fun _ Q T w => Q .normal T w)
    (fun l Q T w => Q (.goto l) T w)
    (fun Q T w => Q .ret T w)
    (fun _ _ _ _ => False) c

section
variable {P : Program} {G : Eng}

theorem lft_then {N : Nat} {K : FrL → World → Prop} {Q : Exit → FrL → World → Prop} {next : Act → World → Prop}
    (h : ∀ a T w, a.defers = [] → a.tmps.size = N → get T = fr a → K T w → next a w) (e : Exit) (a : Act) (w : World) : Lft N (thenK K Q) e a w → Exit.then next (Lft N Q) e a w := by
  rintro ⟨h1, h2, T, hT, h3⟩
  cases e <;> first | exact h _ _ _ h1 h2 hT h3 | exact ⟨h1, h2, T, hT, h3⟩

theorem lft_blk {N id : Nat} {Q : Exit → FrL → World → Prop} (e : Exit) (a : Act) (w : World) : Lft N (blkK id Q) e a w → Exit.inBlock id (Lft N Q) e a w := by
  rintro ⟨h1, h2, T, hT, h3⟩
  cases e with
  | exit i =>
    simp only [blkK] at h3
    show if i = id then _ else _
    cases hb : Nat.beq i id
    · rw [hb] at h3
      have : i ≠ id := fun e => by subst e; simp [Nat.beq_refl] at hb
      rw [if_neg this]; exact ⟨h1, h2, T, hT, h3⟩
    · rw [hb] at h3
      rw [if_pos (Nat.eq_of_beq_eq_true hb)]; exact ⟨h1, h2, T, hT, h3⟩
  | _ => exact ⟨h1, h2, T, hT, h3⟩

theorem vc_sound {N : Nat} (ok : EngOk P G) : ∀ (c : Code) (Q : Exit → FrL → World → Prop) (a : Act) (T : FrL) (w : World), a.defers = [] → a.tmps.size = N → get T = fr a → vc P G N c Q T w → c.wp P (Lft N Q) a w
  | .skip, Q, a, T, w, hd, hN, hT, h => wp_skip ⟨hd, hN, T, hT, h⟩
  | .seq x y, Q, a, T, w, hd, hN, hT, h => by
    have h : cond (stops x) (ESeq P G N x (vc P G N y Q) Q T w) (vc P G N x (thenK (vc P G N y Q) Q) T w) := h
    cases hs : stops x
    case true =>
      rw [hs, cond_true] at h
      have h := (h.out ok).out a hd hN hT
      refine wp_seq (Code.wp_mono (lft_then fun a' T' w' h1 h2 hT' h3 => ?_) h)
      exact vc_sound ok y Q a' T' w' h1 h2 hT' h3
    rw [hs, cond_false] at h
    refine wp_seq (Code.wp_mono (lft_then fun a' T' w' h1 h2 hT' h3 => ?_) (vc_sound ok x _ a T w hd hN hT h))
    exact vc_sound ok y Q a' T' w' h1 h2 hT' h3
  | .region id ops draw, Q, a, T, w, hd, hN, hT, h => by
    cases draw
    · have h : vcOps P G N ops.toList (Q .normal) ops.toList T w := h
      have := vcOps_soundIn (r := none) (n := 0) ok ops.toList a T w hN hd hT h
      have this : wpListIn Fence.wide 0 P ops.toList.toArray (Lft N Q) ops.toList a w := this
      exact (wpIn_wide (n := 0)).1 (wpIn_region_list (by simpa using this))
    · have h : EDraw P G N id ops Q T w := h
      have h := (h.out ok).out
      exact h a hd hN hT
  | .cond c x y, Q, a, T, w, hd, hN, hT, h => by
    have h : evK T c (fun v => bK v (vc P G N x Q T w) (vc P G N y Q T w) False) := h
    rw [evK_eq] at h
    unfold bK at h
    split at h
    · rename_i t ht
      refine wp_cond (t := t) (by rw [ev_fr, ← hT]; exact ht) ?_
      cases t
      · exact vc_sound ok y Q a T w hd hN hT h
      · exact vc_sound ok x Q a T w hd hN hT h
    · exact h.elim
  | .block id b, Q, a, T, w, hd, hN, hT, h => wp_block (Code.wp_mono lft_blk (vc_sound ok b _ a T w hd hN hT h))
  | .loop b, Q, a, T, w, hd, hN, hT, h => by
    have h : ELoop P G N b Q T w := h
    have h := (h.out ok).out
    exact h a hd hN hT
  | .exit id, Q, a, T, w, hd, hN, hT, h => wp_exit ⟨hd, hN, T, hT, h⟩
  | .ret, Q, a, T, w, hd, hN, hT, h => wp_ret ⟨hd, hN, T, hT, h⟩
  | .rangeFunc .., _, _, _, _, _, _, _, h => h.elim
  | .scope c, Q, a, T, w, hd, hN, hT, h => by
    have h : EScope P G N c Q T w := h
    exact (h.out ok).out a hd hN hT
  | .label _, Q, a, T, w, hd, hN, hT, h => wp_label ⟨hd, hN, T, hT, h⟩
  | .goto l, Q, a, T, w, hd, hN, hT, h => wp_goto ⟨hd, hN, T, hT, h⟩
  | .refuse _, _, _, _, _, _, _, _, h => h.elim

theorem has_of {T : FrL} {f : Fr} {l : List (Nat × Value)} (h : get T = f) (hl : Has T l) : ∀ T', get T' = f → Has T' l := by
  intro T' h'
  induction l with
  | nil => trivial
  | cons p l ih => exact ⟨by rw [h', ← h]; exact hl.1, ih hl.2⟩

/-- A LOOP: the ghost state s, the slots that are read later, what holds, and what goes down. -/
theorem loop {N : Nat} {b : Code} {Q : Exit → FrL → World → Prop} {T : FrL} {w : World} {σ : Type} (sl : σ → List (Nat × Value)) (I : σ → World → Prop) (μ : σ → Nat) (s0 : σ)
    (hT : Has T (sl s0)) (h0 : I s0 w)
    (hb : ∀ (T0 : FrL) (s : σ) (w' : World), I s w' → vc P G N b (thenK (fun T' w'' => ∃ s', Has T' (sl s') ∧ I s' w'' ∧ μ s' < μ s) Q) (ups T0 (sl s)) w') :
    ELoop P G N b Q T w := by
  refine ⟨fun ok => ⟨fun a hd hN hfr => ?_⟩⟩
  refine wp_loop_ghost (fun n a w => a.defers = [] ∧ a.tmps.size = N ∧ ∃ s, μ s = n ∧ Has (frL a) (sl s) ∧ I s w) (μ s0) ⟨hd, hN, s0, rfl, has_of hfr hT _ (get_frL a), h0⟩ ?_
  rintro n a w ⟨hd, hN, s, rfl, hH, hI⟩
  have h := hb (frL a) s w hI
  refine Code.wp_mono (lft_then fun a' T' w' h1 h2 hT' h3 => ?_) (vc_sound ok b _ a _ w hd hN (by rw [ups_eq hH, get_frL]) h)
  obtain ⟨s', hH', hI', hlt⟩ := h3
  exact ⟨μ s', hlt, h1, h2, s', rfl, has_of hT' hH' _ (get_frL a'), hI'⟩

/-! the function as a whole -/
def resSlots : List ResultVar → Option (List Nat)
  | [] => some []
  | .tmp t :: l => match resSlots l with
    | some r => some (t :: r)
    | none => none
  | _ => none
def pack (T : Fr) : List Nat → Value
  | [t] => T t
  | l => .tuple (l.map T).toArray
def getsK (T : FrL) (l : List Nat) : (List Value → Prop) → Prop := @List.rec Nat (fun _ => (List Value → Prop) → Prop) (fun K => K []) (fun t _ ih K => getK T t fun v => ih fun vs => K (v :: vs)) l
theorem getsK_eq (T : FrL) : ∀ (l : List Nat) (K : List Value → Prop), getsK T l K = K (l.map (get T))
  | [], _ => rfl
  | t :: l, K => by
    show getK T t (fun v => getsK T l fun vs => K (v :: vs)) = K (get T t :: l.map (get T))
    rw [getK_eq, getsK_eq T l]
def packK (T : FrL) (rs : List Nat) (K : Value → Prop) : Prop := match rs with
  | [t] => getK T t K
  | l => getsK T l fun vs => K (.tuple vs.toArray)
theorem packK_eq (T : FrL) (rs : List Nat) (K : Value → Prop) : packK T rs K = K (pack (get T) rs) := by
  unfold packK pack
  split
  · exact getK_eq _ _ _
  · exact getsK_eq _ _ _
def fnK (rs : List Nat) (R : Ending → World → Prop) : Exit → FrL → World → Prop
  | .ret, T, w => packK T rs fun v => R (.returned v) w
  | .normal, T, w => packK T rs fun v => R (.returned v) w
  | _, _, _ => False
/-- the parameters' slots -/
noncomputable def argL (l : List Value) : Nat → FrL := @List.rec Value (fun _ => Nat → FrL) (fun _ => []) (fun v _ ih i => (i, v) :: ih (i + 1)) l
theorem get_argL : ∀ (l : List Value) (i t : Nat), get (argL l i) t = if i ≤ t then l.getD (t - i) undef else undef
  | [], i, t => by simp [argL, get, List.getD]
  | v :: l, i, t => by
    show cond (Nat.beq t i) v (get (argL l (i + 1)) t) = _
    rw [get_argL l (i + 1) t]
    cases hb : Nat.beq t i
    · have hne : t ≠ i := fun e => by subst e; simp [Nat.beq_refl] at hb
      simp only [cond_false]
      by_cases h : i ≤ t
      · rw [if_pos (by omega), if_pos h]
        obtain ⟨k, rfl⟩ : ∃ k, t = i + 1 + k := ⟨t - (i + 1), by omega⟩
        rw [show i + 1 + k - (i + 1) = k from by omega, show i + 1 + k - i = k + 1 from by omega]
        simp [List.getD]
      · rw [if_neg (by omega), if_neg h]
    · obtain rfl := Nat.eq_of_beq_eq_true hb
      simp [List.getD]

theorem res_run {fn : Func} {rs : List Nat} (h : resSlots fn.results.toList = some rs) (hlen : rs.length ≤ 4) (a : Act) (w : World) : (results fn a.tmps).run P w = .ok (pack (fr a) rs) w := by
  have key : ∀ (l : List ResultVar) (rs : List Nat), resSlots l = some rs → l = rs.map ResultVar.tmp := by
    intro l
    induction l with
    | nil => intro rs h; simp only [resSlots, Option.some.injEq] at h; subst h; rfl
    | cons x l ih =>
      intro rs h
      cases x with
      | cell => simp [resSlots] at h
      | tmp t =>
        simp only [resSlots] at h
        split at h
        · rename_i r hr
          simp only [Option.some.injEq] at h
          subst h
          rw [ih r hr]; rfl
        · cases h
  have hl := key _ _ h
  have hr : fn.results = (rs.map ResultVar.tmp).toArray := by apply Array.ext'; rw [hl]
  match rs, hr with
  | [], hr => simp [results, hr, pack]
  | [t], hr => simp [results, hr, pack, fr]
  | [t, u], hr => simp [results, hr, pack, fr]
  | [t, u, v], hr => simp [results, hr, pack, fr]
  | [t, u, v, x], hr => simp [results, hr, pack, fr]
  | t :: u :: v :: x :: y :: l, hr => exact absurd hlen (by simp)

theorem enter {f : FuncId} {fn : Func} {c : Code} {args : List Value} {w : World} {R : Ending → World → Prop} {rs : List Nat} {N : Nat} (ok : EngOk P G) (hf : P.funcs[f]? = some fn) (hb : fn.body = some c) (hr : resSlots fn.results.toList = some rs) (hlen : Nat.ble rs.length 4 = true) (hN : fn.ntmps = N) (hn : Nat.ble args.length N = true) (h : vc P G N c (fnK rs R) (argL args 0) w) : Calls P f args.toArray w R := by
  subst hN
  have hn' : args.length ≤ fn.ntmps := Nat.le_of_ble_eq_true hn
  refine calls_of_wp hf hb ?_
  refine Code.wp_mono (Q := Lft fn.ntmps (fnK rs R)) ?_ (vc_sound ok c _ _ (argL args 0) w rfl (by simp; omega) ?_ h)
  · rintro e a w ⟨h1, h2, T, hT, h3⟩
    cases e <;> first | exact h3.elim | skip
    · have h3 : packK T rs (fun v => R (.returned v) w) := h3
      rw [packK_eq, hT] at h3
      exact ⟨h1, _, res_run hr (Nat.le_of_ble_eq_true hlen) a w, h3⟩
    · have h3 : packK T rs (fun v => R (.returned v) w) := h3
      rw [packK_eq, hT] at h3
      exact ⟨h1, _, res_run hr (Nat.le_of_ble_eq_true hlen) a w, h3⟩
  · funext i
    rw [get_argL]
    simp only [fr, Nat.zero_le, if_true, Nat.sub_zero]
    by_cases hi : i < args.length
    · simp [Array.getD, List.getD, hi]
      intro h; omega
    · simp [Array.getD, List.getD, hi]
      intro h
      rw [Array.getElem_append_right (by simpa using hi)]
      simp
end
section
variable {P : Program} {G : Eng} {w : World}

theorem ar {x : Int} {K : Value → Prop} (h : -9223372036854775808 ≤ x ∧ x ≤ 9223372036854775807) (hk : K (.int .i64 x)) : EAr .i64 x K := by
  refine .mk ?_
  have : IntKind.i64.wrap x = x := IntWalk.i64_in _ h
  rw [this]; exact hk
theorem rem_ {a b : Int} {K : Value → Prop} (h : b ≠ 0) (hk : K (.int .i64 (a.tmod b))) : ERem .i64 a b K := by refine .mk ?_; exact ⟨h, hk⟩
theorem load1 {a : Addr} {v : Value} {K : Value → Prop} (hc : w.cell? a = some v) (h : K v) : ELoad (.pointer (some a)) w K := by refine .mk ?_; exact ⟨a, v, rfl, hc, h⟩
theorem call {f : Nat} {args : Array Value} {K : Value → World → Prop} {R : Ending → World → Prop} (h : Calls P f args w R) (hk : ∀ e w', R e w' → ∃ v, e = .returned v ∧ K v w') : ECall P f args w K := by
  refine .mk ?_; exact h.mono hk
theorem erun_of {s : Sem Value} {v : Value} {w' : World} {K : Value → World → Prop} (h : s.run P w = .ok v w') (hk : K v w') : ERun P s w K := by refine .mk ?_; exact ⟨v, w', h, hk⟩
end
end Go.Proofs.YtnlbhdepagkjgaaDoor.RW
