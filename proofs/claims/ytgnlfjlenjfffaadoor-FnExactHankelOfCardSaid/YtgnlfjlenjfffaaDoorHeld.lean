/-
  Regions that draw their order and change memory: what reads is taken first, what acts comes up alone. One condition S on the worlds, chosen for the region. Conditions: the engine's table holds; the program follows mixed orders; the region's own Bools.
-/
import Derived.Test.YtgnlfjlenjfffaaDoorDraw
import Derived.OrdersHeld
namespace Go.Proofs.YtgnlfjlenjfffaaDoor.RW
open Go
open Go.RowKit (Below)

section
variable {P : Program} {G : Eng} {S : World → Prop}

structure EHLoad (p : Value) (S : World → Prop) (K : Value → Prop) : Prop where
  out : ∃ a v, p = .pointer (some a) ∧ (∀ w, S w → w.cell? a = some v) ∧ K v
structure EHLoadN (sz : Nat) (p : Value) (S : World → Prop) (K : Value → Prop) : Prop where
  out : ∃ (a : Addr) (cs : List Value), p = .pointer (some a) ∧ cs.length = sz ∧ (∀ w, S w → ∀ j u, cs[j]? = some u → w.cell? (a.add j) = some u) ∧ K (.agg cs.toArray)
structure EHAny (P : Program) (S : World → Prop) (s : Sem Value) (K : Value → Prop) : Prop where
  out : ∃ v, (∀ w, S w → s.run P w = .ok v w) ∧ K v
def HeldOp (P : Program) (S : World → Prop) (o : Oper) (a : Act) (next : Act → Prop) : Prop := ∃ v, (∀ w, S w → (execOp a.eval o).run P w = .ok (.value v) w) ∧ next (a.put o.dst v)
theorem hval {o : Oper} {a : Act} {v : Value} {next : Act → Prop} (h : ∀ w', S w' → (execOp a.eval o).run P w' = .ok (.value v) w') (hn : next (a.put o.dst v)) : HeldOp P S o a next := ⟨v, h, hn⟩

/-- the operations that may be taken first: they yield one value in every world that meets S -/
def vhOp (P : Program) (G : Eng) (S : World → Prop) (o : Op) (T : Fr) (K : Value → Prop) : Prop :=
  match o with
  | .move x => K (ev T x)
  | .assign x => K (ev T x)
  | .pick c a b => match ev T c with
    | .bool t => K (cond t (ev T a) (ev T b))
    | _ => False
  | .binOp op t _ _ _ => match o with
    | .binOp _ _ x y _ => match ev T x, ev T y with
      | .int .i64 a', .int .i64 b' => match op with
        | .add => EAr .i64 (a' + b') K
        | .sub => EAr .i64 (a' - b') K
        | .mul => EAr .i64 (a' * b') K
        | .quo => EQuo .i64 a' b' K
        | .rem => ERem .i64 a' b' K
        | .lss => ECmp (a' < b') fun c => K (.bool c)
        | .leq => ECmp (a' ≤ b') fun c => K (.bool c)
        | .gtr => ECmp (b' < a') fun c => K (.bool c)
        | .geq => ECmp (b' ≤ a') fun c => K (.bool c)
        | .eql => ECmp (a' = b') fun c => K (.bool c)
        | .neq => ECmp (a' = b') fun c => cond c (K (.bool false)) (K (.bool true))
        | _ => False
      | .bool a', .bool b' => match op, nthO G.tt t with
        | .eql, some ⟨.bool, _, _, _⟩ => ECmp (a' = b') fun c => K (.bool c)
        | .neq, some ⟨.bool, _, _, _⟩ => ECmp (a' = b') fun c => cond c (K (.bool false)) (K (.bool true))
        | _, _ => False
      | _, _ => False
    | _ => False
  | .unOp op _ x => match op, ev T x with
    | .not, .bool b => K (.bool !b)
    | .neg, .int .i64 n => EAr .i64 (0 - n) K
    | _, _ => False
  | .load t p => match nthO G.tt t with
    | some ⟨k, sz, _, _⟩ => cond (isAggK k) (EHLoadN sz (ev T p) S K) (EHLoad (ev T p) S K)
    | none => False
  | .indexAddr t x i => match nthO G.tt t, ev T x, ev T i with
    | some ⟨.slice e, _, _, _⟩, .slice A n _, .int .i64 j => match nthO G.tt e with
      | some ⟨_, sz, _, _⟩ => EIdx sz A n j K
      | none => False
    | _, _, _ => False
  | .field t x f => match nthO G.tt t, ev T x with
    | some ⟨.struct fs, _, _, _⟩, .agg cs => match fs[f]? with
      | some (ft, off) => match nthO G.tt ft with
        | some ⟨k, sz, _, _⟩ => cond (isAggK k) (K (.agg (cs.extract off (off + sz)))) (match cs.toList[off]? with | some v => K v | none => False)
        | none => False
      | none => False
    | _, _ => False
  | .call ⟨.builtin .len, args, tys⟩ => match args.toList, tys.toList with
    | [x], [t] => match nthO G.tt t, ev T x with
      | some ⟨.slice _, _, _, _⟩, .slice _ n _ => K (.int .i64 n)
      | some ⟨.string, _, _, _⟩, .string s => K (.int .i64 s.size)
      | _, _ => False
    | _, _ => False
  | .extract t i => match ev T t with
    | .tuple vs => match vs.toList[i]? with
      | some v => K v
      | none => False
    | _ => False
  | .fieldAddr t x f => EHAny P S (Instr.fieldAt t (ev T x) f) K
  | .build t parts => EHAny P S (Instr.build t (evp T parts.toList).toArray) K
  | .slice t x lo hi mx => EHAny P S (Instr.sliceAt t (ev T x) (lo.map (ev T)) (hi.map (ev T)) (mx.map (ev T))) K
  | _ => False

theorem vhOp_sound (ok : EngOk P G) {o : Oper} {a : Act} {K : Value → Prop} {next : Act → Prop} (h : vhOp P G S o.op (fr a) K) (hK : ∀ v, K v → next (a.put o.dst v)) :
    HeldOp P S o a next := by
  obtain ⟨dst, op, type, pos, after, guard⟩ := o
  cases op
  case move x => exact hval (v := a.eval x) (fun _ _ => rfl) (hK _ (by rw [ev_fr]; exact h))
  case assign x => exact hval (v := a.eval x) (fun _ _ => rfl) (hK _ (by rw [ev_fr]; exact h))
  case pick c x y =>
    simp only [vhOp] at h
    split at h
    · rename_i t ht
      refine hval (v := cond t (ev (fr a) x) (ev (fr a) y)) (fun w' _ => ?_) (hK _ h)
      simp only [execOp, ev_fr, ht, asBool, Sem.run_bind, Sem.run_pure, Result.andThen_ok]
      cases t <;> rfl
    · exact h.elim
  case binOp op t x y yt =>
    simp only [vhOp] at h
    split at h
    · rename_i a' b' hx hy
      have key : ∀ v, (∀ w' : World, Sem.run P (do eqGuard op t x y (.int .i64 a') (.int .i64 b'); binOp op t (.int .i64 a') (.int .i64 b')) w' = .ok v w') → K v → HeldOp P S ⟨dst, .binOp op t x y yt, type, pos, after, guard⟩ a next :=
        fun v hr hk => hval (v := v) (fun w' _ => by simp only [execOp, ev_fr, hx, hy]; exact vrun (hr w')) (hK _ hk)
      cases op
      case add => have h := h.out; exact key _ (fun w' => by simp [go_sem]) h
      case sub => have h := h.out; exact key _ (fun w' => by simp [go_sem]) h
      case mul => have h := h.out; exact key _ (fun w' => by simp [go_sem]) h
      case quo => have h := h.out; exact key _ (fun w' => by simp [go_sem, h.1]) h.2
      case rem => have h := h.out; exact key _ (fun w' => by simp [go_sem, h.1]) h.2
      case lss => have h := h.out; exact key _ (fun w' => by simp [go_sem] <;> rfl) h
      case leq => have h := h.out; exact key _ (fun w' => by simp [go_sem] <;> rfl) h
      case gtr => have h := h.out; exact key _ (fun w' => by simp [go_sem] <;> rfl) h
      case geq => have h := h.out; exact key _ (fun w' => by simp [go_sem] <;> rfl) h
      case eql => have h := h.out; exact key (.bool (decide (a' = b'))) (fun w' => by simp [go_sem] <;> rfl) h
      case neq => have h := condNot1 h.out; exact key (.bool (!decide (a' = b'))) (fun w' => by simp [go_sem] <;> rfl) h
      all_goals exact h.elim
    · rename_i a' b' hx hy
      split at h
      · rename_i ht
        have hb := und_bool (und_of ok ht)
        exact hval (v := .bool (decide (a' = b'))) (fun w' _ => by
          simp only [execOp, ev_fr, hx, hy]; refine vrun ?_; simp only [eqGuard_at_bool, Sem.run_bind, Sem.run_pure, Result.andThen_ok, eql_bool hb]
          rw [show decide (a' = b') = (a' == b') from by cases a' <;> cases b' <;> rfl]) (hK _ h.out)
      · rename_i ht
        have hb := und_bool (und_of ok ht)
        exact hval (v := .bool (!decide (a' = b'))) (fun w' _ => by
          simp only [execOp, ev_fr, hx, hy]; refine vrun ?_; simp only [eqGuard_at_bool, Sem.run_bind, Sem.run_pure, Result.andThen_ok, neq_bool hb]
          rw [show decide (a' = b') = (a' == b') from by cases a' <;> cases b' <;> rfl]) (hK _ (condNot1 h.out))
      · exact h.elim
    · exact h.elim
  case unOp op t x =>
    simp only [vhOp] at h
    split at h
    · rename_i b hb
      exact hval (fun w' _ => by simp only [execOp, ev_fr, hb]; exact vrun rfl) (hK _ h)
    · rename_i n hb
      have h := h.out
      exact hval (fun w' _ => by simp only [execOp, ev_fr, hb]; exact vrun rfl) (hK _ h)
    · exact h.elim
  case load t p =>
    simp only [vhOp] at h
    split at h
    · rename_i k sz b z ht
      cases hk : isAggK k
      · rw [hk] at h
        simp only [cond_false] at h
        have h := h.out
        obtain ⟨ad, v, hp, hc, hkk⟩ := h
        exact hval (fun w' hw => by simp only [execOp, ev_fr, hp]; exact vrun (loadAt_one ok ht hk ad v _ (hc w' hw))) (hK _ hkk)
      · rw [hk] at h
        simp only [cond_true] at h
        have h := h.out
        obtain ⟨ad, cs, hp, hl, hc, hkk⟩ := h
        exact hval (fun w' hw => by simp only [execOp, ev_fr, hp]; exact vrun (loadAt_agg ok ht hk ad cs _ hl (hc w' hw))) (hK _ hkk)
    · exact h.elim
  case indexAddr t x i =>
    simp only [vhOp] at h
    split at h
    · rename_i e s b z A n c j ht hx hj
      split at h
      · rename_i k' sz b' z' he
        have h := h.out
        obtain ⟨ad, k, rfl, rfl, hkn, hkk⟩ := h
        refine hval (v := .pointer (some (ad.add (k * sz)))) (fun w' _ => ?_) (hK _ hkk)
        simp only [execOp, ev_fr, hx, hj]
        refine vrun ?_
        have hu := und_slice (und_of ok ht)
        have hs := sizeOf_run ok he w'
        have h1 : (0 : Int) ≤ (k : Int) ∧ (k : Int) < n := ⟨by omega, by omega⟩
        simp [Instr.indexAt, run_underlying hu, asIntOf, h1, hs]
        intro hh; omega
      · exact h.elim
    · exact h.elim
  case field t x f =>
    simp only [vhOp] at h
    split at h
    · rename_i fs s b z cs ht hx
      split at h
      · rename_i ft off hf
        split at h
        · rename_i k sz b' z' he
          cases hk : isAggK k
          · rw [hk] at h
            simp only [cond_false] at h
            split at h
            · rename_i v hv
              refine hval (v := v) (fun w' _ => ?_) (hK _ h)
              simp only [execOp, ev_fr, hx]
              have h1 := isAgg_run (und_of ok he) w'
              refine vrun (field_part ok ht hf cs w' ?_)
              have : cs[off]? = some v := by rw [← Array.getElem?_toList]; exact hv
              simp [part, h1, hk, this]
            · exact h.elim
          · rw [hk] at h
            simp only [cond_true] at h
            refine hval (fun w' _ => ?_) (hK _ h)
            simp only [execOp, ev_fr, hx]
            have h1 := isAgg_run (und_of ok he) w'
            have h2 := sizeOf_run ok he w'
            refine vrun (field_part ok ht hf cs w' ?_)
            simp [part, h1, hk, h2]
        · exact h.elim
      · exact h.elim
    · exact h.elim
  case call c =>
    obtain ⟨callee, args, tys⟩ := c
    cases callee
    case invoke => exact h.elim
    case value f => exact h.elim
    case builtin b =>
      cases b
      case len =>
        simp only [vhOp] at h
        split at h
        · rename_i x t hx ht
          have ha : args = #[x] := by apply Array.ext'; rw [hx]
          have hty : tys = #[t] := by apply Array.ext'; rw [ht]
          subst ha; subst hty
          split at h
          · rename_i e s b z A n c htt hv
            refine hval (v := .int .i64 n) (fun w' _ => ?_) (hK _ h)
            have hu := und_slice (und_of ok htt)
            simp [execOp, resolve, ev_fr, hv, invoke, builtin, Builtin.len_, run_underlying hu, goInt]
          · rename_i s b z st htt hv
            refine hval (v := .int .i64 st.size) (fun w' _ => ?_) (hK _ h)
            have hu := und_string (und_of ok htt)
            simp [execOp, resolve, ev_fr, hv, invoke, builtin, Builtin.len_, run_underlying hu, goInt]
          · exact h.elim
        · exact h.elim
      all_goals exact h.elim
  case extract t i =>
    simp only [vhOp] at h
    split at h
    · rename_i vs hv
      split at h
      · rename_i v hi
        refine hval (v := v) (fun w' _ => ?_) (hK _ h)
        simp only [execOp, ev_fr, hv]
        have : vs[i]? = some v := by rw [← Array.getElem?_toList]; exact hi
        refine vrun ?_
        simp [Instr.extract, this]
      · exact h.elim
    · exact h.elim
  case fieldAddr t x f =>
    obtain ⟨v, hr, hk⟩ := h.out
    exact hval (fun w' hw => by simp only [execOp, ev_fr]; exact vrun (hr w' hw)) (hK _ hk)
  case build t parts =>
    obtain ⟨v, hr, hk⟩ := h.out
    exact hval (fun w' hw => by simp only [execOp, map_evp]; exact vrun (hr w' hw)) (hK _ hk)
  case slice t x lo hi mx =>
    obtain ⟨v, hr, hk⟩ := h.out
    exact hval (fun w' hw => by
      have e : ∀ o : Option Operand, o.map a.eval = o.map (ev (fr a)) := fun o => by cases o <;> simp [ev_fr]
      simp only [execOp, ev_fr, e]; exact vrun (hr w' hw)) (hK _ hk)
  all_goals exact h.elim

def vhOpL (P : Program) (G : Eng) (S : World → Prop) (o : Op) (T : FrL) (K : Value → Prop) : Prop :=
  match o with
  | .move x => evK T x K
  | .assign x => evK T x K
  | .pick c a b => evK T c fun v => bK v (evK T a K) (evK T b K) False
  | .binOp op t x y _ => evK T x fun a => evK T y fun b => match a, b with
      | .int .i64 a', .int .i64 b' => match op with
        | .add => EAr .i64 (a' + b') K
        | .sub => EAr .i64 (a' - b') K
        | .mul => EAr .i64 (a' * b') K
        | .quo => EQuo .i64 a' b' K
        | .rem => ERem .i64 a' b' K
        | .lss => ECmp (a' < b') fun c => K (.bool c)
        | .leq => ECmp (a' ≤ b') fun c => K (.bool c)
        | .gtr => ECmp (b' < a') fun c => K (.bool c)
        | .geq => ECmp (b' ≤ a') fun c => K (.bool c)
        | .eql => ECmp (a' = b') fun c => K (.bool c)
        | .neq => ECmp (a' = b') fun c => cond c (K (.bool false)) (K (.bool true))
        | _ => False
      | .bool a', .bool b' => match op, nthO G.tt t with
        | .eql, some ⟨.bool, _, _, _⟩ => ECmp (a' = b') fun c => K (.bool c)
        | .neq, some ⟨.bool, _, _, _⟩ => ECmp (a' = b') fun c => cond c (K (.bool false)) (K (.bool true))
        | _, _ => False
      | _, _ => False
  | .unOp op _ x => evK T x fun v => match op, v with
    | .not, .bool b => cond b (K (.bool false)) (K (.bool true))
    | .neg, .int .i64 n => EAr .i64 (0 - n) K
    | _, _ => False
  | .load t p => evK T p fun p => match nthO G.tt t with
    | some ⟨k, sz, _, _⟩ => cond (isAggK k) (EHLoadN sz p S K) (EHLoad p S K)
    | none => False
  | .indexAddr t x i => evK T x fun x => evK T i fun i => match nthO G.tt t, x, i with
    | some ⟨.slice e, _, _, _⟩, .slice A n _, .int .i64 j => match nthO G.tt e with
      | some ⟨_, sz, _, _⟩ => EIdx sz A n j K
      | none => False
    | _, _, _ => False
  | .field t x f => evK T x fun x => match nthO G.tt t, x with
    | some ⟨.struct fs, _, _, _⟩, .agg cs => match fs[f]? with
      | some (ft, off) => match nthO G.tt ft with
        | some ⟨k, sz, _, _⟩ => cond (isAggK k) (K (.agg (cs.extract off (off + sz)))) (match cs.toList[off]? with | some v => K v | none => False)
        | none => False
      | none => False
    | _, _ => False
  | .call ⟨.builtin .len, args, tys⟩ => match args.toList, tys.toList with
    | [x], [t] => evK T x fun v => match nthO G.tt t, v with
      | some ⟨.slice _, _, _, _⟩, .slice _ n _ => K (.int .i64 n)
      | some ⟨.string, _, _, _⟩, .string s => K (.int .i64 s.size)
      | _, _ => False
    | _, _ => False
  | .extract t i => evK T t fun v => match v with
    | .tuple vs => match vs.toList[i]? with
      | some v => K v
      | none => False
    | _ => False
  | .fieldAddr t x f => evK T x fun x => EHAny P S (Instr.fieldAt t x f) K
  | .build t parts => evpK T parts.toList fun l => EHAny P S (Instr.build t l.toArray) K
  | .slice t x lo hi mx => evK T x fun x => evoK T lo fun lo => evoK T hi fun hi => evoK T mx fun mx => EHAny P S (Instr.sliceAt t x lo hi mx) K
  | _ => False

theorem vhOpL_imp {o : Op} {T : FrL} {K : Value → Prop} (h : vhOpL P G S o T K) : vhOp P G S o (get T) K := by
  cases o
  case pick c a b =>
    simp only [vhOpL, vhOp, evK_eq] at h ⊢
    unfold bK at h
    split at h
    · rename_i t ht
      rw [ht]
      cases t <;> exact h
    · exact h.elim
  case unOp op t x =>
    simp only [vhOpL, vhOp, evK_eq] at h ⊢
    split at h
    · rename_i b hb
      cases b <;> exact h
    · exact h
    · exact h.elim
  case call c =>
    obtain ⟨callee, args, tys⟩ := c
    cases callee
    case invoke => exact h.elim
    case value f => exact h.elim
    case builtin b =>
      cases b
      case len =>
        simp only [vhOpL, vhOp, evK_eq] at h ⊢
        split at h
        · exact h
        · exact h.elim
      all_goals exact h.elim
  all_goals first
    | exact h.elim
    | (simp only [vhOpL, vhOp, evK_eq, evpK_eq, evoK_eq] at h ⊢; exact h)


/-- the order of the walk: (does it act?, its number) -/
def ordOk (ops : Array Oper) : List (Bool × Nat) → Array Bool → Bool
  | [], listed => (Region.ready .any ops listed).isEmpty
  | (true, i) :: l, listed => (Region.ready .any ops listed == [i]) && ordOk ops l (listed.setIfInBounds i true)
  | (false, i) :: l, listed => Region.free .any ops listed i && (Region.ready .any ops listed).contains i && ordOk ops l (listed.setIfInBounds i true)
structure EHold (S : World → Prop) (w : World) (K : Prop) : Prop where
  out : S w ∧ K
theorem hold {w : World} {K : Prop} (h : S w) (k : K) : EHold S w K := by refine .mk ?_; exact ⟨h, k⟩
def vhStep (P : Program) (G : Eng) (S : World → Prop) (N : Nat) (all : List Oper) (acts : Bool) (o : Oper) (ih : FrL → World → Prop) (T : FrL) (w : World) : Prop :=
  match o.dst with
  | some d => cond (Nat.blt d N) (wantK all T N o
      (cond acts (vcOpL P G o.op o.type T w fun v w' => EHold S w' (ih ((d, v) :: T) w')) (vhOpL P G S o.op T fun v => ih ((d, v) :: T) w))
      (ih ((d, undef) :: T) w)) False
  | none => wantK all T N o
      (cond acts (vcOpL P G o.op o.type T w fun _ w' => EHold S w' (ih T w')) (vhOpL P G S o.op T fun _ => ih T w))
      (ih T w)
noncomputable def opAt (l : List Oper) : Nat → Option Oper := @List.rec Oper (fun _ => Nat → Option Oper) (fun _ => none) (fun o _ ih i => @Nat.rec (fun _ => Option Oper) (some o) (fun k _ => ih k) i) l
theorem opAt_eq : ∀ (l : List Oper) (i : Nat), opAt l i = l[i]?
  | [], _ => rfl
  | o :: l, 0 => rfl
  | o :: l, i + 1 => by
    show opAt l i = _
    rw [opAt_eq l i]; rfl
def vhOrd (P : Program) (G : Eng) (S : World → Prop) (N : Nat) (all : List Oper) (Q : FrL → World → Prop) (ord : List (Bool × Nat)) : FrL → World → Prop :=
  @List.rec (Bool × Nat) (fun _ => FrL → World → Prop) Q (fun p _ ih T w => Prod.rec (fun acts i => match opAt all i with
    | some o => vhStep P G S N all acts o ih T w
    | none => False) p) ord

theorem vhOrd_sound (ok : EngOk P G) {N : Nat} {ops : Array Oper} {Q : FrL → World → Prop} (hsel : Region.noSelect ops = true) : ∀ (ord : List (Bool × Nat)) (fuel : Nat) (listed : Array Bool) (a : Act) (T : FrL) (w : World),
    a.tmps.size = N → a.defers = [] → get T = fr a → S w → ordOk ops ord listed = true → ord.length ≤ fuel → vhOrd P G S N ops.toList Q ord T w →
    wpAnyH P .any ops (fun e a w => e = .normal ∧ a.defers = [] ∧ a.tmps.size = N ∧ ∃ T, get T = fr a ∧ Q T w) S fuel listed a w
  | [], fuel, listed, a, T, w, hN, hd, hT, hS, ho, hf, h => by
    have ho : (Region.ready .any ops listed).isEmpty = true := ho
    exact wpAnyH_done (List.isEmpty_iff.1 ho) ⟨rfl, hd, hN, T, hT, h⟩ fuel
  | (acts, i) :: rest, 0, listed, a, T, w, hN, hd, hT, hS, ho, hf, h => by simp at hf
  | (acts, i) :: rest, fuel + 1, listed, a, T, w, hN, hd, hT, hS, ho, hf, h => by
    have h : (match opAt ops.toList i with
      | some o => vhStep P G S N ops.toList acts o (vhOrd P G S N ops.toList Q rest) T w
      | none => False) := h
    rw [opAt_eq] at h
    have hf' : rest.length ≤ fuel := by simpa using hf
    split at h
    · rename_i o hio
      have hi : ops[i]? = some o := by rw [← Array.getElem?_toList]; exact hio
      unfold vhStep at h
      have hput : ∀ v, (∀ d, o.dst = some d → Nat.blt d N = true) → get (match o.dst with | some d => (d, v) :: T | none => T) = fr (a.put o.dst v) := fun v hb => by
        rw [fr_put, ← hT, hN]
        cases hdst : o.dst with
        | none => rfl
        | some d => rw [get_cons]; simp only [put, hb d hdst, cond_true]
      have hb : ∀ d, o.dst = some d → Nat.blt d N = true := fun d hdd => by
        rw [hdd] at h
        simp only at h
        cases hlt : Nat.blt d N
        · rw [hlt] at h; exact h.elim
        · rfl
      have h : wantK ops.toList T N o
          (cond acts (vcOpL P G o.op o.type T w fun v w' => EHold S w' (vhOrd P G S N ops.toList Q rest (match o.dst with | some d => (d, v) :: T | none => T) w')) (vhOpL P G S o.op T fun v => vhOrd P G S N ops.toList Q rest (match o.dst with | some d => (d, v) :: T | none => T) w))
          (vhOrd P G S N ops.toList Q rest (match o.dst with | some d => (d, undef) :: T | none => T) w) := by
        cases hdst : o.dst with
        | none => rw [hdst] at h; exact h
        | some d => rw [hdst] at h; simp only [hb d hdst, cond_true] at h; exact h
      rw [← hN] at h
      cases acts
      · have ho : (Region.free .any ops listed i && (Region.ready .any ops listed).contains i && ordOk ops rest (listed.setIfInBounds i true)) = true := ho
        simp only [Bool.and_eq_true] at ho
        rcases want_sound hT h with ⟨hw, h⟩ | ⟨hw, h⟩
        · obtain ⟨v, h1, h2⟩ := vhOp_sound ok (next := fun a' => ∃ T', get T' = fr a' ∧ a'.tmps.size = N ∧ a'.defers = [] ∧ vhOrd P G S N ops.toList Q rest T' w) (hT ▸ vhOpL_imp h) (fun v hk => ⟨_, hput v hb, by rw [size_put, hN], by rw [defers_put, hd], hN ▸ hk⟩)
          obtain ⟨T', k1, k2, k3, k4⟩ := h2
          refine wpAnyH_take hi hsel ho.1.1 ho.1.2 (fun c a w hq => by cases hq.1) (.inl ⟨by simpa using hw, h1⟩) hS ?_
          exact vhOrd_sound ok hsel rest fuel _ _ T' w k2 k3 k1 hS ho.2 hf' k4
        · refine wpAnyH_take (v := undef) hi hsel ho.1.1 ho.1.2 (fun c a w hq => by cases hq.1) (.inr ⟨by simpa using hw, rfl⟩) hS ?_
          rw [hN] at h
          exact vhOrd_sound ok hsel rest fuel _ _ _ w (by rw [size_put, hN]) (by rw [defers_put, hd]) (hput _ hb) hS ho.2 hf' h
      · have ho : ((Region.ready .any ops listed == [i]) && ordOk ops rest (listed.setIfInBounds i true)) = true := ho
        simp only [Bool.and_eq_true, beq_iff_eq] at ho
        refine wpAnyH_all ho.1 (by simp) (fun k hk => ?_)
        rw [show k = i by simpa using hk]
        unfold wpOp
        simp only [hi]
        rcases want_sound hT h with ⟨hw, h⟩ | ⟨hw, h⟩
        · have hw : Region.wanted o (yielded ops a.tmps) = true := by simpa using hw
          simp only [hw, if_true]
          rw [cond_true] at h
          refine .inl (vcOp_sound ok (hT ▸ vcOpL_imp h) fun v w' hk => ?_)
          obtain ⟨k1, k2⟩ := hk.out
          rw [hN] at k2
          exact ⟨k1, vhOrd_sound ok hsel rest fuel _ _ _ w' (by rw [size_put, hN]) (by rw [defers_put, hd]) (hput v hb) k1 ho.2 hf' k2⟩
        · have hw : Region.wanted o (yielded ops a.tmps) = false := by simpa using hw
          simp only [hw, Bool.false_eq_true, if_false]
          rw [hN] at h
          exact ⟨hS, vhOrd_sound ok hsel rest fuel _ _ _ w (by rw [size_put, hN]) (by rw [defers_put, hd]) (hput _ hb) hS ho.2 hf' h⟩
    · exact h.elim

/-- A REGION THAT DRAWS ITS ORDER, what reads taken first under S. -/
theorem held {N id : Nat} {ops : Array Oper} {Q : Exit → FrL → World → Prop} {T : FrL} {w : World} (S : World → Prop) (ord : List (Bool × Nat)) (hm : P.follows .mixedOrders = true)
    (hB : (Region.noSelect ops && Nat.ble ord.length ops.size && ordOk ops ord (Array.replicate ops.size false)) = true) (hS : S (w.drewN 1))
    (h : vhOrd P G S N ops.toList (Q .normal) ord T (w.drewN 1)) : EDraw P G N id ops Q T w := by
  simp only [Bool.and_eq_true] at hB
  refine ⟨fun ok => ⟨fun a hd hN hfr => ?_⟩⟩
  refine Code.wp_mono (Q := fun e a w => e = .normal ∧ a.defers = [] ∧ a.tmps.size = N ∧ ∃ T, get T = fr a ∧ Q .normal T w) ?_ (wp_region_held (S := S) hm ?_)
  · rintro e a w ⟨rfl, h1, h2, T, h3, h4⟩
    exact ⟨h1, h2, T, h3, h4⟩
  · exact vhOrd_sound ok hB.1.1 ord _ _ a T _ hN hd hfr hS hB.2 (Nat.le_of_ble_eq_true hB.1.2) h
end
section
variable {P : Program} {S : World → Prop} {w : World}
theorem loadH {a : Addr} {v : Value} {K : Value → Prop} (hc : ∀ w, S w → w.cell? a = some v) (h : K v) : EHLoad (.pointer (some a)) S K := by refine .mk ?_; exact ⟨a, v, rfl, hc, h⟩
theorem loadHN {sz : Nat} {a : Addr} {K : Value → Prop} (cs : List Value) (hl : cs.length = sz) (hc : ∀ w, S w → ∀ j u, cs[j]? = some u → w.cell? (a.add j) = some u) (h : K (.agg cs.toArray)) : EHLoadN sz (.pointer (some a)) S K := by refine .mk ?_; exact ⟨a, cs, rfl, hl, hc, h⟩
/-- a rule for the world at hand serves in every world that meets S, where its value names no world -/
theorem anyH {s : Sem Value} {v : Value} {K : Value → Prop} (hr : ∀ w, ERun P s w fun u w' => u = v ∧ w' = w) (hk : K v) : EHAny P S s K := by
  refine .mk ?_
  refine ⟨v, fun w _ => ?_, hk⟩
  obtain ⟨u, w', h1, rfl, rfl⟩ := (hr w).out
  exact h1
/-- what was there before stands in every world that differs elsewhere -/
theorem cellU {f : List Nat} {a : Addr} {v : Value} (h : w.cell? a = some v) (hf : a.block ∉ f) : ∀ w', Upd f w w' → w'.cell? a = some v := fun w' hu => by
  rw [cell_keep (hu.block _ (cell_some_lt h) hf)]; exact h
end
end Go.Proofs.YtgnlfjlenjfffaaDoor.RW
