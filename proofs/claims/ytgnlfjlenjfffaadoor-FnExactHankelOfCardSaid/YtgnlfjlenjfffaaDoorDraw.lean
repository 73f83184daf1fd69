/-
  Regions that draw their order and only read: one walk in the order of the text serves every order. Conditions: the engine's table holds; the program follows mixed orders; the region's own Bool.
-/
import Derived.Test.YtgnlfjlenjfffaaDoorOps3
import Derived.Deep.Quiet
namespace Go.Proofs.YtgnlfjlenjfffaaDoor.RW
open Go
open Go.RowKit (Below)

section
variable {P : Program} {G : Eng} {w : World}


/-- what a quiet call owes: one value, whatever draws came before -/
structure ECallQ (P : Program) (f : Nat) (args : Array Value) (w : World) (K : Value → Prop) : Prop where
  out : ∃ v, (∀ n, Calls P f args (w.drewN n) fun e w' => e = .returned v ∧ ∃ m, w' = w.drewN m) ∧ K v


/-- the reading operations, and the tests and sums on numbers -/
def vqOp (P : Program) (G : Eng) (o : Op) (T : Fr) (w : World) (K : Value → Prop) : Prop :=
  match o with
  | .move x => K (ev T x)
  | .assign x => K (ev T x)
  | .pick c a b => match ev T c with
    | .bool t => K (cond t (ev T a) (ev T b))
    | _ => False
  | .binOp op t _ _ _ => match o with
    | .binOp _ _ x y _ => match ev T x, ev T y with
      | .int .i64 a', .int .i64 b' => match op with
        | .add => EAr .i64 (a' + b') K
        | .sub => EAr .i64 (a' - b') K
        | .mul => EAr .i64 (a' * b') K
        | .quo => EQuo .i64 a' b' K
        | .rem => ERem .i64 a' b' K
        | .lss => ECmp (a' < b') fun c => K (.bool c)
        | .leq => ECmp (a' ≤ b') fun c => K (.bool c)
        | .gtr => ECmp (b' < a') fun c => K (.bool c)
        | .geq => ECmp (b' ≤ a') fun c => K (.bool c)
        | .eql => ECmp (a' = b') fun c => K (.bool c)
        | .neq => ECmp (a' = b') fun c => cond c (K (.bool false)) (K (.bool true))
        | _ => False
      | .bool a', .bool b' => match op, nthO G.tt t with
        | .eql, some ⟨.bool, _, _, _⟩ => ECmp (a' = b') fun c => K (.bool c)
        | .neq, some ⟨.bool, _, _, _⟩ => ECmp (a' = b') fun c => cond c (K (.bool false)) (K (.bool true))
        | _, _ => False
      | _, _ => False
    | _ => False
  | .unOp op _ x => match op, ev T x with
    | .not, .bool b => K (.bool !b)
    | .neg, .int .i64 n => EAr .i64 (0 - n) K
    | _, _ => False
  | .load t p => match nthO G.tt t with
    | some ⟨k, sz, _, _⟩ => cond (isAggK k) (ELoadN sz (ev T p) w K) (ELoad (ev T p) w K)
    | none => False
  | .indexAddr t x i => match nthO G.tt t, ev T x, ev T i with
    | some ⟨.slice e, _, _, _⟩, .slice A n _, .int .i64 j => match nthO G.tt e with
      | some ⟨_, sz, _, _⟩ => EIdx sz A n j K
      | none => False
    | _, _, _ => False
  | .field t x f => match nthO G.tt t, ev T x with
    | some ⟨.struct fs, _, _, _⟩, .agg cs => match fs[f]? with
      | some (ft, off) => match nthO G.tt ft with
        | some ⟨k, sz, _, _⟩ => cond (isAggK k) (K (.agg (cs.extract off (off + sz)))) (match cs.toList[off]? with | some v => K v | none => False)
        | none => False
      | none => False
    | _, _ => False
  | .call ⟨.builtin .len, args, tys⟩ => match args.toList, tys.toList with
    | [x], [t] => match nthO G.tt t, ev T x with
      | some ⟨.slice _, _, _, _⟩, .slice _ n _ => K (.int .i64 n)
      | some ⟨.string, _, _, _⟩, .string s => K (.int .i64 s.size)
      | _, _ => False
    | _, _ => False
  | .call ⟨.value f, args, _⟩ => match ev T f with
    | .func (.func g) first cap => cond (G.can g) (ECallQ P g ((first ++ (evs T args.toList).toArray) ++ cap) w K) False
    | _ => False
  | _ => False

theorem drewN_heap (w : World) (n : Nat) : (w.drewN n).heap = w.heap := rfl
theorem drewN_cell (w : World) (n : Nat) (a : Addr) : (w.drewN n).cell? a = w.cell? a := rfl

theorem qval {C : World → Prop} {o : Oper} {a : Act} {v : Value} {next : Act → Prop} (h : ∀ w', C w' → (execOp a.eval o).run P w' = .ok (.value v) w') (hn : next (a.put o.dst v)) : o.quiet P a C next :=
  ⟨v, fun w' hw => by unfold Oper.quietAt; rw [h w' hw]; exact ⟨rfl, rfl⟩, hn⟩

theorem condNot1 {c : Bool} {K : Value → Prop} (h : cond c (K (.bool false)) (K (.bool true))) : K (.bool !c) := by cases c <;> exact h

theorem vqOp_sound (ok : EngOk P G) {o : Oper} {a : Act} {K : Value → Prop} {next : Act → Prop} (h : vqOp P G o.op (fr a) w K) (hK : ∀ v, K v → next (a.put o.dst v)) :
    o.quiet P a (fun w' => ∃ n, w' = w.drewN n) next := by
  obtain ⟨dst, op, type, pos, after, guard⟩ := o
  cases op
  case move x => exact qval (v := a.eval x) (fun _ _ => rfl) (hK _ (by rw [ev_fr]; exact h))
  case assign x => exact qval (v := a.eval x) (fun _ _ => rfl) (hK _ (by rw [ev_fr]; exact h))
  case pick c x y =>
    simp only [vqOp] at h
    split at h
    · rename_i t ht
      refine qval (v := cond t (ev (fr a) x) (ev (fr a) y)) (fun w' _ => ?_) (hK _ h)
      simp only [execOp, ev_fr, ht, asBool, Sem.run_bind, Sem.run_pure, Result.andThen_ok]
      cases t <;> rfl
    · exact h.elim
  case binOp op t x y yt =>
    simp only [vqOp] at h
    split at h
    · rename_i a' b' hx hy
      have key : ∀ v, (∀ w' : World, Sem.run P (do eqGuard op t x y (.int .i64 a') (.int .i64 b'); binOp op t (.int .i64 a') (.int .i64 b')) w' = .ok v w') → K v → Oper.quiet P ⟨dst, .binOp op t x y yt, type, pos, after, guard⟩ a (fun w' => ∃ n, w' = w.drewN n) next :=
        fun v hr hk => qval (v := v) (fun w' _ => by simp only [execOp, ev_fr, hx, hy]; exact vrun (hr w')) (hK _ hk)
      cases op
      case add => have h := h.out; exact key _ (fun w' => by simp [go_sem]) h
      case sub => have h := h.out; exact key _ (fun w' => by simp [go_sem]) h
      case mul => have h := h.out; exact key _ (fun w' => by simp [go_sem]) h
      case quo => have h := h.out; exact key _ (fun w' => by simp [go_sem, h.1]) h.2
      case rem => have h := h.out; exact key _ (fun w' => by simp [go_sem, h.1]) h.2
      case lss => have h := h.out; exact key _ (fun w' => by simp [go_sem] <;> rfl) h
      case leq => have h := h.out; exact key _ (fun w' => by simp [go_sem] <;> rfl) h
      case gtr => have h := h.out; exact key _ (fun w' => by simp [go_sem] <;> rfl) h
      case geq => have h := h.out; exact key _ (fun w' => by simp [go_sem] <;> rfl) h
      case eql => have h := h.out; exact key (.bool (decide (a' = b'))) (fun w' => by simp [go_sem] <;> rfl) h
      case neq => have h := condNot1 h.out; exact key (.bool (!decide (a' = b'))) (fun w' => by simp [go_sem] <;> rfl) h
      all_goals exact h.elim
    · rename_i a' b' hx hy
      split at h
      · rename_i ht
        have hb := und_bool (und_of ok ht)
        exact qval (v := .bool (decide (a' = b'))) (fun w' _ => by
          simp only [execOp, ev_fr, hx, hy]; refine vrun ?_; simp only [eqGuard_at_bool, Sem.run_bind, Sem.run_pure, Result.andThen_ok, eql_bool hb]
          rw [show decide (a' = b') = (a' == b') from by cases a' <;> cases b' <;> rfl]) (hK _ h.out)
      · rename_i ht
        have hb := und_bool (und_of ok ht)
        exact qval (v := .bool (!decide (a' = b'))) (fun w' _ => by
          simp only [execOp, ev_fr, hx, hy]; refine vrun ?_; simp only [eqGuard_at_bool, Sem.run_bind, Sem.run_pure, Result.andThen_ok, neq_bool hb]
          rw [show decide (a' = b') = (a' == b') from by cases a' <;> cases b' <;> rfl]) (hK _ (condNot1 h.out))
      · exact h.elim
    · exact h.elim
  case unOp op t x =>
    simp only [vqOp] at h
    split at h
    · rename_i b hb
      exact qval (fun w' _ => by simp only [execOp, ev_fr, hb]; exact vrun rfl) (hK _ h)
    · rename_i n hb
      have h := h.out
      exact qval (fun w' _ => by simp only [execOp, ev_fr, hb]; exact vrun rfl) (hK _ h)
    · exact h.elim
  case load t p =>
    simp only [vqOp] at h
    split at h
    · rename_i k sz b z ht
      cases hk : isAggK k
      · rw [hk] at h
        simp only [cond_false] at h
        have h := h.out
        obtain ⟨ad, v, hp, hc, hkk⟩ := h
        exact qval (fun w' ⟨n, hw⟩ => by subst hw; simp only [execOp, ev_fr, hp]; exact vrun (loadAt_one ok ht hk ad v _ hc)) (hK _ hkk)
      · rw [hk] at h
        simp only [cond_true] at h
        have h := h.out
        obtain ⟨ad, cs, hp, hl, hc, hkk⟩ := h
        exact qval (fun w' ⟨n, hw⟩ => by subst hw; simp only [execOp, ev_fr, hp]; exact vrun (loadAt_agg ok ht hk ad cs _ hl hc)) (hK _ hkk)
    · exact h.elim
  case indexAddr t x i =>
    simp only [vqOp] at h
    split at h
    · rename_i e s b z A n c j ht hx hj
      split at h
      · rename_i k' sz b' z' he
        have h := h.out
        obtain ⟨ad, k, rfl, rfl, hkn, hkk⟩ := h
        refine qval (v := .pointer (some (ad.add (k * sz)))) (fun w' _ => ?_) (hK _ hkk)
        simp only [execOp, ev_fr, hx, hj]
        refine vrun ?_
        have hu := und_slice (und_of ok ht)
        have hs := sizeOf_run ok he w'
        have h1 : (0 : Int) ≤ (k : Int) ∧ (k : Int) < n := ⟨by omega, by omega⟩
        simp [Instr.indexAt, run_underlying hu, asIntOf, h1, hs]
        intro hh; omega
      · exact h.elim
    · exact h.elim
  case field t x f =>
    simp only [vqOp] at h
    split at h
    · rename_i fs s b z cs ht hx
      split at h
      · rename_i ft off hf
        split at h
        · rename_i k sz b' z' he
          cases hk : isAggK k
          · rw [hk] at h
            simp only [cond_false] at h
            split at h
            · rename_i v hv
              refine qval (v := v) (fun w' _ => ?_) (hK _ h)
              simp only [execOp, ev_fr, hx]
              have h1 := isAgg_run (und_of ok he) w'
              refine vrun (field_part ok ht hf cs w' ?_)
              have : cs[off]? = some v := by rw [← Array.getElem?_toList]; exact hv
              simp [part, h1, hk, this]
            · exact h.elim
          · rw [hk] at h
            simp only [cond_true] at h
            refine qval (fun w' _ => ?_) (hK _ h)
            simp only [execOp, ev_fr, hx]
            have h1 := isAgg_run (und_of ok he) w'
            have h2 := sizeOf_run ok he w'
            refine vrun (field_part ok ht hf cs w' ?_)
            simp [part, h1, hk, h2]
        · exact h.elim
      · exact h.elim
    · exact h.elim
  case call c =>
    obtain ⟨callee, args, tys⟩ := c
    cases callee
    case invoke => exact h.elim
    case value f =>
      simp only [vqOp] at h
      split at h
      · rename_i g first cap hf
        cases hg : G.can g
        · rw [hg] at h; exact h.elim
        · rw [hg] at h
          simp only [cond_true] at h
          have h := h.out
          obtain ⟨v, hc, hk⟩ := h
          refine ⟨v, fun w' ⟨n, hw⟩ => ?_, hK _ hk⟩
          subst hw
          unfold Oper.quietAt
          have : (execOp a.eval ⟨dst, .call ⟨.value f, args, tys⟩, type, pos, after, guard⟩).run P (w.drewN n) = .ok (.enter g (first ++ (evs (fr a) args.toList).toArray ++ cap)) (w.drewN n) := by
            simp only [execOp, resolve, ev_fr, hf, Deferred.ofValue, map_evs, Sem.run_bind, Sem.run_pure, Result.andThen_ok, invoke]
            exact call_run ok hg _ _
          rw [this]
          exact ⟨rfl, hc n⟩
      · exact h.elim
    case builtin b =>
      cases b
      case len =>
        simp only [vqOp] at h
        split at h
        · rename_i x t hx ht
          have ha : args = #[x] := by apply Array.ext'; rw [hx]
          have hty : tys = #[t] := by apply Array.ext'; rw [ht]
          subst ha; subst hty
          split at h
          · rename_i e s b z A n c htt hv
            refine qval (v := .int .i64 n) (fun w' _ => ?_) (hK _ h)
            have hu := und_slice (und_of ok htt)
            simp [execOp, resolve, ev_fr, hv, invoke, builtin, Builtin.len_, run_underlying hu, goInt]
          · rename_i s b z st htt hv
            refine qval (v := .int .i64 st.size) (fun w' _ => ?_) (hK _ h)
            have hu := und_string (und_of ok htt)
            simp [execOp, resolve, ev_fr, hv, invoke, builtin, Builtin.len_, run_underlying hu, goInt]
          · exact h.elim
        · exact h.elim
      all_goals exact h.elim
  all_goals exact h.elim

def vqOpL (P : Program) (G : Eng) (o : Op) (T : FrL) (w : World) (K : Value → Prop) : Prop :=
  match o with
  | .move x => evK T x K
  | .assign x => evK T x K
  | .pick c a b => evK T c fun v => bK v (evK T a K) (evK T b K) False
  | .binOp op t x y _ => evK T x fun a => evK T y fun b => match a, b with
      | .int .i64 a', .int .i64 b' => match op with
        | .add => EAr .i64 (a' + b') K
        | .sub => EAr .i64 (a' - b') K
        | .mul => EAr .i64 (a' * b') K
        | .quo => EQuo .i64 a' b' K
        | .rem => ERem .i64 a' b' K
        | .lss => ECmp (a' < b') fun c => K (.bool c)
        | .leq => ECmp (a' ≤ b') fun c => K (.bool c)
        | .gtr => ECmp (b' < a') fun c => K (.bool c)
        | .geq => ECmp (b' ≤ a') fun c => K (.bool c)
        | .eql => ECmp (a' = b') fun c => K (.bool c)
        | .neq => ECmp (a' = b') fun c => cond c (K (.bool false)) (K (.bool true))
        | _ => False
      | .bool a', .bool b' => match op, nthO G.tt t with
        | .eql, some ⟨.bool, _, _, _⟩ => ECmp (a' = b') fun c => K (.bool c)
        | .neq, some ⟨.bool, _, _, _⟩ => ECmp (a' = b') fun c => cond c (K (.bool false)) (K (.bool true))
        | _, _ => False
      | _, _ => False
  | .unOp op _ x => evK T x fun v => match op, v with
    | .not, .bool b => cond b (K (.bool false)) (K (.bool true))
    | .neg, .int .i64 n => EAr .i64 (0 - n) K
    | _, _ => False
  | .load t p => evK T p fun p => match nthO G.tt t with
    | some ⟨k, sz, _, _⟩ => cond (isAggK k) (ELoadN sz p w K) (ELoad p w K)
    | none => False
  | .indexAddr t x i => evK T x fun x => evK T i fun i => match nthO G.tt t, x, i with
    | some ⟨.slice e, _, _, _⟩, .slice A n _, .int .i64 j => match nthO G.tt e with
      | some ⟨_, sz, _, _⟩ => EIdx sz A n j K
      | none => False
    | _, _, _ => False
  | .field t x f => evK T x fun x => match nthO G.tt t, x with
    | some ⟨.struct fs, _, _, _⟩, .agg cs => match fs[f]? with
      | some (ft, off) => match nthO G.tt ft with
        | some ⟨k, sz, _, _⟩ => cond (isAggK k) (K (.agg (cs.extract off (off + sz)))) (match cs.toList[off]? with | some v => K v | none => False)
        | none => False
      | none => False
    | _, _ => False
  | .call ⟨.builtin .len, args, tys⟩ => match args.toList, tys.toList with
    | [x], [t] => evK T x fun v => match nthO G.tt t, v with
      | some ⟨.slice _, _, _, _⟩, .slice _ n _ => K (.int .i64 n)
      | some ⟨.string, _, _, _⟩, .string s => K (.int .i64 s.size)
      | _, _ => False
    | _, _ => False
  | .call ⟨.value f, args, _⟩ => evK T f fun f => evsK T args.toList fun l => match f with
    | .func (.func g) first cap => cond (G.can g) (match first.toList, cap.toList with
      | [], [] => ECallQ P g l.toArray w K
      | l1, l2 => ECallQ P g (l1 ++ l ++ l2).toArray w K) False
    | _ => False
  | _ => False

theorem vqOpL_imp {o : Op} {T : FrL} {K : Value → Prop} (h : vqOpL P G o T w K) : vqOp P G o (get T) w K := by
  cases o
  case pick c a b =>
    simp only [vqOpL, vqOp, evK_eq] at h ⊢
    unfold bK at h
    split at h
    · rename_i t ht
      rw [ht]
      cases t <;> exact h
    · exact h.elim
  case unOp op t x =>
    simp only [vqOpL, vqOp, evK_eq] at h ⊢
    split at h
    · rename_i b hb
      cases b <;> exact h
    · exact h
    · exact h.elim
  case call c =>
    obtain ⟨callee, args, tys⟩ := c
    cases callee
    case invoke => exact h.elim
    case value f =>
      simp only [vqOpL, vqOp, evK_eq, evsK_eq] at h ⊢
      split at h
      · rename_i g first cap hf
        cases hg : G.can g
        · rw [hg] at h; exact h.elim
        · rw [hg] at h
          simp only [cond_true] at h ⊢
          have e : ∀ (l : List Value), first ++ l.toArray ++ cap = (first.toList ++ l ++ cap.toList).toArray := by
            intro l; apply Array.ext'; simp
          rw [e]
          split at h
          · rename_i h1 h2
            rw [h1, h2]; simpa using h
          · exact h
      · exact h.elim
    case builtin b =>
      cases b
      case len =>
        simp only [vqOpL, vqOp, evK_eq] at h ⊢
        split at h
        · exact h
        · exact h.elim
      all_goals exact h.elim
  all_goals first
    | exact h.elim
    | (simp only [vqOpL, vqOp, evK_eq] at h ⊢; exact h)

def vqStep (P : Program) (G : Eng) (N : Nat) (all : List Oper) (w : World) (o : Oper) (ih : FrL → Prop) (T : FrL) : Prop :=
  match o.dst with
  | some d => cond (Nat.blt d N) (wantK all T N o (vqOpL P G o.op T w fun v => ih ((d, v) :: T)) (ih ((d, undef) :: T))) False
  | none => wantK all T N o (vqOpL P G o.op T w fun _ => ih T) (ih T)
def vqOps (P : Program) (G : Eng) (N : Nat) (all : List Oper) (w : World) (Q : FrL → Prop) (l : List Oper) : FrL → Prop :=
  @List.rec Oper (fun _ => FrL → Prop) Q (fun o _ ih => vqStep P G N all w o ih) l

theorem vqOps_sound (ok : EngOk P G) {N : Nat} {all : List Oper} {Q : FrL → Prop} {Q' : Act → Prop} (hQ : ∀ (a : Act) (T : FrL), a.tmps.size = N → a.defers = [] → get T = fr a → Q T → Q' a) : ∀ (l : List Oper) (a : Act) (T : FrL), a.tmps.size = N → a.defers = [] → get T = fr a →
    vqOps P G N all w Q l T → wpQuiet P all.toArray (fun w' => ∃ n, w' = w.drewN n) Q' l a
  | [], a, T, hN, hd, hT, h => hQ a T hN hd hT h
  | o :: rest, a, T, hN, hd, hT, h => by
    have h : vqStep P G N all w o (vqOps P G N all w Q rest) T := h
    unfold vqStep at h
    unfold wpQuiet
    split at h
    · rename_i d hdst
      cases hlt : Nat.blt d N
      · rw [hlt] at h; exact h.elim
      · rw [hlt, cond_true, ← hN] at h
        have hput : ∀ v, get ((d, v) :: T) = fr (a.put o.dst v) := fun v => by
          rw [get_cons, hT, fr_put, hN, hdst]; simp only [put, hlt, cond_true]
        rcases want_sound hT h with ⟨hw, h⟩ | ⟨hw, h⟩
        · rw [hw, if_pos rfl]
          refine vqOp_sound ok (hT ▸ vqOpL_imp h) fun v hk => ?_
          rw [hN] at hk
          exact vqOps_sound ok hQ rest _ _ (by rw [size_put, hN]) (by rw [defers_put, hd]) (hput v) hk
        · rw [hw, if_neg (by simp)]
          rw [hN] at h
          exact vqOps_sound ok hQ rest _ _ (by rw [size_put, hN]) (by rw [defers_put, hd]) (hput _) h
    · rename_i hdst
      rw [← hN] at h
      have hput : ∀ v, get T = fr (a.put o.dst v) := fun v => by rw [hT, fr_put, hdst]; rfl
      rcases want_sound hT h with ⟨hw, h⟩ | ⟨hw, h⟩
      · rw [hw, if_pos rfl]
        refine vqOp_sound ok (hT ▸ vqOpL_imp h) fun v hk => ?_
        rw [hN] at hk
        exact vqOps_sound ok hQ rest _ _ (by rw [size_put, hN]) (by rw [defers_put, hd]) (hput v) hk
      · rw [hw, if_neg (by simp)]
        rw [hN] at h
        exact vqOps_sound ok hQ rest _ _ (by rw [size_put, hN]) (by rw [defers_put, hd]) (hput _) h

/-- A REGION THAT DRAWS AND ONLY READS: what follows is asked behind some draws. -/
theorem quiet {N id : Nat} {ops : Array Oper} {Q : Exit → FrL → World → Prop} {T : FrL} (hm : P.follows .mixedOrders = true) (hB : Region.lexB .any ops = true)
    (h : vqOps P G N ops.toList w (fun T' => ∀ n, Q .normal T' (w.drewN n)) ops.toList T) : EDraw P G N id ops Q T w := by
  refine ⟨fun ok => ⟨fun a hd hN hfr => ?_⟩⟩
  refine wp_region_quiet (C := fun w' => ∃ n, w' = w.drewN n) hm hB ⟨1, rfl⟩ ?_
  have := vqOps_sound (Q' := fun a' => ∀ w', (∃ n, w' = w.drewN n) → Lft N Q .normal a' w') ok (fun a' T' h1 h2 h3 h4 => by
    rintro w' ⟨n, rfl⟩
    exact ⟨h2, h1, T', h3, h4 n⟩) ops.toList a T hN hd hfr h
  simpa using this

theorem callQ {f : Nat} {args : Array Value} {K : Value → Prop} (v : Value) (h : ∀ n, Calls P f args (w.drewN n) fun e w' => e = .returned v ∧ ∃ m, w' = (w.drewN n).drewN m) (hk : K v) : ECallQ P f args w K := by
  refine .mk ?_
  exact ⟨v, fun n => (h n).mono fun e w' ⟨he, m, hw⟩ => ⟨he, n + m, by rw [hw, World.drewN_drewN]⟩, hk⟩
theorem ext_drewN (n : Nat) : Ext w (w.drewN n) := ⟨rfl, rfl, rfl, Nat.le_refl _, fun _ _ _ => rfl⟩
end
end Go.Proofs.YtgnlfjlenjfffaaDoor.RW
