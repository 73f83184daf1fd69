/-
  Regions that draw their order and change memory: what reads is taken first, what acts comes up alone. One condition S on the worlds, chosen for the region. Conditions: the engine's table holds; the program follows mixed orders; the region's own Bools.
-/
import Derived.Test.YtnlbhdepagkjgaaDoorZOps3
import Derived.OrdersHeld
namespace Go.Proofs.YtnlbhdepagkjgaaDoor.RW
open Go
open Go.RowKit (Below)

section
variable {P : Program} {G : Eng} {S : World → Prop}

structure EHLoad (p : Value) (S : World → Prop) (K : Value → Prop) : Prop where
  out : ∃ a v, p = .pointer (some a) ∧ (∀ w, S w → w.cell? a = some v) ∧ K v
structure EHLoadN (sz : Nat) (p : Value) (S : World → Prop) (K : Value → Prop) : Prop where
  out : ∃ (a : Addr) (cs : List Value), p = .pointer (some a) ∧ cs.length = sz ∧ (∀ w, S w → ∀ j u, cs[j]? = some u → w.cell? (a.add j) = some u) ∧ K (.agg cs.toArray)
structure EHAny (P : Program) (S : World → Prop) (s : Sem Value) (K : Value → Prop) : Prop where
  out : ∃ v, (∀ w, S w → s.run P w = .ok v w) ∧ K v
def HeldOp (P : Program) (S : World → Prop) (o : Oper) (a : Act) (next : Act → Prop) : Prop := ∃ v, (∀ w, S w → (execOp a.eval o).run P w = .ok (.value v) w) ∧ next (a.put o.dst v)
theorem hval {o : Oper} {a : Act} {v : Value} {next : Act → Prop} (h : ∀ w', S w' → (execOp a.eval o).run P w' = .ok (.value v) w') (hn : next (a.put o.dst v)) : HeldOp P S o a next := ⟨v, h, hn⟩

/-- the operations that may be taken first: they yield one value in every world that meets S -/
def vhOp (P : Program) (G : Eng) (S : World → Prop) (o : Op) (T : Fr) (K : Value → Prop) : Prop :=
  match o with
  | .move x => K (ev T x)
  | .assign x => K (ev T x)
  | .pick c a b => match ev T c with
    | .bool t => K (cond t (ev T a) (ev T b))
    | _ => False
  | .binOp op t _ _ _ => match o with
    | .binOp _ _ x y _ => match ev T x, ev T y with
      | .int .i64 a', .int .i64 b' => match op with
        | .add => EAr .i64 (a' + b') K
        | .sub => EAr .i64 (a' - b') K
        | .mul => EAr .i64 (a' * b') K
        | .quo => EQuo .i64 a' b' K
        | .rem => ERem .i64 a' b' K
        | .lss => EBool (decide (a' < b')) K
        | .leq => EBool (decide (a' ≤ b')) K
        | .gtr => EBool (decide (b' < a')) K
        | .geq => EBool (decide (b' ≤ a')) K
        | .eql => EBool (decide (a' = b')) K
        | .neq => EBool (!decide (a' = b')) K
        | _ => False
      | .bool a', .bool b' => match op, nthO G.tt t with
        | .eql, some ⟨.bool, _, _, _⟩ => EBool (decide (a' = b')) K
        | .neq, some ⟨.bool, _, _, _⟩ => EBool (!decide (a' = b')) K
        | _, _ => False
      | _, _ => False
    | _ => False
  | .unOp op _ x => match op, ev T x with
    | .not, .bool b => EBool (!b) K
    | .neg, .int .i64 n => EAr .i64 (0 - n) K
    | _, _ => False
  | .load t p => match nthO G.tt t with
    | some ⟨k, sz, _, _⟩ => cond (isAggK k) (EHLoadN sz (ev T p) S K) (EHLoad (ev T p) S K)
    | none => False
  | .indexAddr t x i => match nthO G.tt t, ev T x, ev T i with
    | some ⟨.slice e, _, _, _⟩, .slice A n _, .int .i64 j => match nthO G.tt e with
      | some ⟨_, sz, _, _⟩ => EIdx sz A n j K
      | none => False
    | _, _, _ => False
  | .field t x f => match nthO G.tt t, ev T x with
    | some ⟨.struct fs, _, _, _⟩, .agg cs => match fs[f]? with
      | some (ft, off) => match nthO G.tt ft with
        | some ⟨k, sz, _, _⟩ => cond (isAggK k) (K (.agg (cs.extract off (off + sz)))) (match cs.toList[off]? with | some v => K v | none => False)
        | none => False
      | none => False
    | _, _ => False
  | .call ⟨.builtin .len, args, tys⟩ => match args.toList, tys.toList with
    | [x], [t] => match nthO G.tt t, ev T x with
      | some ⟨.slice _, _, _, _⟩, .slice _ n _ => ELen n K
      | some ⟨.string, _, _, _⟩, .string s => ELen s.size K
      | _, _ => False
    | _, _ => False
  | .extract t i => match ev T t with
    | .tuple vs => match vs.toList[i]? with
      | some v => K v
      | none => False
    | _ => False
  | .fieldAddr t x f => EHAny P S (Instr.fieldAt t (ev T x) f) K
  | .nilCheck x => match ev T x with
    | .pointer (some p) => K (.pointer (some p))
    | _ => False
  | .build t parts => EHAny P S (Instr.build t (evp T parts.toList).toArray) K
  | .slice t x lo hi mx => EHAny P S (Instr.sliceAt t (ev T x) (lo.map (ev T)) (hi.map (ev T)) (mx.map (ev T))) K
  | _ => False

theorem vhOp_sound {o : Oper} {a : Act} {K : Value → Prop} {next : Act → Prop} (ok : EngOk P G) (h : vhOp P G S o.op (fr a) K) (hK : ∀ v, K v → next (a.put o.dst v)) :
    HeldOp P S o a next := by
  obtain ⟨dst, op, type, pos, after, guard⟩ := o
  cases op
  case move x => exact hval (v := a.eval x) (fun _ _ => rfl) (hK _ (by rw [ev_fr]; exact h))
  case assign x => exact hval (v := a.eval x) (fun _ _ => rfl) (hK _ (by rw [ev_fr]; exact h))
  case pick c x y =>
    simp only [vhOp] at h
    split at h
    · rename_i t ht
      refine hval (v := cond t (ev (fr a) x) (ev (fr a) y)) (fun w' _ => ?_) (hK _ h)
      simp only [execOp, ev_fr, ht, asBool, Sem.run_bind, Sem.run_pure, Result.andThen_ok]
      cases t <;> rfl
    · exact h.elim
  case binOp op t x y yt =>
    simp only [vhOp] at h
    split at h
    · rename_i a' b' hx hy
      have key : ∀ v, (∀ w' : World, Sem.run P (do eqGuard op t x y (.int .i64 a') (.int .i64 b'); binOp op t (.int .i64 a') (.int .i64 b')) w' = .ok v w') → K v → HeldOp P S ⟨dst, .binOp op t x y yt, type, pos, after, guard⟩ a next :=
        fun v hr hk => hval (v := v) (fun w' _ => by simp only [execOp, ev_fr, hx, hy]; exact vrun (hr w')) (hK _ hk)
      cases op
      case add => have h := h.out; exact key _ (fun w' => by simp [go_sem]) h
      case sub => have h := h.out; exact key _ (fun w' => by simp [go_sem]) h
      case mul => have h := h.out; exact key _ (fun w' => by simp [go_sem]) h
      case quo => have h := h.out; exact key _ (fun w' => by simp [go_sem, h.1]) h.2
      case rem => have h := h.out; exact key _ (fun w' => by simp [go_sem, h.1]) h.2
      case lss => have h := h.out; exact key _ (fun w' => by simp [go_sem] <;> rfl) h
      case leq => have h := h.out; exact key _ (fun w' => by simp [go_sem] <;> rfl) h
      case gtr => have h := h.out; exact key _ (fun w' => by simp [go_sem] <;> rfl) h
      case geq => have h := h.out; exact key _ (fun w' => by simp [go_sem] <;> rfl) h
      case eql => have h := h.out; exact key (.bool (decide (a' = b'))) (fun w' => by simp [go_sem] <;> rfl) h
      case neq => have h := h.out; exact key (.bool (!decide (a' = b'))) (fun w' => by simp [go_sem] <;> rfl) h
      all_goals exact h.elim
    · rename_i a' b' hx hy
      split at h
      · rename_i ht
        have hb := und_bool (und_of ok ht)
        exact hval (v := .bool (decide (a' = b'))) (fun w' _ => by
          simp only [execOp, ev_fr, hx, hy]; refine vrun ?_; simp only [eqGuard_at_bool, Sem.run_bind, Sem.run_pure, Result.andThen_ok, eql_bool hb]
          rw [show decide (a' = b') = (a' == b') from by cases a' <;> cases b' <;> rfl]) (hK _ h.out)
      · rename_i ht
        have hb := und_bool (und_of ok ht)
        exact hval (v := .bool (!decide (a' = b'))) (fun w' _ => by
          simp only [execOp, ev_fr, hx, hy]; refine vrun ?_; simp only [eqGuard_at_bool, Sem.run_bind, Sem.run_pure, Result.andThen_ok, neq_bool hb]
          rw [show decide (a' = b') = (a' == b') from by cases a' <;> cases b' <;> rfl]) (hK _ h.out)
      · exact h.elim
    · exact h.elim
  case unOp op t x =>
    simp only [vhOp] at h
    split at h
    · rename_i b hb
      have h := h.out
      exact hval (fun w' _ => by simp only [execOp, ev_fr, hb]; exact vrun rfl) (hK _ h)
    · rename_i n hb
      have h := h.out
      exact hval (fun w' _ => by simp only [execOp, ev_fr, hb]; exact vrun rfl) (hK _ h)
    · exact h.elim
  case load t p =>
    simp only [vhOp] at h
    split at h
    · rename_i k sz b z ht
      cases hk : isAggK k
      · rw [hk] at h
        simp only [cond_false] at h
        have h := h.out
        obtain ⟨ad, v, hp, hc, hkk⟩ := h
        exact hval (fun w' hw => by simp only [execOp, ev_fr, hp]; exact vrun (loadAt_one ok ht hk ad v _ (hc w' hw))) (hK _ hkk)
      · rw [hk] at h
        simp only [cond_true] at h
        have h := h.out
        obtain ⟨ad, cs, hp, hl, hc, hkk⟩ := h
        exact hval (fun w' hw => by simp only [execOp, ev_fr, hp]; exact vrun (loadAt_agg ok ht hk ad cs _ hl (hc w' hw))) (hK _ hkk)
    · exact h.elim
  case indexAddr t x i =>
    simp only [vhOp] at h
    split at h
    · rename_i e s b z A n c j ht hx hj
      split at h
      · rename_i k' sz b' z' he
        have h := h.out
        obtain ⟨ad, k, rfl, rfl, hkn, hkk⟩ := h
        refine hval (v := .pointer (some (ad.add (k * sz)))) (fun w' _ => ?_) (hK _ hkk)
        simp only [execOp, ev_fr, hx, hj]
        refine vrun ?_
        have hu := und_slice (und_of ok ht)
        have hs := sizeOf_run ok he w'
        have h1 : (0 : Int) ≤ (k : Int) ∧ (k : Int) < n := ⟨by omega, by omega⟩
        simp [Instr.indexAt, run_underlying hu, asIntOf, h1, hs]
        intro hh; omega
      · exact h.elim
    · exact h.elim
  case field t x f =>
    simp only [vhOp] at h
    split at h
    · rename_i fs s b z cs ht hx
      split at h
      · rename_i ft off hf
        split at h
        · rename_i k sz b' z' he
          cases hk : isAggK k
          · rw [hk] at h
            simp only [cond_false] at h
            split at h
            · rename_i v hv
              refine hval (v := v) (fun w' _ => ?_) (hK _ h)
              simp only [execOp, ev_fr, hx]
              have h1 := isAgg_run (und_of ok he) w'
              refine vrun (field_part ok ht hf cs w' ?_)
              have : cs[off]? = some v := by rw [← Array.getElem?_toList]; exact hv
              simp [part, h1, hk, this]
            · exact h.elim
          · rw [hk] at h
            simp only [cond_true] at h
            refine hval (fun w' _ => ?_) (hK _ h)
            simp only [execOp, ev_fr, hx]
            have h1 := isAgg_run (und_of ok he) w'
            have h2 := sizeOf_run ok he w'
            refine vrun (field_part ok ht hf cs w' ?_)
            simp [part, h1, hk, h2]
        · exact h.elim
      · exact h.elim
    · exact h.elim
  case call c =>
    obtain ⟨callee, args, tys⟩ := c
    cases callee
    case invoke => exact h.elim
    case value f => exact h.elim
    case builtin b =>
      cases b
      case len =>
        simp only [vhOp] at h
        split at h
        · rename_i x t hx ht
          have ha : args = #[x] := by apply Array.ext'; rw [hx]
          have hty : tys = #[t] := by apply Array.ext'; rw [ht]
          subst ha; subst hty
          split at h
          · rename_i e s b z A n c htt hv
            have h := h.out
            refine hval (v := .int .i64 n) (fun w' _ => ?_) (hK _ h)
            have hu := und_slice (und_of ok htt)
            simp [execOp, resolve, ev_fr, hv, invoke, builtin, Builtin.len_, run_underlying hu, goInt]
          · rename_i s b z st htt hv
            have h := h.out
            refine hval (v := .int .i64 st.size) (fun w' _ => ?_) (hK _ h)
            have hu := und_string (und_of ok htt)
            simp [execOp, resolve, ev_fr, hv, invoke, builtin, Builtin.len_, run_underlying hu, goInt]
          · exact h.elim
        · exact h.elim
      all_goals exact h.elim
  case extract t i =>
    simp only [vhOp] at h
    split at h
    · rename_i vs hv
      split at h
      · rename_i v hi
        refine hval (v := v) (fun w' _ => ?_) (hK _ h)
        simp only [execOp, ev_fr, hv]
        have : vs[i]? = some v := by rw [← Array.getElem?_toList]; exact hi
        refine vrun ?_
        simp [Instr.extract, this]
      · exact h.elim
    · exact h.elim
  case fieldAddr t x f =>
    obtain ⟨v, hr, hk⟩ := h.out
    exact hval (fun w' hw => by simp only [execOp, ev_fr]; exact vrun (hr w' hw)) (hK _ hk)
  case nilCheck x =>
    simp only [vhOp] at h
    split at h
    · rename_i ad hx
      exact hval (v := .pointer (some ad)) (fun _ _ => by simp only [execOp, ev_fr, hx]; rfl) (hK _ h)
    · exact h.elim
  case build t parts =>
    obtain ⟨v, hr, hk⟩ := h.out
    exact hval (fun w' hw => by simp only [execOp, map_evp]; exact vrun (hr w' hw)) (hK _ hk)
  case slice t x lo hi mx =>
    obtain ⟨v, hr, hk⟩ := h.out
    exact hval (fun w' hw => by
      have e : ∀ o : Option Operand, o.map a.eval = o.map (ev (fr a)) := fun o => by cases o <;> simp [ev_fr]
      simp only [execOp, ev_fr, e]; exact vrun (hr w' hw)) (hK _ hk)
  all_goals exact h.elim

def vhOpL (P : Program) (G : Eng) (S : World → Prop) (o : Op) (T : FrL) (K : Value → Prop) : Prop :=
  match o with
  | .move x => evK T x K
  | .assign x => evK T x K
  | .pick c a b => evK T c fun v => bK v (evK T a K) (evK T b K) False
  | .binOp op t x y _ => evK T x fun a => evK T y fun b => match a, b with
      | .int .i64 a', .int .i64 b' => match op with
        | .add => EAr .i64 (a' + b') K
        | .sub => EAr .i64 (a' - b') K
        | .mul => EAr .i64 (a' * b') K
        | .quo => EQuo .i64 a' b' K
        | .rem => ERem .i64 a' b' K
        | .lss => EBool (decide (a' < b')) K
        | .leq => EBool (decide (a' ≤ b')) K
        | .gtr => EBool (decide (b' < a')) K
        | .geq => EBool (decide (b' ≤ a')) K
        | .eql => EBool (decide (a' = b')) K
        | .neq => EBool (!decide (a' = b')) K
        | _ => False
      | .bool a', .bool b' => match op, nthO G.tt t with
        | .eql, some ⟨.bool, _, _, _⟩ => EBool (decide (a' = b')) K
        | .neq, some ⟨.bool, _, _, _⟩ => EBool (!decide (a' = b')) K
        | _, _ => False
      | _, _ => False
  | .unOp op _ x => evK T x fun v => match op, v with
    | .not, .bool b => EBool (!b) K
    | .neg, .int .i64 n => EAr .i64 (0 - n) K
    | _, _ => False
  | .load t p => evK T p fun p => match nthO G.tt t with
    | some ⟨k, sz, _, _⟩ => cond (isAggK k) (EHLoadN sz p S K) (EHLoad p S K)
    | none => False
  | .indexAddr t x i => evK T x fun x => evK T i fun i => match nthO G.tt t, x, i with
    | some ⟨.slice e, _, _, _⟩, .slice A n _, .int .i64 j => match nthO G.tt e with
      | some ⟨_, sz, _, _⟩ => EIdx sz A n j K
      | none => False
    | _, _, _ => False
  | .field t x f => evK T x fun x => match nthO G.tt t, x with
    | some ⟨.struct fs, _, _, _⟩, .agg cs => match fs[f]? with
      | some (ft, off) => match nthO G.tt ft with
        | some ⟨k, sz, _, _⟩ => cond (isAggK k) (K (.agg (cs.extract off (off + sz)))) (match cs.toList[off]? with | some v => K v | none => False)
        | none => False
      | none => False
    | _, _ => False
  | .call ⟨.builtin .len, args, tys⟩ => match args.toList, tys.toList with
    | [x], [t] => evK T x fun v => match nthO G.tt t, v with
      | some ⟨.slice _, _, _, _⟩, .slice _ n _ => ELen n K
      | some ⟨.string, _, _, _⟩, .string s => ELen s.size K
      | _, _ => False
    | _, _ => False
  | .extract t i => evK T t fun v => match v with
    | .tuple vs => match vs.toList[i]? with
      | some v => K v
      | none => False
    | _ => False
  | .fieldAddr t x f => evK T x fun x => EHAny P S (Instr.fieldAt t x f) K
  | .nilCheck x => evK T x fun x => match x with
    | .pointer (some p) => K (.pointer (some p))
    | _ => False
  | .build t parts => evpK T parts.toList fun l => EHAny P S (Instr.build t l.toArray) K
  | .slice t x lo hi mx => evK T x fun x => evoK T lo fun lo => evoK T hi fun hi => evoK T mx fun mx => EHAny P S (Instr.sliceAt t x lo hi mx) K
  | _ => False

theorem vhOpL_imp {o : Op} {T : FrL} {K : Value → Prop} (h : vhOpL P G S o T K) : vhOp P G S o (get T) K := by
  cases o
  case pick c a b =>
    simp only [vhOpL, vhOp, evK_eq] at h ⊢
    unfold bK at h
    split at h
    · rename_i t ht
      rw [ht]
      cases t <;> exact h
    · exact h.elim
  case unOp op t x =>
    simp only [vhOpL, vhOp, evK_eq] at h ⊢
    exact h
  case nilCheck x =>
    simp only [vhOpL, vhOp, evK_eq] at h ⊢
    split at h
    · rename_i hx; first | exact h | (rw [hx]; exact h)
    · exact h.elim
  case call c =>
    obtain ⟨callee, args, tys⟩ := c
    cases callee
    case invoke => exact h.elim
    case value f => exact h.elim
    case builtin b =>
      cases b
      case len =>
        simp only [vhOpL, vhOp, evK_eq] at h ⊢
        split at h
        · exact h
        · exact h.elim
      all_goals exact h.elim
  all_goals first
    | exact h.elim
    | (simp only [vhOpL, vhOp, evK_eq, evpK_eq, evoK_eq] at h ⊢; exact h)

/-! ### orders -/
section
variable {ops : Array Oper} {Q : Exit → Act → World → Prop} {md : Region.Mode}
/-- whatever order is picked; S holds behind the operations that N names -/
def wpAnyN (P : Program) (md : Region.Mode) (ops : Array Oper) (Q : Exit → Act → World → Prop) (S S2 : World → Prop) (N : Nat → Bool) : Nat → Array Bool → Act → World → Prop
  | 0, listed, a, w => Region.ready md ops listed = [] ∧ Q .normal a w
  | fuel + 1, listed, a, w =>
    (Region.ready md ops listed = [] → Q .normal a w) ∧
    ∀ i ∈ Region.ready md ops listed, wpOp P ops Q i (fun a' w' => (N i = true → S w') ∧ S2 w' ∧ wpAnyN P md ops Q S S2 N fuel (listed.setIfInBounds i true) a' w') a w
theorem wpAny_of_N {S2 : World → Prop} {N : Nat → Bool} : ∀ (fuel : Nat) (listed : Array Bool) (a : Act) (w : World), wpAnyN P md ops Q S S2 N fuel listed a w → wpAny P md ops Q fuel listed a w
  | 0, _, _, _, h => h
  | fuel + 1, _, _, _, h => ⟨h.1, fun i hi => wpOp_mono (fun a' w' h' => wpAny_of_N fuel _ a' w' h'.2.2) (h.2 i hi)⟩

/-- what is listed has been waited for -/
def ClosedL (md : Region.Mode) (ops : Array Oper) (listed : Array Bool) : Prop := ∀ (j : Nat) (o : Oper), ops[j]? = some o → listed.getD j false = true → ∀ e ∈ o.after, Region.binds md e = true → listed.getD e.on false = true
/-- j waits for i -/
def Waits (md : Region.Mode) (ops : Array Oper) (j i : Nat) : Prop := ∀ (listed : Array Bool) (o : Oper), ops[j]? = some o → ClosedL md ops listed → (∀ e ∈ o.after, Region.binds md e = true → listed.getD e.on false = true) → listed.getD i false = true
def dTab (md : Region.Mode) : List Oper → List (List Nat) → List (List Nat)
  | [], acc => acc
  | o :: l, acc => dTab md l (acc ++ [(o.after.toList.filter (Region.binds md)).flatMap fun e => e.on :: acc.getD e.on []])
theorem dTab_waits : ∀ (l pre : List Oper) (acc : List (List Nat)), ops.toList = pre ++ l → acc.length = pre.length → (∀ j i, i ∈ acc.getD j [] → Waits md ops j i) → ∀ j i, i ∈ (dTab md l acc).getD j [] → Waits md ops j i
  | [], _, acc, _, _, h => h
  | o :: l, pre, acc, he, hl, h => by
    unfold dTab
    refine dTab_waits l (pre ++ [o]) _ (by simpa using he) (by simp [hl]) fun j i hm => ?_
    rw [List.getD_eq_getElem?_getD] at hm
    by_cases hj : j < acc.length
    · rw [List.getElem?_append_left hj, ← List.getD_eq_getElem?_getD] at hm
      exact h j i hm
    · by_cases hj2 : j = acc.length
      · subst hj2
        rw [List.getElem?_append_right (Nat.le_refl _)] at hm
        simp only [Nat.sub_self, List.getElem?_cons_zero, Option.getD_some] at hm
        obtain ⟨e, hef, hi⟩ := List.mem_flatMap.1 hm
        obtain ⟨he1, he2⟩ := List.mem_filter.1 hef
        intro listed o' ho hc hall
        have hoo : o' = o := by
          have h1 : ops[acc.length]? = some o := by
            rw [← Array.getElem?_toList, he, hl, List.getElem?_append_right (Nat.le_refl _)]; simp
          rw [h1] at ho; exact (Option.some.inj ho).symm
        subst hoo
        have hon := hall e (by simpa using he1) he2
        rcases List.mem_cons.1 hi with rfl | hi
        · exact hon
        · cases hk : ops[e.on]? with
          | none =>
            have : acc.length ≤ e.on := by
              have h2 : ops.size ≤ e.on := by simpa using hk
              have h3 : ops.size = pre.length + (l.length + 1) := by rw [← Array.length_toList, he]; simp
              omega
            rw [List.getD_eq_getElem?_getD, List.getElem?_eq_none this] at hi
            cases hi
          | some ok => exact h e.on i hi listed ok hk hc (hc e.on ok hk hon)
      · rw [List.getElem?_eq_none (by simp; omega)] at hm
        cases hm

theorem closed_set {listed : Array Bool} {j : Nat} (h : ClosedL md ops listed) (hj : j ∈ Region.ready md ops listed) : ClosedL md ops (listed.setIfInBounds j true) := by
  intro k o hk hl e he hb
  obtain ⟨_, oj, hoj, hall⟩ := mem_ready.1 hj
  have up : ∀ x, listed.getD x false = true → (listed.setIfInBounds j true).getD x false = true := by
    intro x hx
    by_cases hjx : j = x
    · subst hjx
      rcases Nat.lt_or_ge j listed.size with h' | h'
      · simp [Array.getD, h']
      · simp [Array.getD, Nat.not_lt_of_le h'] at hx
    · rw [getD_set_ne false hjx]; exact hx
  by_cases hjk : j = k
  · subst hjk
    rw [hoj] at hk
    obtain rfl := Option.some.inj hk
    exact up _ (hall e he hb)
  · rw [getD_set_ne false hjk] at hl
    exact up _ (h k o hk hl e he hb)

theorem wpAnyN_first {S2 : World → Prop} {N : Nat → Bool} {i : Nat} {oi : Oper} {v : Value} (hi : ops[i]? = some oi) (hsel : ∀ (j : Nat) (o : Oper) cs b, ops[j]? = some o → o.op ≠ .select cs b)
    (hQ : ∀ c a w, Q (.panic c) (a.put oi.dst v) w → Q (.panic c) a w) :
    ∀ (fuel : Nat) (listed : Array Bool) (a : Act) (w : World),
      (∀ j oj, ops[j]? = some oj → j ≠ i → listed.getD j true = false → (∀ e ∈ oj.after, Region.binds md e = true → e.on ≠ i) → oi.apart ops oj = true) →
      (∀ j, j ≠ i → listed.getD j true = false → N j = false → Waits md ops j i) → ClosedL md ops listed →
      i ∈ Region.ready md ops listed → YieldsIf P ops S oi v a → S w → S2 w →
      wpAnyN P md ops Q S S2 N fuel (listed.setIfInBounds i true) (a.put oi.dst v) w → wpAnyN P md ops Q S S2 N (fuel + 1) listed a w := by
  intro fuel
  induction fuel with
  | zero =>
    intro listed a w _ _ _ hr hy hS hS2 H
    refine ⟨fun h => (by rw [h] at hr; cases hr), fun j hj => ?_⟩
    by_cases hji : j = i
    · subst hji; exact hy.wpOp hi hS ⟨fun _ => hS, hS2, H⟩
    · have := ready_mono hj hji
      rw [H.1] at this
      cases this
  | succ fuel ih =>
    intro listed a w hfree hN hcl hr hy hS hS2 H
    refine ⟨fun h => (by rw [h] at hr; cases hr), fun j hj => ?_⟩
    by_cases hji : j = i
    · subst hji; exact hy.wpOp hi hS ⟨fun _ => hS, hS2, H⟩
    · have h1 := H.2 j (ready_mono hj hji)
      obtain ⟨hjun, oj, hoj, hall⟩ := mem_ready.1 hj
      have hi0 : listed.getD i false = false := by
        have h0 := (mem_ready.1 hr).1
        rcases Nat.lt_or_ge i listed.size with h' | h'
        · simp [Array.getD, h'] at h0 ⊢; exact h0
        · simp [Array.getD, Nat.not_lt_of_le h']
      have hNj : N j = true := by
        cases hb : N j with
        | true => rfl
        | false =>
          have := hN j hji hjun hb listed oj hoj hcl hall
          rw [hi0] at this; cases this
      have hnot : ∀ e ∈ oj.after, Region.binds md e = true → e.on ≠ i := fun e he hb heq => by
        have h1 := hall e he hb
        rw [heq, hi0] at h1; cases h1
      have h2 := wpOp_putIf hoj (hfree j oj hoj hji hjun hnot) (fun cs b => hsel i oi cs b hi) (fun cs b => hsel j oj cs b hoj) hQ hy h1
      have hunl : ∀ k, (listed.setIfInBounds j true).getD k true = false → listed.getD k true = false := fun k hun => by
        by_cases hjk : j = k
        · subst hjk; exact hjun
        · rw [getD_set_ne true hjk] at hun; exact hun
      have hfree' : ∀ k ok, ops[k]? = some ok → k ≠ i → (listed.setIfInBounds j true).getD k true = false →
          (∀ e ∈ ok.after, Region.binds md e = true → e.on ≠ i) → oi.apart ops ok = true := fun k ok hk hki hun hno => hfree k ok hk hki (hunl k hun) hno
      refine wpOp_mono (fun a' w' h3 => ⟨fun _ => h3.2.1 hNj, h3.2.2.1, ih (listed.setIfInBounds j true) a' w' hfree' (fun k hki hun => hN k hki (hunl k hun)) (closed_set hcl hj) (ready_mono hr (Ne.symm hji)) h3.1 (h3.2.1 hNj) h3.2.2.1 ?_⟩) h2
      rw [Array.setIfInBounds_comm _ _ hji]
      exact h3.2.2.2
theorem wpAnyN_pure {S2 : World → Prop} {N : Nat → Bool} {i : Nat} {oi : Oper} {v : Value} (hi : ops[i]? = some oi) (hsel : ∀ (j : Nat) (o : Oper) cs b, ops[j]? = some o → o.op ≠ .select cs b)
    (hQ : ∀ c a w, Q (.panic c) (a.put oi.dst v) w → Q (.panic c) a w) :
    ∀ (fuel : Nat) (listed : Array Bool) (a : Act) (w : World),
      (∀ j oj, ops[j]? = some oj → j ≠ i → listed.getD j true = false → (∀ e ∈ oj.after, Region.binds md e = true → e.on ≠ i) → oi.apart ops oj = true) →
      i ∈ Region.ready md ops listed → YieldsIf P ops S2 oi v a → N i = false → S2 w →
      wpAnyN P md ops Q S S2 N fuel (listed.setIfInBounds i true) (a.put oi.dst v) w → wpAnyN P md ops Q S S2 N (fuel + 1) listed a w := by
  intro fuel
  induction fuel with
  | zero =>
    intro listed a w _ hr hy hN hS2 H
    refine ⟨fun h => (by rw [h] at hr; cases hr), fun j hj => ?_⟩
    by_cases hji : j = i
    · subst hji; exact hy.wpOp hi hS2 ⟨fun h => (by rw [hN] at h; cases h), hS2, H⟩
    · have := ready_mono hj hji
      rw [H.1] at this
      cases this
  | succ fuel ih =>
    intro listed a w hfree hr hy hN hS2 H
    refine ⟨fun h => (by rw [h] at hr; cases hr), fun j hj => ?_⟩
    by_cases hji : j = i
    · subst hji; exact hy.wpOp hi hS2 ⟨fun h => (by rw [hN] at h; cases h), hS2, H⟩
    · have h1 := H.2 j (ready_mono hj hji)
      obtain ⟨hjun, oj, hoj, hall⟩ := mem_ready.1 hj
      have hi0 : listed.getD i false = false := by
        have h0 := (mem_ready.1 hr).1
        rcases Nat.lt_or_ge i listed.size with h' | h'
        · simp [Array.getD, h'] at h0 ⊢; exact h0
        · simp [Array.getD, Nat.not_lt_of_le h']
      have hnot : ∀ e ∈ oj.after, Region.binds md e = true → e.on ≠ i := fun e he hb heq => by
        have h1 := hall e he hb
        rw [heq, hi0] at h1; cases h1
      have h2 := wpOp_putIf hoj (hfree j oj hoj hji hjun hnot) (fun cs b => hsel i oi cs b hi) (fun cs b => hsel j oj cs b hoj) hQ hy h1
      have hunl : ∀ k, (listed.setIfInBounds j true).getD k true = false → listed.getD k true = false := fun k hun => by
        by_cases hjk : j = k
        · subst hjk; exact hjun
        · rw [getD_set_ne true hjk] at hun; exact hun
      have hfree' : ∀ k ok, ops[k]? = some ok → k ≠ i → (listed.setIfInBounds j true).getD k true = false →
          (∀ e ∈ ok.after, Region.binds md e = true → e.on ≠ i) → oi.apart ops ok = true := fun k ok hk hki hun hno => hfree k ok hk hki (hunl k hun) hno
      refine wpOp_mono (fun a' w' h3 => ⟨h3.2.1, h3.2.2.1, ih (listed.setIfInBounds j true) a' w' hfree' (ready_mono hr (Ne.symm hji)) h3.1 hN h3.2.2.1 ?_⟩) h2
      rw [Array.setIfInBounds_comm _ _ hji]
      exact h3.2.2.2
end

/-- the order of the walk -/
inductive OT where
  | done
  | act (i : Nat) (t : OT)
  | fst (i : Nat) (t : OT)
  | pure (i : Nat) (t : OT)
  | alts (u : OT)
  | alt (i : Nat) (t u : OT)
  | no
def nOk (ex : List Nat) (tab : List (List Nat)) (n : Nat) (listed : Array Bool) (i : Nat) : Bool := ex.all fun j => Nat.ble n j || listed.getD j true || Nat.beq j i || (tab.getD j []).contains i
def altB : OT → Bool
  | .alt _ _ _ => true
  | .no => true
  | _ => false
def altIds : OT → List Nat
  | .alt i _ u => i :: altIds u
  | _ => []
def ordOk (ops : Array Oper) (ex : List Nat) (tab : List (List Nat)) : OT → Bool → Array Bool → Bool
  | .done, _, listed => (Region.ready .any ops listed).isEmpty
  | .act i l, sok, listed => (sok || ex.contains i) && (Region.ready .any ops listed == [i]) && !altB l && ordOk ops ex tab l (sok && !ex.contains i) (listed.setIfInBounds i true)
  | .pure i l, sok, listed => ex.contains i && Region.free .any ops listed i && (Region.ready .any ops listed).contains i && !altB l && ordOk ops ex tab l sok (listed.setIfInBounds i true)
  | .fst i l, sok, listed => sok && nOk ex tab ops.size listed i && Region.free .any ops listed i && (Region.ready .any ops listed).contains i && !altB l && ordOk ops ex tab l true (listed.setIfInBounds i true)
  | .alts u, sok, listed => (Region.ready .any ops listed == altIds u) && !(altIds u).isEmpty && ordOk ops ex tab u sok listed
  | .alt i t u, sok, listed => (sok || ex.contains i) && !altB t && ordOk ops ex tab t (sok && !ex.contains i) (listed.setIfInBounds i true) && ordOk ops ex tab u sok listed
  | .no, _, _ => true
def OT.len : OT → Nat
  | .done => 0
  | .act _ t => t.len + 1
  | .fst _ t => t.len + 1
  | .pure _ t => t.len + 1
  | .alts u => u.len + 1
  | .alt _ t u => max t.len u.len
  | .no => 0
structure EHold (S : World → Prop) (w : World) (K : Prop) : Prop where
  out : S w ∧ K
theorem hold {w : World} {K : Prop} (h : S w) (k : K) : EHold S w K := by refine .mk ?_; exact ⟨h, k⟩
structure EBoth (A B : Prop) : Prop where
  out : A ∧ B
noncomputable def inL (l : List Nat) (i : Nat) : Bool := @List.rec Nat (fun _ => Bool) false (fun j _ ih => cond (Nat.beq i j) true ih) l
theorem inL_eq : ∀ (l : List Nat) (i : Nat), inL l i = l.contains i
  | [], _ => rfl
  | j :: l, i => by
    show cond (Nat.beq i j) true (inL l i) = _
    rw [inL_eq l i, List.contains_cons]
    cases hb : Nat.beq i j
    · have : (i == j) = false := by rw [beq_eq_false_iff_ne]; intro e; subst e; simp [Nat.beq_refl] at hb
      rw [this]; rfl
    · obtain rfl := Nat.eq_of_beq_eq_true hb
      simp
def vhAct (P : Program) (G : Eng) (S S2 : World → Prop) (N : Nat) (ex : Bool) (all : List Oper) (o : Oper) (ih : FrL → World → Prop) (T : FrL) (w : World) : Prop :=
  match o.dst with
  | some d => cond (Nat.blt d N) (wantK all T N o
      (vcOpL P G o.op o.type T w fun v w' => cond ex (EHold S2 w' (ih ((d, v) :: T) w')) (EHold S w' (ih ((d, v) :: T) w')))
      (ih ((d, undef) :: T) w)) False
  | none => wantK all T N o
      (vcOpL P G o.op o.type T w fun _ w' => cond ex (EHold S2 w' (ih T w')) (EHold S w' (ih T w')))
      (ih T w)
def vhFst (P : Program) (G : Eng) (S : World → Prop) (N : Nat) (all : List Oper) (o : Oper) (ih : FrL → World → Prop) (T : FrL) (w : World) : Prop :=
  match o.dst with
  | some d => cond (Nat.blt d N) (wantK all T N o (vhOpL P G S o.op T fun v => ih ((d, v) :: T) w) (ih ((d, undef) :: T) w)) False
  | none => wantK all T N o (vhOpL P G S o.op T fun _ => ih T w) (ih T w)
noncomputable def opAt (l : List Oper) : Nat → Option Oper := @List.rec Oper (fun _ => Nat → Option Oper) (fun _ => none) (fun o _ ih i => @Nat.rec (fun _ => Option Oper) (some o) (fun k _ => ih k) i) l
theorem opAt_eq : ∀ (l : List Oper) (i : Nat), opAt l i = l[i]?
  | [], _ => rfl
  | o :: l, 0 => rfl
  | o :: l, i + 1 => by
    show opAt l i = _
    rw [opAt_eq l i]; rfl
def vhOrd (P : Program) (G : Eng) (S S2 : World → Prop) (N : Nat) (ex : List Nat) (all : List Oper) (Q : FrL → World → Prop) (ord : OT) : FrL → World → Prop :=
  @OT.rec (fun _ => FrL → World → Prop) Q
    (fun i _ ih T w => match opAt all i with
      | some o => vhAct P G S S2 N (inL ex i) all o ih T w
      | none => False)
    (fun i _ ih T w => match opAt all i with
      | some o => vhFst P G S N all o ih T w
      | none => False)
    (fun i _ ih T w => match opAt all i with
      | some o => vhFst P G S2 N all o ih T w
      | none => False)
    (fun _ ih T w => ih T w)
    (fun i _ _ ih ih' T w => match opAt all i with
      | some o => EBoth (vhAct P G S S2 N (inL ex i) all o ih T w) (ih' T w)
      | none => False)
    (fun _ _ => True) ord

theorem vhAct_sound {S2 : World → Prop} {N i : Nat} {ex : List Nat} {ops : Array Oper} {o : Oper} {ih : FrL → World → Prop} {a : Act} {T : FrL} {w : World} {next : Act → World → Prop} {Q' : Exit → Act → World → Prop} (ok : EngOk P G) (hSS : ∀ w, S w → S2 w) (hio : ops[i]? = some o) (hN : a.tmps.size = N) (hd : a.defers = []) (hT : get T = fr a) (hS : (!ex.contains i) = true → S w) (hS2 : S2 w) (hn : ∀ (a' : Act) (T' : FrL) (w' : World), a'.tmps.size = N → a'.defers = [] → get T' = fr a' → ((!ex.contains i) = true → S w') → S2 w' → ih T' w' → next a' w') (h : vhAct P G S S2 N (inL ex i) ops.toList o ih T w) : wpOp P ops Q' i (fun a' w' => ((!ex.contains i) = true → S w') ∧ S2 w' ∧ next a' w') a w := by
  unfold vhAct at h
  have hb : ∀ d, o.dst = some d → Nat.blt d N = true := fun d hdd => by
    rw [hdd] at h
    simp only at h
    cases hlt : Nat.blt d N
    · rw [hlt] at h; exact h.elim
    · rfl
  have hput : ∀ v, get (match o.dst with | some d => (d, v) :: T | none => T) = fr (a.put o.dst v) := fun v => by
    rw [fr_put, ← hT, hN]
    cases hdst : o.dst with
    | none => rfl
    | some d => rw [get_cons]; simp only [put, hb d hdst, cond_true]
  have h : wantK ops.toList T N o
      (vcOpL P G o.op o.type T w fun v w' => cond (inL ex i) (EHold S2 w' (ih (match o.dst with | some d => (d, v) :: T | none => T) w')) (EHold S w' (ih (match o.dst with | some d => (d, v) :: T | none => T) w')))
      (ih (match o.dst with | some d => (d, undef) :: T | none => T) w) := by
    cases hdst : o.dst with
    | none => rw [hdst] at h; exact h
    | some d => rw [hdst] at h; simp only [hb d hdst, cond_true] at h; exact h
  rw [← hN] at h
  unfold wpOp
  simp only [hio]
  rcases want_sound hT h with ⟨hw, h⟩ | ⟨hw, h⟩
  · have hw : Region.wanted o (yielded ops a.tmps) = true := by simpa using hw
    simp only [hw, if_true]
    refine .inl (vcOp_sound ok (hT ▸ vcOpL_imp h) fun v w' hk => ?_)
    have key : ((!ex.contains i) = true → S w') ∧ S2 w' ∧ ih (match o.dst with | some d => (d, v) :: T | none => T) w' := by
      rw [inL_eq] at hk
      cases hx : ex.contains i
      · rw [hx, cond_false] at hk
        exact ⟨fun _ => hk.out.1, hSS _ hk.out.1, hk.out.2⟩
      · rw [hx, cond_true] at hk
        exact ⟨fun h => by simp at h, hk.out.1, hk.out.2⟩
    exact ⟨key.1, key.2.1, hn _ _ _ (by rw [size_put, hN]) (by rw [defers_put, hd]) (hput v) key.1 key.2.1 key.2.2⟩
  · have hw : Region.wanted o (yielded ops a.tmps) = false := by simpa using hw
    simp only [hw, Bool.false_eq_true, if_false]
    exact ⟨hS, hS2, hn _ _ _ (by rw [size_put, hN]) (by rw [defers_put, hd]) (hput _) hS hS2 h⟩

theorem vhFst_val {N : Nat} {ops : Array Oper} {o : Oper} {ih : FrL → World → Prop} {a : Act} {T : FrL} {w : World} (ok : EngOk P G) (hN : a.tmps.size = N) (hT : get T = fr a) (h : vhFst P G S N ops.toList o ih T w) :
    ∃ v T', YieldsIf P ops S o v a ∧ get T' = fr (a.put o.dst v) ∧ ih T' w := by
  unfold vhFst at h
  have hb : ∀ d, o.dst = some d → Nat.blt d N = true := fun d hdd => by
    rw [hdd] at h
    simp only at h
    cases hlt : Nat.blt d N
    · rw [hlt] at h; exact h.elim
    · rfl
  have hput : ∀ v, get (match o.dst with | some d => (d, v) :: T | none => T) = fr (a.put o.dst v) := fun v => by
    rw [fr_put, ← hT, hN]
    cases hdst : o.dst with
    | none => rfl
    | some d => rw [get_cons]; simp only [put, hb d hdst, cond_true]
  have h : wantK ops.toList T N o
      (vhOpL P G S o.op T fun v => ih (match o.dst with | some d => (d, v) :: T | none => T) w)
      (ih (match o.dst with | some d => (d, undef) :: T | none => T) w) := by
    cases hdst : o.dst with
    | none => rw [hdst] at h; exact h
    | some d => rw [hdst] at h; simp only [hb d hdst, cond_true] at h; exact h
  rw [← hN] at h
  rcases want_sound hT h with ⟨hw, h⟩ | ⟨hw, h⟩
  · obtain ⟨v, h1, h2⟩ := vhOp_sound ok (a := a) (next := fun a' => ∃ T', get T' = fr a' ∧ ih T' w) (hT ▸ vhOpL_imp h) (fun v hk => ⟨_, hput v, hk⟩)
    obtain ⟨T', k1, k2⟩ := h2
    exact ⟨v, T', .inl ⟨by simpa using hw, h1⟩, k1, k2⟩
  · exact ⟨undef, _, .inr ⟨by simpa using hw, rfl⟩, hput _, h⟩

theorem wpAnyN_done {ops : Array Oper} {Q : Exit → Act → World → Prop} {S2 : World → Prop} {N : Nat → Bool} {listed : Array Bool} {a : Act} {w : World} (hr : Region.ready .any ops listed = []) (h : Q .normal a w) :
    ∀ fuel, wpAnyN P .any ops Q S S2 N fuel listed a w
  | 0 => ⟨hr, h⟩
  | _ + 1 => ⟨fun _ => h, by rw [hr]; simp⟩
theorem wpAnyN_all {ops : Array Oper} {Q : Exit → Act → World → Prop} {S2 : World → Prop} {N : Nat → Bool} {rs : List Nat} {fuel : Nat} {listed : Array Bool} {a : Act} {w : World} (hr : Region.ready .any ops listed = rs) (hne : rs ≠ [])
    (h : ∀ i ∈ rs, wpOp P ops Q i (fun a' w' => (N i = true → S w') ∧ S2 w' ∧ wpAnyN P .any ops Q S S2 N fuel (listed.setIfInBounds i true) a' w') a w) : wpAnyN P .any ops Q S S2 N (fuel + 1) listed a w :=
  ⟨fun h0 => absurd (hr ▸ h0) hne, hr ▸ h⟩

theorem nOk_waits {ops : Array Oper} {ex : List Nat} {listed : Array Bool} {i : Nat} (h : nOk ex (dTab .any ops.toList []) ops.size listed i = true) : ∀ j, j ≠ i → listed.getD j true = false → (!ex.contains j) = false → Waits .any ops j i := by
  intro j hji hl hN
  have hx : j ∈ ex := by simpa using hN
  have := List.all_eq_true.1 h j hx
  simp only [Bool.or_eq_true] at this
  rcases this with ((h1 | h1) | h1) | h1
  · intro listed' o ho
    have h2 := Nat.le_of_ble_eq_true h1
    rw [Array.getElem?_eq_none h2] at ho; cases ho
  · rw [hl] at h1; cases h1
  · exact absurd (Nat.eq_of_beq_eq_true h1) hji
  · exact dTab_waits (md := .any) ops.toList [] [] rfl rfl (fun j i h => by simp at h) j i (by simpa using h1)

def qN (N : Nat) (Q : FrL → World → Prop) : Exit → Act → World → Prop := fun e a w => e = .normal ∧ a.defers = [] ∧ a.tmps.size = N ∧ ∃ T, get T = fr a ∧ Q T w
theorem vhOrd_sound {S2 : World → Prop} {N : Nat} {ex : List Nat} {ops : Array Oper} {Q : FrL → World → Prop} (ok : EngOk P G) (hSS : ∀ w, S w → S2 w) (hsel : Region.noSelect ops = true) : ∀ (ord : OT) (sok : Bool) (fuel : Nat) (listed : Array Bool) (a : Act) (T : FrL) (w : World),
    a.tmps.size = N → a.defers = [] → get T = fr a → ClosedL .any ops listed → ordOk ops ex (dTab .any ops.toList []) ord sok listed = true → ord.len ≤ fuel → (sok = true → S w) → S2 w → vhOrd P G S S2 N ex ops.toList Q ord T w →
    (altB ord = false → wpAnyN P .any ops (qN N Q) S S2 (fun i => !ex.contains i) fuel listed a w) ∧
    ∀ k ∈ altIds ord, k ∈ Region.ready .any ops listed → wpOp P ops (qN N Q) k (fun a' w' => ((!ex.contains k) = true → S w') ∧ S2 w' ∧ wpAnyN P .any ops (qN N Q) S S2 (fun i => !ex.contains i) fuel (listed.setIfInBounds k true) a' w') a w
  | .done, sok, fuel, listed, a, T, w, hN, hd, hT, hc, ho, hf, hS, hS2, h => by
    have ho : (Region.ready .any ops listed).isEmpty = true := ho
    exact ⟨fun _ => wpAnyN_done (List.isEmpty_iff.1 ho) ⟨rfl, hd, hN, T, hT, h⟩ fuel, fun k hk => by cases hk⟩
  | .act i rest, sok, 0, listed, a, T, w, hN, hd, hT, hc, ho, hf, hS, hS2, h => by simp [OT.len] at hf
  | .fst i rest, sok, 0, listed, a, T, w, hN, hd, hT, hc, ho, hf, hS, hS2, h => by simp [OT.len] at hf
  | .pure i rest, sok, 0, listed, a, T, w, hN, hd, hT, hc, ho, hf, hS, hS2, h => by simp [OT.len] at hf
  | .alts u, sok, 0, listed, a, T, w, hN, hd, hT, hc, ho, hf, hS, hS2, h => by simp [OT.len] at hf
  | .no, sok, fuel, listed, a, T, w, hN, hd, hT, hc, ho, hf, hS, hS2, h => ⟨fun h => (by cases h), fun k hk => by cases hk⟩
  | .fst i rest, sok, fuel + 1, listed, a, T, w, hN, hd, hT, hc, ho, hf, hS, hS2, h => by
    refine ⟨fun _ => ?_, fun k hk => (by cases hk)⟩
    have h : (match opAt ops.toList i with
      | some o => vhFst P G S N ops.toList o (vhOrd P G S S2 N ex ops.toList Q rest) T w
      | none => False) := h
    rw [opAt_eq] at h
    have hf' : rest.len ≤ fuel := by simpa [OT.len] using hf
    split at h
    · rename_i o hio
      have hi : ops[i]? = some o := by rw [← Array.getElem?_toList]; exact hio
      have ho : (sok && nOk ex (dTab .any ops.toList []) ops.size listed i && Region.free .any ops listed i && (Region.ready .any ops listed).contains i && !altB rest && ordOk ops ex (dTab .any ops.toList []) rest true (listed.setIfInBounds i true)) = true := ho
      simp only [Bool.and_eq_true] at ho
      obtain ⟨⟨⟨⟨⟨o1, o2⟩, o3⟩, o4⟩, oB⟩, o5⟩ := ho
      have oB : altB rest = false := by simpa using oB
      obtain ⟨v, T', hy, hT', hk⟩ := vhFst_val ok hN hT h
      have hri : i ∈ Region.ready .any ops listed := by simpa using o4
      refine wpAnyN_first hi (Region.noSelect_spec hsel) (fun c a w hq => by cases hq.1) fuel listed a w (Region.free_spec hi o3) (nOk_waits o2) hc hri hy (hS o1) hS2 ?_
      exact (vhOrd_sound ok hSS hsel rest true fuel _ _ T' w (by rw [size_put, hN]) (by rw [defers_put, hd]) hT' (closed_set hc hri) o5 hf' (fun _ => hS o1) hS2 hk).1 oB
    · exact h.elim
  | .pure i rest, sok, fuel + 1, listed, a, T, w, hN, hd, hT, hc, ho, hf, hS, hS2, h => by
    refine ⟨fun _ => ?_, fun k hk => (by cases hk)⟩
    have h : (match opAt ops.toList i with
      | some o => vhFst P G S2 N ops.toList o (vhOrd P G S S2 N ex ops.toList Q rest) T w
      | none => False) := h
    rw [opAt_eq] at h
    have hf' : rest.len ≤ fuel := by simpa [OT.len] using hf
    split at h
    · rename_i o hio
      have hi : ops[i]? = some o := by rw [← Array.getElem?_toList]; exact hio
      have ho : (ex.contains i && Region.free .any ops listed i && (Region.ready .any ops listed).contains i && !altB rest && ordOk ops ex (dTab .any ops.toList []) rest sok (listed.setIfInBounds i true)) = true := ho
      simp only [Bool.and_eq_true] at ho
      obtain ⟨⟨⟨⟨o2, o3⟩, o4⟩, oB⟩, o5⟩ := ho
      have oB : altB rest = false := by simpa using oB
      obtain ⟨v, T', hy, hT', hk⟩ := vhFst_val ok hN hT h
      have hri : i ∈ Region.ready .any ops listed := by simpa using o4
      refine wpAnyN_pure hi (Region.noSelect_spec hsel) (fun c a w hq => by cases hq.1) fuel listed a w (Region.free_spec hi o3) hri hy (by simp only [o2, Bool.not_true]) hS2 ?_
      exact (vhOrd_sound ok hSS hsel rest sok fuel _ _ T' w (by rw [size_put, hN]) (by rw [defers_put, hd]) hT' (closed_set hc hri) o5 hf' hS hS2 hk).1 oB
    · exact h.elim
  | .act i rest, sok, fuel + 1, listed, a, T, w, hN, hd, hT, hc, ho, hf, hS, hS2, h => by
    refine ⟨fun _ => ?_, fun k hk => (by cases hk)⟩
    have h : (match opAt ops.toList i with
      | some o => vhAct P G S S2 N (inL ex i) ops.toList o (vhOrd P G S S2 N ex ops.toList Q rest) T w
      | none => False) := h
    rw [opAt_eq] at h
    have hf' : rest.len ≤ fuel := by simpa [OT.len] using hf
    split at h
    · rename_i o hio
      have hi : ops[i]? = some o := by rw [← Array.getElem?_toList]; exact hio
      have ho : ((sok || ex.contains i) && (Region.ready .any ops listed == [i]) && !altB rest && ordOk ops ex (dTab .any ops.toList []) rest (sok && !ex.contains i) (listed.setIfInBounds i true)) = true := ho
      simp only [Bool.and_eq_true, Bool.or_eq_true, beq_iff_eq] at ho
      obtain ⟨⟨⟨o1, o2⟩, oB⟩, o3⟩ := ho
      have oB : altB rest = false := by simpa using oB
      have hri : i ∈ Region.ready .any ops listed := by rw [o2]; simp
      refine wpAnyN_all o2 (by simp) (fun k hk => ?_)
      rw [show k = i by simpa using hk]
      refine vhAct_sound ok hSS hi hN hd hT (fun hx => hS ?_) hS2 (fun a' T' w' k1 k2 k3 k4 k6 k5 => ?_) h
      · rcases o1 with o1 | o1
        · exact o1
        · rw [o1] at hx; cases hx
      · exact (vhOrd_sound ok hSS hsel rest _ fuel _ a' T' w' k1 k2 k3 (closed_set hc hri) o3 hf' (fun hx => k4 (by simp only [Bool.and_eq_true] at hx; exact hx.2)) k6 k5).1 oB
    · exact h.elim
  | .alts u, sok, fuel + 1, listed, a, T, w, hN, hd, hT, hc, ho, hf, hS, hS2, h => by
    refine ⟨fun _ => ?_, fun k hk => (by cases hk)⟩
    have h : vhOrd P G S S2 N ex ops.toList Q u T w := h
    have hf' : u.len ≤ fuel := by simpa [OT.len] using hf
    have ho : ((Region.ready .any ops listed == altIds u) && !(altIds u).isEmpty && ordOk ops ex (dTab .any ops.toList []) u sok listed) = true := ho
    simp only [Bool.and_eq_true, beq_iff_eq] at ho
    obtain ⟨⟨o1, o2⟩, o3⟩ := ho
    refine wpAnyN_all o1 (by intro h0; rw [h0] at o2; simp at o2) (fun k hk => ?_)
    exact (vhOrd_sound ok hSS hsel u sok fuel listed a T w hN hd hT hc o3 hf' hS hS2 h).2 k hk (by rw [o1]; exact hk)
  | .alt i t u, sok, fuel, listed, a, T, w, hN, hd, hT, hc, ho, hf, hS, hS2, h => by
    refine ⟨fun h => (by cases h), fun k hk hrk => ?_⟩
    have h : (match opAt ops.toList i with
      | some o => EBoth (vhAct P G S S2 N (inL ex i) ops.toList o (vhOrd P G S S2 N ex ops.toList Q t) T w) (vhOrd P G S S2 N ex ops.toList Q u T w)
      | none => False) := h
    rw [opAt_eq] at h
    have hf1 : t.len ≤ fuel := by simp only [OT.len] at hf; omega
    have hf2 : u.len ≤ fuel := by simp only [OT.len] at hf; omega
    have ho : ((sok || ex.contains i) && !altB t && ordOk ops ex (dTab .any ops.toList []) t (sok && !ex.contains i) (listed.setIfInBounds i true) && ordOk ops ex (dTab .any ops.toList []) u sok listed) = true := ho
    simp only [Bool.and_eq_true, Bool.or_eq_true] at ho
    obtain ⟨⟨⟨o1, oB⟩, o3⟩, o4⟩ := ho
    have oB : altB t = false := by simpa using oB
    split at h
    · rename_i o hio
      have hi : ops[i]? = some o := by rw [← Array.getElem?_toList]; exact hio
      rcases List.mem_cons.1 (show k ∈ i :: altIds u from hk) with rfl | hk'
      · refine vhAct_sound ok hSS hi hN hd hT (fun hx => hS ?_) hS2 (fun a' T' w' k1 k2 k3 k4 k6 k5 => ?_) h.out.1
        · rcases o1 with o1 | o1
          · exact o1
          · rw [o1] at hx; cases hx
        · exact (vhOrd_sound ok hSS hsel t _ fuel _ a' T' w' k1 k2 k3 (closed_set hc hrk) o3 hf1 (fun hx => k4 (by simp only [Bool.and_eq_true] at hx; exact hx.2)) k6 k5).1 oB
      · exact (vhOrd_sound ok hSS hsel u sok fuel listed a T w hN hd hT hc o4 hf2 hS hS2 h.out.2).2 k hk' hrk
    · exact h.elim

/-- cells that nothing in the region writes -/
def CellsAre (w : World) : List (Addr × Value) → Prop
  | [] => True
  | (a, v) :: l => w.cell? a = some v ∧ CellsAre w l
theorem CellsAre.ext {w w' : World} (hu : Ext w w') : ∀ {l : List (Addr × Value)}, CellsAre w l → CellsAre w' l
  | [], _ => trivial
  | (a, v) :: l, ⟨h1, h2⟩ => ⟨by rw [cell_keep (hu.block _ (cell_some_lt h1) (by simp))]; exact h1, h2.ext hu⟩
theorem CellsAre.get {w : World} : ∀ {l : List (Addr × Value)} (j : Nat) {a : Addr} {v : Value}, l[j]? = some (a, v) → CellsAre w l → w.cell? a = some v
  | [], j, _, _, h, _ => by simp at h
  | (a, v) :: l, 0, _, _, h, hc => by
    simp only [List.getElem?_cons_zero, Option.some.injEq, Prod.mk.injEq] at h
    obtain ⟨rfl, rfl⟩ := h
    exact hc.1
  | x :: l, j + 1, _, _, h, hc => CellsAre.get (l := l) j (by simpa using h) hc.2
/-- A REGION THAT DRAWS ITS ORDER: what only reads is taken first; what makes memory comes up alone; what writes (ex) waits for all that reads. -/
theorem heldX {N id : Nat} {ops : Array Oper} {Q : Exit → FrL → World → Prop} {T : FrL} {w w0 : World} {F : List Nat} {S0 : Nat → Prop} {Γ : List Ent} (H : Cx w0 F S0 w Γ) (ex : List Nat) (ord : OT) (hm : P.follows .mixedOrders = true) (cs : List (Addr × Value)) (hcs : CellsAre w cs)
    (hB : (Region.noSelect ops && Nat.ble ord.len ops.size && !altB ord && ordOk ops ex (dTab .any ops.toList []) ord true (Array.replicate ops.size false)) = true)
    (h : ∀ w1, Cx w0 F S0 w1 Γ → vhOrd P G (Ext w1) (fun w' => CellsAre w' cs) N ex ops.toList (Q .normal) ord T w1) : EDraw P G N id ops Q T w := by
  simp only [Bool.and_eq_true] at hB
  refine ⟨fun ok => ⟨fun a hd hN hfr => ?_⟩⟩
  refine Code.wp_mono (Q := fun e a w => e = .normal ∧ a.defers = [] ∧ a.tmps.size = N ∧ ∃ T, get T = fr a ∧ Q .normal T w) ?_ (wp_region_any hm (wpAny_of_N (S := Ext (w.drewN 1)) (S2 := fun w' => CellsAre w' cs) (N := fun i => !ex.contains i) _ _ _ _ ?_))
  · rintro e a w ⟨rfl, h1, h2, T, h3, h4⟩
    exact ⟨h1, h2, T, h3, h4⟩
  · have h0 : CellsAre (w.drewN 1) cs := hcs.ext (ext_drewN w 1)
    refine (vhOrd_sound (S := Ext (w.drewN 1)) (S2 := fun w' => CellsAre w' cs) (Q := Q .normal) ok (fun w' hu => h0.ext hu) hB.1.1.1 ord true _ _ a T _ hN hd hfr ?_ hB.2 (Nat.le_of_ble_eq_true hB.1.1.2) (fun _ => Upd.refl _ _) h0 (h (w.drewN 1) (H.drewN 1))).1 (by simpa using hB.1.2)
    intro j o ho hl
    have : (Array.replicate ops.size false).getD j false = false := by simp [Array.getD]
    rw [this] at hl; cases hl
end
section
variable {P : Program} {S : World → Prop} {w : World}
theorem loadH {a : Addr} {v : Value} {K : Value → Prop} (hc : ∀ w, S w → w.cell? a = some v) (h : K v) : EHLoad (.pointer (some a)) S K := by refine .mk ?_; exact ⟨a, v, rfl, hc, h⟩
/-- in a drawn region: what was there at its start is there -/
theorem load1X {a : Addr} {v : Value} {K : Value → Prop} (hc : w.cell? a = some v) (h : K v) : EHLoad (.pointer (some a)) (Ext w) K :=
  loadH (fun w' hu => by rw [cell_keep (hu.block _ (cell_some_lt hc) (by simp))]; exact hc) h
theorem load1W {cs : List (Addr × Value)} {a : Addr} {v : Value} {K : Value → Prop} (j : Nat) (hj : cs[j]? = some (a, v)) (h : K v) : EHLoad (.pointer (some a)) (fun w' => CellsAre w' cs) K :=
  loadH (fun _ hc => hc.get j hj) h
def AtCells (l : List (Addr × Value)) (j : Nat) (a : Addr) : List Value → Nat → Prop
  | [], _ => True
  | v :: vs, k => l[j + k]? = some (a.add k, v) ∧ AtCells l j a vs (k + 1)
theorem AtCells.get {l : List (Addr × Value)} {j : Nat} {a : Addr} {w : World} (hw : CellsAre w l) : ∀ {vs : List Value} {k : Nat}, AtCells l j a vs k → ∀ i u, vs[i]? = some u → w.cell? (a.add (k + i)) = some u
  | [], _, _, i, u, h => by simp at h
  | v :: vs, k, h, 0, u, hu => by
    simp only [List.getElem?_cons_zero, Option.some.injEq] at hu
    subst hu
    exact CellsAre.get _ h.1 hw
  | v :: vs, k, h, i + 1, u, hu => by
    have := AtCells.get hw h.2 i u (by simpa using hu)
    rw [show k + (i + 1) = k + 1 + i by omega]; exact this
theorem loadNX {sz : Nat} {a : Addr} {K : Value → Prop} (cs : List Value) (hl : cs.length = sz) (hc : ∀ j u, cs[j]? = some u → w.cell? (a.add j) = some u) (h : K (.agg cs.toArray)) : EHLoadN sz (.pointer (some a)) (Ext w) K :=
  .mk ⟨a, cs, rfl, hl, fun w' hu j u hj => by
    have := hc j u hj
    rw [cell_keep (hu.block _ (cell_some_lt this) (by simp))]; exact this, h⟩
/-- a rule for the world at hand serves in every world that meets S, where its value names no world -/
theorem anyH {s : Sem Value} {v : Value} {K : Value → Prop} (hr : ∀ w, ERun P s w fun u w' => u = v ∧ w' = w) (hk : K v) : EHAny P S s K := by
  refine .mk ?_
  refine ⟨v, fun w _ => ?_, hk⟩
  obtain ⟨u, w', h1, rfl, rfl⟩ := (hr w).out
  exact h1
end
end Go.Proofs.YtnlbhdepagkjgaaDoor.RW
