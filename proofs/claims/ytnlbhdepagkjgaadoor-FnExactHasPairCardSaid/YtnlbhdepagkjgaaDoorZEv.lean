/-
  The engine's rules for tests, sums, cuts and loops, over partial functions. No condition.
-/
import Derived.Test.YtnlbhdepagkjgaaDoorZRw
import Derived.Test.YtnlbhdepagkjgaaDoorZF
namespace Go.Proofs.YtnlbhdepagkjgaaDoor.RW
open Go

section
variable {P : Program} {G : Eng} {w : World}

theorem boolO {b z : Bool} {K : Value → Prop} (h : some b = some z) (hk : K (.bool z)) : EBool b K := by
  refine .mk ?_; rw [Option.some.inj h]; exact hk
theorem boolE {b z : Bool} {K : Value → Prop} (h : b = z) (hk : K (.bool z)) : EBool b K := by
  refine .mk ?_; rw [h]; exact hk
theorem lenE {n m : Nat} {K : Value → Prop} (h : n = m) (hk : K (.int .i64 m)) : ELen n K := by refine .mk ?_; rw [h]; exact hk
theorem cI_some {x z : Int} (h : cI x = some z) : inI x ∧ x = z := by
  unfold cI at h; split at h
  · exact ⟨‹_›, Option.some.inj h⟩
  · cases h
theorem arO {x z : Int} {K : Value → Prop} (h : cI x = some z) (hk : K (.int .i64 z)) : EAr .i64 x K := by
  obtain ⟨h1, rfl⟩ := cI_some h
  exact ar h1 hk
theorem arK {k n : Nat} {K : Value → Prop} (hk : k < n) (hn : n ≤ 9223372036854775807) (h : K (.int .i64 ((k + 1 : Nat) : Int))) : EAr .i64 ((k : Int) + 1) K :=
  ar (by omega) h
theorem remO_ {a b z : Int} {K : Value → Prop} (h : remO a b = some z) (hk : K (.int .i64 z)) : ERem .i64 a b K := by
  unfold remO at h; split at h
  · cases h
  · obtain rfl := Option.some.inj h; exact rem_ ‹_› hk
theorem quoO_ {a b z : Int} {K : Value → Prop} (h : quoO a b = some z) (hk : K (.int .i64 z)) : EQuo .i64 a b K := by
  unfold quoO at h; split at h
  · cases h
  · obtain ⟨h1, rfl⟩ := cI_some h
    refine .mk ⟨‹_›, ?_⟩
    have : IntKind.i64.wrap (a.tdiv b) = a.tdiv b := IntWalk.i64_in _ h1
    rw [this]; exact hk
theorem idxE {sz n m : Nat} {A : Option Addr} {p : Addr} {i : Int} {K : Value → Prop} (ha : A = some p) (hi : i = (m : Int)) (hm : m < n) (h : K (.pointer (some (p.add (m * sz))))) : EIdx sz A n i K :=
  .mk ⟨p, m, ha, hi, hm, h⟩
theorem loadN {sz : Nat} {a : Addr} {K : Value → Prop} (cs : List Value) (hl : cs.length = sz) (hc : ∀ j u, cs[j]? = some u → w.cell? (a.add j) = some u) (h : K (.agg cs.toArray)) : ELoadN sz (.pointer (some a)) w K :=
  .mk ⟨a, cs, rfl, hl, hc, h⟩

theorem ltLen {k m : Nat} (h : k < m) : decide ((k : Int) < (m : Int)) = true := by simpa using h
theorem geLen {m : Nat} : decide ((m : Int) < (m : Int)) = false := by simp
theorem ltNat {k : Nat} {n : Int} (h : k < n.toNat) : decide ((k : Int) < n) = true := by simp; omega
theorem geNat {n : Int} : decide (((n.toNat : Nat) : Int) < n) = false := by simp; omega
theorem maxI {n : Int} {m : Int} (h : cI n = some m) : n.toNat ≤ 9223372036854775807 := by
  obtain ⟨h1, _⟩ := cI_some h
  unfold inI at h1; omega
/-! ### cuts -/
theorem sq {N : Nat} {x : Code} {K0 : FrL → World → Prop} {Q : Exit → FrL → World → Prop} {T : FrL} (h : vc P G N x (thenK K0 Q) T w) : ESeq P G N x K0 Q T w :=
  ⟨fun ok => ⟨fun a hd hN hT => vc_sound ok x _ a T w hd hN hT h⟩⟩
theorem cut {N : Nat} {x : Code} {K0 : FrL → World → Prop} {Q : Exit → FrL → World → Prop} {T : FrL} {γ : Type} (sl : γ → List (Nat × Value)) (J : γ → World → Prop)
    (h1 : vc P G N x (thenK (fun T' w' => ∃ g, Has T' (sl g) ∧ J g w') Q) T w) (h2 : ∀ T0 g w', J g w' → K0 (ups T0 (sl g)) w') : ESeq P G N x K0 Q T w := by
  refine ⟨fun ok => ⟨fun a hd hN hT => ?_⟩⟩
  refine Code.wp_mono ?_ (vc_sound ok x _ a T w hd hN hT h1)
  rintro e a' w' ⟨k1, k2, T', hT', h3⟩
  refine ⟨k1, k2, ?_⟩
  cases e
  case normal =>
    obtain ⟨g, hH, hJ⟩ := h3
    exact ⟨ups T' (sl g), by rw [ups_eq hH]; exact hT', h2 T' g w' hJ⟩
  all_goals exact ⟨T', hT', h3⟩

/-! ### loops -/
theorem lft_body {N : Nat} {K : FrL → World → Prop} {Q : Exit → FrL → World → Prop} {next : Act → World → Prop} {Qn : Exit → Act → World → Prop}
    (h : ∀ a T w, a.defers = [] → a.tmps.size = N → get T = fr a → K T w → next a w) (hQ : ∀ e a w, Lft N Q e a w → Qn e a w) (e : Exit) (a : Act) (w : World) : Lft N (thenK K Q) e a w → Exit.then next Qn e a w := by
  rintro ⟨h1, h2, T, hT, h3⟩
  cases e <;> first | exact h _ _ _ h1 h2 hT h3 | exact hQ _ _ _ ⟨h1, h2, T, hT, h3⟩

theorem loopS {N : Nat} {b : Code} {Q : Exit → FrL → World → Prop} {T : FrL} {σ γ : Type} {r : σ} (f : Nat → σ → Option σ) (n : Nat) (sl : Nat → σ → γ → List (Nat × Value)) (I : Nat → σ → γ → World → Prop) (s0 : σ) (g0 : γ) (hr : forS f n 0 s0 = some r) (hT : Has T (sl 0 s0 g0)) (h0 : I 0 s0 g0 w) (hb : ∀ (T0 : FrL) (k : Nat) (s : σ) (g : γ) (w' : World) (s' : σ), k < n → I k s g w' → f k s = some s' → vc P G N b (thenK (fun T' w'' => ∃ g', Has T' (sl (k + 1) s' g') ∧ I (k + 1) s' g' w'') Q) (ups T0 (sl k s g)) w') (he : ∀ (T0 : FrL) (g : γ) (w' : World), I n r g w' → vc P G N b (thenK (fun _ _ => False) Q) (ups T0 (sl n r g)) w') : ELoop P G N b Q T w := by
  refine ⟨fun ok => ⟨fun a hd hN hfr => ?_⟩⟩
  refine wp_loop_ghost (fun m a w => a.defers = [] ∧ a.tmps.size = N ∧ ∃ k s g, m + k = n ∧ forS f m k s = some r ∧ Has (frL a) (sl k s g) ∧ I k s g w) n ⟨hd, hN, 0, s0, g0, rfl, hr, has_of hfr hT _ (get_frL a), h0⟩ ?_
  rintro m a w ⟨hd, hN, k, s, g, hmk, hfs, hH, hI⟩
  cases m with
  | zero =>
    obtain rfl : k = n := by omega
    obtain rfl : s = r := Option.some.inj hfs
    refine Code.wp_mono (lft_body (fun a' T' w' h1 h2 hT' h3 => h3.elim) (fun _ _ _ h => h)) (vc_sound ok b _ a _ w hd hN (by rw [ups_eq hH, get_frL]) (he (frL a) g w hI))
  | succ m =>
    obtain ⟨s', h1, h2⟩ := bindS hfs
    refine Code.wp_mono (lft_body (fun a' T' w' k1 k2 hT' h3 => ?_) (fun _ _ _ h => h)) (vc_sound ok b _ a _ w hd hN (by rw [ups_eq hH, get_frL]) (hb (frL a) k s g w s' (by omega) hI h1))
    obtain ⟨g', hH', hI'⟩ := h3
    exact ⟨m, by omega, k1, k2, k + 1, s', g', by omega, h2, has_of hT' hH' _ (get_frL a'), hI'⟩

theorem loopO {N : Nat} {b : Code} {Q : Exit → FrL → World → Prop} {T : FrL} {σ τ γ : Type} {r : σ ⊕ τ} (f : Nat → σ → Option (σ ⊕ τ)) (n : Nat) (sl : Nat → σ → γ → List (Nat × Value)) (I : Nat → σ → γ → World → Prop) (s0 : σ) (g0 : γ) (hr : forO f n 0 s0 = some r) (hT : Has T (sl 0 s0 g0)) (h0 : I 0 s0 g0 w) (hb : ∀ (T0 : FrL) (k : Nat) (s : σ) (g : γ) (w' : World) (o : σ ⊕ τ), k < n → I k s g w' → (∀ t, o = .inr t → r = .inr t) → f k s = some o → vc P G N b (thenK (fun T' w'' => ∃ s' g', o = .inl s' ∧ Has T' (sl (k + 1) s' g') ∧ I (k + 1) s' g' w'') Q) (ups T0 (sl k s g)) w') (he : ∀ (T0 : FrL) (s : σ) (g : γ) (w' : World), r = .inl s → I n s g w' → vc P G N b (thenK (fun _ _ => False) Q) (ups T0 (sl n s g)) w') : ELoop P G N b Q T w := by
  refine ⟨fun ok => ⟨fun a hd hN hfr => ?_⟩⟩
  refine wp_loop_ghost (fun m a w => a.defers = [] ∧ a.tmps.size = N ∧ ∃ k s g, m + k = n ∧ forO f m k s = some r ∧ Has (frL a) (sl k s g) ∧ I k s g w) n ⟨hd, hN, 0, s0, g0, rfl, hr, has_of hfr hT _ (get_frL a), h0⟩ ?_
  rintro m a w ⟨hd, hN, k, s, g, hmk, hfs, hH, hI⟩
  cases m with
  | zero =>
    obtain rfl : k = n := by omega
    have hrs : r = .inl s := (Option.some.inj hfs).symm
    refine Code.wp_mono (lft_body (fun a' T' w' h1 h2 hT' h3 => h3.elim) (fun _ _ _ h => h)) (vc_sound ok b _ a _ w hd hN (by rw [ups_eq hH, get_frL]) (he (frL a) s g w hrs hI))
  | succ m =>
    obtain ⟨o, h1, h2⟩ := bindS hfs
    refine Code.wp_mono (lft_body (fun a' T' w' k1 k2 hT' h3 => ?_) (fun _ _ _ h => h)) (vc_sound ok b _ a _ w hd hN (by rw [ups_eq hH, get_frL]) (hb (frL a) k s g w o (by omega) hI (fun t ht => by subst ht; exact (Option.some.inj h2).symm) h1))
    obtain ⟨s', g', rfl, hH', hI'⟩ := h3
    exact ⟨m, by omega, k1, k2, k + 1, s', g', by omega, h2, has_of hT' hH' _ (get_frL a'), hI'⟩

theorem loopW {N : Nat} {b : Code} {Q : Exit → FrL → World → Prop} {T : FrL} {σ τ γ : Type} {r : τ} (f : σ → Option (σ ⊕ τ)) (sl : σ → γ → List (Nat × Value)) (I : σ → γ → World → Prop) (s0 : σ) (g0 : γ) (hr : whileO f s0 = some r) (hT : Has T (sl s0 g0)) (h0 : I s0 g0 w) (hb : ∀ (T0 : FrL) (s : σ) (g : γ) (w' : World) (o : σ ⊕ τ), I s g w' → (∀ t, o = .inr t → r = t) → f s = some o → vc P G N b (thenK (fun T' w'' => ∃ s' g', o = .inl s' ∧ Has T' (sl s' g') ∧ I s' g' w'') Q) (ups T0 (sl s g)) w') : ELoop P G N b Q T w := by
  refine ⟨fun ok => ⟨fun a hd hN hfr => ?_⟩⟩
  obtain ⟨n, hn⟩ := whileO_iff.1 hr
  refine wp_loop_ghost (fun m a w => a.defers = [] ∧ a.tmps.size = N ∧ ∃ s g, iterO f m s = some r ∧ Has (frL a) (sl s g) ∧ I s g w) n ⟨hd, hN, s0, g0, hn, has_of hfr hT _ (get_frL a), h0⟩ ?_
  rintro m a w ⟨hd, hN, s, g, hfs, hH, hI⟩
  cases m with
  | zero => cases hfs
  | succ m =>
    obtain ⟨o, h1, h2⟩ := bindS hfs
    refine Code.wp_mono (lft_body (fun a' T' w' k1 k2 hT' h3 => ?_) (fun _ _ _ h => h)) (vc_sound ok b _ a _ w hd hN (by rw [ups_eq hH, get_frL]) (hb (frL a) s g w o hI (fun t ht => by subst ht; exact (Option.some.inj h2).symm) h1))
    obtain ⟨s', g', rfl, hH', hI'⟩ := h3
    exact ⟨m, by omega, k1, k2, s', g', h2, has_of hT' hH' _ (get_frL a'), hI'⟩

/-! ### a scope with a label -/

/-! ### the function as a whole: its results lie in slots or in variables -/
def resK (G : Eng) (T : FrL) (w : World) (l : List ResultVar) : (List Value → Prop) → Prop :=
  @List.rec ResultVar (fun _ => (List Value → Prop) → Prop) (fun K => K []) (fun r _ ih K => match r with
    | .tmp t => getK T t fun v => ih fun vs => K (v :: vs)
    | .cell a t => getK T a fun p => match nthO G.tt t with
      | some ⟨k, sz, _, _⟩ => cond (isAggK k) (ELoadN sz p w fun v => ih fun vs => K (v :: vs)) (ELoad p w fun v => ih fun vs => K (v :: vs))
      | none => False) l
def tup : List Value → Value
  | [v] => v
  | l => .tuple l.toArray
def fnKC (G : Eng) (l : List ResultVar) (R : Ending → World → Prop) : Exit → FrL → World → Prop
  | .ret, T, w => resK G T w l fun vs => R (.returned (tup vs)) w
  | .normal, T, w => resK G T w l fun vs => R (.returned (tup vs)) w
  | _, _, _ => False
theorem resK_run {T : FrL} {a : Act} (ok : EngOk P G) (hT : get T = fr a) : ∀ (l : List ResultVar) (K : List Value → Prop), resK G T w l K →
    ∃ vs, (l.mapM (m := Sem) fun | .tmp t => pure (a.tmps.getD t undef) | .cell x t => do loadVar t (← asAddr (a.tmps.getD x undef))).run P w = .ok vs w ∧ vs.length = l.length ∧ K vs
  | [], K, h => ⟨[], by simp, rfl, h⟩
  | .tmp t :: l, K, h => by
    have h : getK T t (fun v => resK G T w l fun vs => K (v :: vs)) := h
    rw [getK_eq] at h
    obtain ⟨vs, h1, h2, h3⟩ := resK_run ok hT l _ h
    refine ⟨_, ?_, ?_, h3⟩
    · rw [List.mapM_cons]; simp only [Sem.run_bind, Sem.run_pure, Result.andThen_ok, h1]
      rw [hT]; rfl
    · simp [h2]
  | .cell x t :: l, K, h => by
    have h : getK T x (fun p => match nthO G.tt t with
      | some ⟨k, sz, _, _⟩ => cond (isAggK k) (ELoadN sz p w fun v => resK G T w l fun vs => K (v :: vs)) (ELoad p w fun v => resK G T w l fun vs => K (v :: vs))
      | none => False) := h
    rw [getK_eq] at h
    split at h
    · rename_i k s b z ht
      have hp : get T x = a.tmps.getD x undef := by rw [hT]; rfl
      have key : ∀ (ad : Addr) (v : Value), get T x = .pointer (some ad) → (Instr.loadAt t (.pointer (some ad))).run P w = .ok v w → (do loadVar t (← asAddr (a.tmps.getD x undef)) : Sem Value).run P w = .ok v w := by
        intro ad v h1 h2
        rw [← hp, h1]
        have h2' : (loadVar t ad).run P w = .ok v w := by simpa [Instr.loadAt, Instr.sureAddr] using h2
        simp [asAddr, h2']
      cases hk : isAggK k
      · rw [hk] at h
        simp only [cond_false] at h
        obtain ⟨ad, v, h1, h2, h3⟩ := h.out
        obtain ⟨vs, h4, h5, h6⟩ := resK_run ok hT l _ h3
        have h7 := key ad v h1 (loadAt_one ok ht hk ad v _ h2)
        refine ⟨v :: vs, ?_, by simp [h5], h6⟩
        rw [List.mapM_cons]
        simp only [Sem.run_bind, Sem.run_pure] at h7 ⊢
        rw [h7]; simp only [Result.andThen_ok, h4]
      · rw [hk] at h
        simp only [cond_true] at h
        obtain ⟨ad, cs, h1, hl, h2, h3⟩ := h.out
        obtain ⟨vs, h4, h5, h6⟩ := resK_run ok hT l _ h3
        have h7 := key ad _ h1 (loadAt_agg ok ht hk ad cs _ hl h2)
        refine ⟨_ :: vs, ?_, by simp [h5], h6⟩
        rw [List.mapM_cons]
        simp only [Sem.run_bind, Sem.run_pure] at h7 ⊢
        rw [h7]; simp only [Result.andThen_ok, h4]
    · exact h.elim
theorem enterC {f : FuncId} {fn : Func} {c : Code} {args : List Value} {R : Ending → World → Prop} {N : Nat} (ok : EngOk P G) (hf : P.funcs[f]? = some fn) (hb : fn.body = some c) (rs : List ResultVar) (hr : fn.results.toList = rs) (hN : fn.ntmps = N) (hn : Nat.ble args.length N = true) (h : vc P G N c (fnKC G rs R) (argL args 0) w) : Calls P f args.toArray w R := by
  subst hN
  have hn' : args.length ≤ fn.ntmps := Nat.le_of_ble_eq_true hn
  have fin : ∀ (a : Act) (T : FrL) (w : World), get T = fr a → resK G T w rs (fun vs => R (.returned (tup vs)) w) → ∃ v, (results fn a.tmps).run P w = .ok v w ∧ R (.returned v) w := by
    intro a T w hT h3
    obtain ⟨vs, h1, h2, h3⟩ := resK_run ok hT _ _ h3
    refine ⟨_, ?_, h3⟩
    have hm : (fn.results.mapM (m := Sem) fun | .tmp t => pure (a.tmps.getD t undef) | .cell x t => do loadVar t (← asAddr (a.tmps.getD x undef))).run P w = .ok vs.toArray w := by
      rw [Array.mapM_eq_mapM_toList, hr]
      simp only [Sem.run_map, h1, Result.andThen_ok]
    unfold results
    rw [Sem.run_bind]
    refine (congrArg (fun r => Result.andThen r _) hm).trans ?_
    clear hm h1 h2 h3
    match vs with
    | [] => rfl
    | [v] => rfl
    | v :: u :: vs => simp [tup]
  refine calls_of_wp hf hb ?_
  refine Code.wp_mono (Q := Lft fn.ntmps (fnKC G rs R)) ?_ (vc_sound ok c _ _ (argL args 0) w rfl (by simp; omega) ?_ h)
  · rintro e a w ⟨h1, h2, T, hT, h3⟩
    cases e <;> first | exact h3.elim | skip
    · obtain ⟨v, h4, h5⟩ := fin a T w hT h3
      exact ⟨h1, v, h4, h5⟩
    · obtain ⟨v, h4, h5⟩ := fin a T w hT h3
      exact ⟨h1, v, h4, h5⟩
  · funext i
    rw [get_argL]
    simp only [fr, Nat.zero_le, if_true, Nat.sub_zero]
    by_cases hi : i < args.length
    · simp [Array.getD, List.getD, hi]
      intro h; omega
    · simp [Array.getD, List.getD, hi]
      intro h
      rw [Array.getElem_append_right (by simpa using hi)]
      simp
end
end Go.Proofs.YtnlbhdepagkjgaaDoor.RW
