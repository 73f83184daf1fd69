/-
  The card of the law of HasPair: the row's reading, the walk, the tie. No condition of its own. Printed by a program (wip/y/card.py).
-/
import Derived.Test.YtnlbhdepagkjgaaDoorZCall
import Derived.Test.YtnlbhdepagkjgaaDoorZLawHasPair
import Derived.Test.YtnlbhdepagkjgaaDoorZCard
import Derived.Test.YtnlbhdepagkjgaaDoorZFactHasPair
import Derived.Test.YtnlbhdepagkjgaaDoorCards
import Derived.Test.YtnlbhdepagkjgaaDoorTie
import Derived.WalkKit
import Derived.ProofKit
import Derived.OpenShut
import Derived.Deep.DeepHandedRow
import Derived.Lib.LaidTab
namespace Go.Proofs.YtnlbhdepagkjgaaDoor.fnExactHasPair
open Go Go.ChangeShapes Go.WideShapes Go.ChangeAt Go.RowKit Go.Proofs.YtnlbhdepagkjgaaDoor.RW
theorem own : ownKnob Tryd.prog.godebug = none := by kernel_rfl
theorem gTab : Tryd.prog.globalNamed "loop.example/g01073/impl.smallPrimes" = some 0 := by kernel_rfl
theorem gTabType : (Tryd.prog.globals[0]?).map (·.type) = some 134 := by kernel_rfl
theorem cellsT : Tryd.prog.cellsOf 134 = 4 := by kernel_rfl
theorem cellsI : Tryd.prog.cellsOf 3 = 1 := by kernel_rfl
theorem table {W : World} (h : laidMetH Tryd.prog Rows.fnExactHasPairRow.laid W) : Lib.TabIs Tryd.prog W "loop.example/g01073/impl.smallPrimes" .i64 [2, 3, 5, 7] := Lib.tabIs_of_head (rest := []) gTab gTabType Tryd.underlying134 Tryd.underlying3 cellsI cellsT h
theorem lay {W : World} (h : laidMetH Tryd.prog Rows.fnExactHasPairRow.laid W) : ∀ j u, [Value.int .i64 2, .int .i64 3, .int .i64 5, .int .i64 7][j]? = some u → W.cell? (Addr.add ⟨0, 0, none⟩ j) = some u := by
  intro j u hj
  rw [Addr.add_lit, Nat.zero_add]
  match j, hj with
  | 0, hj => obtain rfl := Option.some.inj hj; exact (table h).cell gTab 0 (by decide)
  | 1, hj => obtain rfl := Option.some.inj hj; exact (table h).cell gTab 1 (by decide)
  | 2, hj => obtain rfl := Option.some.inj hj; exact (table h).cell gTab 2 (by decide)
  | 3, hj => obtain rfl := Option.some.inj hj; exact (table h).cell gTab 3 (by decide)
  | _ + 4, hj => cases hj
theorem lay_lt {W : World} (h : laidMetH Tryd.prog Rows.fnExactHasPairRow.laid W) : 0 < W.heap.size := by
  have := lay h 0 _ rfl
  rw [Addr.add_lit] at this
  exact cell_some_lt this
set_option maxRecDepth 20000 in
theorem contract (H : Type) (enc : TypeId × Value → H) (W : World) (base : Nat) (args : Array Value) (ds gs : List (DataW H)) (before : List MemPlace)
    (hval : ∀ (j : Nat) t v, Tryd.f8.params[j]? = some t → args[j]? = some v → Value.okWide Tryd.prog W .any base t v)
    (hW : DataW.Whole enc Tryd.prog Tryd.f8.params.toList Rows.fnExactHasPairSpec.vars false W args.toList ds gs before) (hL : laidMetH Tryd.prog Rows.fnExactHasPairRow.laid W) :
    Calls Tryd.prog 8 args W fun e W' => ∃ v, e = .returned v ∧ Rows.fnExactHasPairSpec.post enc Tryd.prog Tryd.f8 false true false false W args v W' := by
  have hW' := hW
  obtain ⟨p, q, hA0, hV, rfl, hfz, hnd⟩ := hW
  have hA : DataW.TrodAll enc Tryd.prog W 0 (fun _ => true) true Tryd.f8.params.toList args.toList ds p := hA0
  rw [Tryd.params8] at hA hval
  obtain ⟨v0, vs0, d0, ds0, p0, q0, hargs, rfl, rfl, h0, rr0⟩ := trodAll_cons hA
  obtain ⟨v1, vs1, d1, ds1, p1, q1, rfl, rfl, rfl, h1, rr1⟩ := trodAll_cons rr0
  obtain ⟨v2, vs2, d2, ds2, p2, q2, rfl, rfl, rfl, h2, rr2⟩ := trodAll_cons rr1
  obtain ⟨v3, vs3, d3, ds3, p3, q3, rfl, rfl, rfl, h3, rr3⟩ := trodAll_cons rr2
  obtain ⟨rfl, rfl, rfl⟩ := trodAll_nil rr3
  obtain rfl : args = #[v0, v1, v2, v3] := by cases args; simp_all
  obtain ⟨_, _, _, _, dg, _, rfl, _⟩ := trodVars_one hV
  obtain ⟨x0, rfl, i0⟩ := opens_int_arg Tryd.underlying3 (hval 0 3 v0 rfl rfl) h0
  obtain ⟨x1, g1, rfl, r1, i1⟩ := opens_struct_arg Tryd.underlying57 (opens_struct Tryd.underlying57 (by kernel_rfl) (opensF_cons rfl (by kernel_rfl) (opens_int Tryd.underlying3) (opensF_cons rfl (by kernel_rfl) (opens_int Tryd.underlying3) (opensF_one rfl (by kernel_rfl) (opens_list Tryd.underlying22 (by kernel_rfl) (by decide) (opens_list Tryd.underlying47 (by kernel_rfl) (by decide) (opens_int Tryd.underlying3))))))) (hval 1 57 v1 rfl rfl) h1
  obtain ⟨x1_0, x1_1, x1_2⟩ := x1
  obtain ⟨_, _, g1_2⟩ := g1
  obtain ⟨_, _, r1_2⟩ := r1
  obtain ⟨x2, g2, rfl, r2, i2⟩ := opens_slice Tryd.underlying47 (opens_list Tryd.underlying47 (by kernel_rfl) (by decide) (opens_int Tryd.underlying3)) (hval 2 47 v2 rfl rfl) h2
  obtain ⟨x3, g3, rfl, r3, i3⟩ := opens_slice Tryd.underlying47 (opens_list Tryd.underlying47 (by kernel_rfl) (by decide) (opens_int Tryd.underlying3)) (hval 3 47 v3 rfl rfl) h3
  have hc := laws_FnExactHasPair_c x0 x1_0 x1_1 x1_2 g1_2 x2 g2 x3 g3 true (lawN_HasPair x0 (x1_0, x1_1, x1_2) x2 x3 i0 i1 i2 i3)
  refine (law_fin hc ⟨⟨rfl, r1_2⟩, ⟨rfl, r2⟩, ⟨rfl, r3⟩, gl_given (lay_lt hL) (lay hL), trivial⟩).mono fun e W' ⟨he, hg⟩ => ?_
  subst he
  exact ⟨_, rfl, post_true hW' rfl (by kernel_rfl : Tryd.f8.resultTypes = #[4]) Tryd.underlying4 (by kernel_rfl) (by kernel_rfl) (by kernel_rfl) hg⟩
noncomputable def laidWorld (os : Os) : World :=
  { World.holding Tryd.prog os ⟨#[], #[], []⟩ with heap := (World.holding Tryd.prog os ⟨#[], #[], []⟩).heap.modify 0 fun
      | .cells _ t frozen => .cells #[.int .i64 2, .int .i64 3, .int .i64 5, .int .i64 7] t frozen
      | o => o }
def wit : Array Value := #[.int .i64 0, .agg #[.int .i64 0, .int .i64 0, .slice none 0 0], .slice none 0 0, .slice none 0 0]
theorem laid_met (os : Os) : laidMet Tryd.prog Rows.fnExactHasPairRow.laid ((laidWorld os).forCall (fun _ _ => 0) ⟨#[], wit, []⟩).memory :=
  laidMet_of_run' 8 (by kernel_rfl) (by kernel_rfl)
theorem reads (os : Os) {H : Type} (enc : TypeId × Value → H) : DataW.whole enc Tryd.prog ((laidWorld os).forCall (fun _ _ => 0) ⟨#[], wit, []⟩).memory Tryd.f8.params.toList Rows.fnExactHasPairSpec.vars false wit.toList 8 = some ([.lit (.int .i64 0), .agg [.lit (.int .i64 0), .lit (.int .i64 0), .nil], .nil, .nil], [.agg [.lit (.int .i64 2), .lit (.int .i64 3), .lit (.int .i64 5), .lit (.int .i64 7)]], MemPlace.row ⟨0, 0, none⟩ 4) := by kernel_rfl
set_option maxRecDepth 100000 in
theorem lifted (os : Os) (started : os.Started) (H : Type) (enc : TypeId × Value → H) (F : Stop.Interp) :
    ReturnsInHanded {} Tryd.checked os 8 .any ((OpenSpec.ofChange Rows.fnExactHasPairSpec).preRow enc Tryd.prog Tryd.f8 Rows.fnExactHasPairRow.domain false Rows.fnExactHasPairRow.laid) (((OpenSpec.ofChange Rows.fnExactHasPairSpec).at F).post enc Tryd.prog Tryd.f8 false true false false) := by
  refine returnsInHanded_of_row (C := Tryd.checked) (s := OpenSpec.ofChange Rows.fnExactHasPairSpec) own started (by kernel_rfl) Tryd.func8
    (witness_row_at (enc := enc) (C := Tryd.checked) false (laidWorld os) wit rfl (by kernel_rfl) (by kernel_rfl) (by kernel_rfl)
      (OpenSpec.preRow_of_cond 8 (reads os enc) (by kernel_rfl) (fun k hk => by cases hk) (by kernel_rfl) (laid_met os))) ?_
  intro W base args ds gs before hval hW _ _ _ hL _ _
  exact contract H enc W base args ds gs before hval hW hL
theorem said : Rows.FnExactHasPairSaid :=
  OpenClaim.holds_of_cond 8 Tryd.f8 rfl rfl rfl rfl rfl rfl rfl ⟨rfl, rfl, rfl, rfl, rfl⟩ rfl rfl rfl rfl rfl (by kernel_rfl) Tryd.func8 facts
    (of_decide_eq_true (by kernel_rfl)) (by unfold Func.isWrapper; first | (rw [if_pos (by decide +kernel)]; kernel_rfl) | (rw [if_neg (by decide +kernel)]; exact ⟨rfl, rfl⟩))
    (fun os started H enc _ F => by rw [OpenClaim.pre_eq_preRow]; exact lifted os started H enc F)
theorem plain (f : FuncId) (fn : Func) (hf : Tryd.pinned.checked.prog.funcNamed "loop.example/g01073/laws.FnExactHasPair" = some f) (hfn : Tryd.pinned.checked.prog.funcs[f]? = some fn) :
    false = Tryd.pinned.checked.prog.looks [] ∧ ∀ (j : Nat) t, fn.params[j]? = some t → Tryd.pinned.checked.prog.wantsStandIn t = false := by
  obtain rfl : f = 8 := Option.some.inj ((show Tryd.prog.funcNamed "loop.example/g01073/laws.FnExactHasPair" = some 8 by kernel_rfl).symm.trans hf) |>.symm
  obtain rfl : fn = Tryd.f8 := (Option.some.inj (Tryd.func8.symm.trans hfn)).symm
  exact ⟨by kernel_rfl, plain_all (P := Tryd.prog) (by kernel_rfl)⟩
/-- THE CARD -/
theorem card : Rows.FnExactHasPairCardSaid :=
  Claim7.holds_tied_plain_at .later [] _ _ _ _ said (fun _ h => by cases h) (by kernel_rfl) (fun _ h => by cases h) fnExactHasPair_row_tie rfl ⟨rfl, rfl⟩ (by kernel_rfl) rfl plain (by kernel_rfl)
end Go.Proofs.YtnlbhdepagkjgaaDoor.fnExactHasPair
