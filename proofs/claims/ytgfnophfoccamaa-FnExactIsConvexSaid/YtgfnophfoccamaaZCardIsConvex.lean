/-
  The card of the law of IsConvex: the row's reading, the walk, the tie. No condition of its own. Printed by a program (wip/y/card.py).
-/
import Derived.Test.YtgfnophfoccamaaZCall2
import Derived.Test.YtgfnophfoccamaaZLawIsConvex
import Derived.Test.YtgfnophfoccamaaZCard
import Derived.Test.YtgfnophfoccamaaZFactIsConvex
import Derived.Test.YtgfnophfoccamaaRows
import Derived.WalkKit
import Derived.ProofKit
import Derived.OpenShut
import Derived.Deep.DeepHandedRow
import Derived.Lib.LaidTab
namespace Go.Proofs.Ytgfnophfoccamaa.fnExactIsConvex
open Go Go.ChangeShapes Go.WideShapes Go.ChangeAt Go.RowKit Go.Proofs.Ytgfnophfoccamaa.RW
theorem own : ownKnob Try.prog.godebug = none := by kernel_rfl
set_option maxRecDepth 20000 in
theorem contract (H : Type) (enc : TypeId × Value → H) (W : World) (base : Nat) (args : Array Value) (ds gs : List (DataW H)) (before : List MemPlace)
    (hval : ∀ (j : Nat) t v, Try.f7.params[j]? = some t → args[j]? = some v → Value.okWide Try.prog W .any base t v)
    (hW : DataW.Whole enc Try.prog Try.f7.params.toList Rows.fnExactIsConvexSpec.vars false W args.toList ds gs before) :
    Calls Try.prog 7 args W fun e W' => ∃ v, e = .returned v ∧ Rows.fnExactIsConvexSpec.post enc Try.prog Try.f7 false true false false W args v W' := by
  have hW' := hW
  obtain ⟨p, q, hA0, hV, rfl, hfz, hnd⟩ := hW
  have hA : DataW.TrodAll enc Try.prog W 0 (fun _ => true) true Try.f7.params.toList args.toList ds p := hA0
  rw [Try.params7] at hA hval
  obtain ⟨v0, vs0, d0, ds0, p0, q0, hargs, rfl, rfl, h0, rr0⟩ := trodAll_cons hA
  obtain ⟨v1, vs1, d1, ds1, p1, q1, rfl, rfl, rfl, h1, rr1⟩ := trodAll_cons rr0
  obtain ⟨v2, vs2, d2, ds2, p2, q2, rfl, rfl, rfl, h2, rr2⟩ := trodAll_cons rr1
  obtain ⟨rfl, rfl, rfl⟩ := trodAll_nil rr2
  obtain rfl : args = #[v0, v1, v2] := by cases args; simp_all
  obtain rfl : gs = [] := by
    cases gs with
    | nil => rfl
    | cons _ _ => exact False.elim hV
  obtain ⟨x0, g0, rfl, r0, i0⟩ := opens_struct_arg Try.underlying25 (opens_struct Try.underlying25 (by kernel_rfl) (opensF_cons rfl (by kernel_rfl) (opens_int Try.underlying3) (opensF_cons rfl (by kernel_rfl) (opens_list Try.underlying22 (by kernel_rfl) (by decide) (opens_struct Try.underlying93 (by kernel_rfl) (opensF_cons rfl (by kernel_rfl) (opens_int Try.underlying3) (opensF_cons rfl (by kernel_rfl) (opens_int Try.underlying3) (opensF_cons rfl (by kernel_rfl) (opens_list Try.underlying23 (by kernel_rfl) (by decide) (opens_int Try.underlying3)) (opensF_one rfl (by kernel_rfl) (opens_list Try.underlying23 (by kernel_rfl) (by decide) (opens_int Try.underlying3)))))))) (opensF_cons rfl (by kernel_rfl) (opens_list Try.underlying23 (by kernel_rfl) (by decide) (opens_int Try.underlying3)) (opensF_one rfl (by kernel_rfl) (opens_list Try.underlying23 (by kernel_rfl) (by decide) (opens_int Try.underlying3))))))) (hval 0 25 v0 rfl rfl) h0
  obtain ⟨x0_0, x0_1, x0_2, x0_3⟩ := x0
  obtain ⟨_, g0_1, g0_2, g0_3⟩ := g0
  obtain ⟨_, r0_1, r0_2, r0_3⟩ := r0
  obtain ⟨x1, g1, rfl, r1, i1⟩ := opens_struct_arg Try.underlying25 (opens_struct Try.underlying25 (by kernel_rfl) (opensF_cons rfl (by kernel_rfl) (opens_int Try.underlying3) (opensF_cons rfl (by kernel_rfl) (opens_list Try.underlying22 (by kernel_rfl) (by decide) (opens_struct Try.underlying93 (by kernel_rfl) (opensF_cons rfl (by kernel_rfl) (opens_int Try.underlying3) (opensF_cons rfl (by kernel_rfl) (opens_int Try.underlying3) (opensF_cons rfl (by kernel_rfl) (opens_list Try.underlying23 (by kernel_rfl) (by decide) (opens_int Try.underlying3)) (opensF_one rfl (by kernel_rfl) (opens_list Try.underlying23 (by kernel_rfl) (by decide) (opens_int Try.underlying3)))))))) (opensF_cons rfl (by kernel_rfl) (opens_list Try.underlying23 (by kernel_rfl) (by decide) (opens_int Try.underlying3)) (opensF_one rfl (by kernel_rfl) (opens_list Try.underlying23 (by kernel_rfl) (by decide) (opens_int Try.underlying3))))))) (hval 1 25 v1 rfl rfl) h1
  obtain ⟨x1_0, x1_1, x1_2, x1_3⟩ := x1
  obtain ⟨_, g1_1, g1_2, g1_3⟩ := g1
  obtain ⟨_, r1_1, r1_2, r1_3⟩ := r1
  obtain ⟨x2, g2, rfl, r2, i2⟩ := opens_struct_arg Try.underlying48 (opens_struct Try.underlying48 (by kernel_rfl) (opensF_cons rfl (by kernel_rfl) (opens_list Try.underlying23 (by kernel_rfl) (by decide) (opens_int Try.underlying3)) (opensF_one rfl (by kernel_rfl) (opens_list Try.underlying23 (by kernel_rfl) (by decide) (opens_int Try.underlying3))))) (hval 2 48 v2 rfl rfl) h2
  obtain ⟨x2_0, x2_1⟩ := x2
  obtain ⟨g2_0, g2_1⟩ := g2
  obtain ⟨r2_0, r2_1⟩ := r2
  have hc := laws_FnExactIsConvex_c x0_0 x0_1 g0_1 x0_2 g0_2 x0_3 g0_3 x1_0 x1_1 g1_1 x1_2 g1_2 x1_3 g1_3 x2_0 g2_0 x2_1 g2_1 true (lawN_IsConvex (x0_0, x0_1, x0_2, x0_3) (x1_0, x1_1, x1_2, x1_3) (x2_0, x2_1) i0 i1 i2)
  refine (law_fin hc ⟨⟨rfl, r0_1⟩, ⟨rfl, r0_2⟩, ⟨rfl, r0_3⟩, ⟨rfl, r1_1⟩, ⟨rfl, r1_2⟩, ⟨rfl, r1_3⟩, ⟨rfl, r2_0⟩, ⟨rfl, r2_1⟩, trivial⟩).mono fun e W' ⟨he, hg⟩ => ?_
  subst he
  exact ⟨_, rfl, post_true hW' rfl (by kernel_rfl : Try.f7.resultTypes = #[4]) Try.underlying4 (by kernel_rfl) (by kernel_rfl) (by kernel_rfl) hg⟩
noncomputable def laidWorld (os : Os) : World := World.holding Try.prog os ⟨#[], #[], []⟩
def wit : Array Value := #[.agg #[.int .i64 0, .slice none 0 0, .slice none 0 0, .slice none 0 0], .agg #[.int .i64 0, .slice none 0 0, .slice none 0 0, .slice none 0 0], .agg #[.slice none 0 0, .slice none 0 0]]
theorem laid_met (os : Os) : laidMetH Try.prog Rows.fnExactIsConvexRow.laid ((laidWorld os).forCall (fun _ _ => 0) ⟨#[], wit, []⟩).memory := laidMetH_nil _ _
theorem reads (os : Os) {H : Type} (enc : TypeId × Value → H) : DataW.whole enc Try.prog ((laidWorld os).forCall (fun _ _ => 0) ⟨#[], wit, []⟩).memory Try.f7.params.toList Rows.fnExactIsConvexSpec.vars false wit.toList 8 = some ([.agg [.lit (.int .i64 0), .nil, .nil, .nil], .agg [.lit (.int .i64 0), .nil, .nil, .nil], .agg [.nil, .nil]], [], []) := by kernel_rfl
set_option maxRecDepth 100000 in
theorem lifted (os : Os) (started : os.Started) (H : Type) (enc : TypeId × Value → H) (F : Stop.Interp) :
    ReturnsInHanded {} Try.checked os 7 .any ((OpenSpec.ofChange Rows.fnExactIsConvexSpec).preRow enc Try.prog Try.f7 Rows.fnExactIsConvexRow.domain false Rows.fnExactIsConvexRow.laid) (((OpenSpec.ofChange Rows.fnExactIsConvexSpec).at F).post enc Try.prog Try.f7 false true false false) := by
  refine returnsInHanded_of_row (C := Try.checked) (s := OpenSpec.ofChange Rows.fnExactIsConvexSpec) own started (by kernel_rfl) Try.func7
    (witness_row_at (enc := enc) (C := Try.checked) false (laidWorld os) wit rfl (by kernel_rfl) (by kernel_rfl) (by kernel_rfl)
      (OpenSpec.preRow_of_cond 8 (reads os enc) (by kernel_rfl) (fun k hk => by cases hk) (by kernel_rfl) (laid_met os))) ?_
  intro W base args ds gs before hval hW _ _ _ hL _ _
  exact contract H enc W base args ds gs before hval hW
theorem said : Rows.FnExactIsConvexSaid :=
  OpenClaim.holds_of_cond 7 Try.f7 rfl rfl rfl rfl rfl rfl rfl ⟨rfl, rfl, rfl, rfl, rfl⟩ rfl rfl rfl rfl rfl (by kernel_rfl) Try.func7 facts
    (of_decide_eq_true (by kernel_rfl)) (by unfold Func.isWrapper; first | (rw [if_pos (by decide +kernel)]; kernel_rfl) | (rw [if_neg (by decide +kernel)]; exact ⟨rfl, rfl⟩))
    (fun os started H enc _ F => by rw [OpenClaim.pre_eq_preRow]; exact lifted os started H enc F)
end Go.Proofs.Ytgfnophfoccamaa.fnExactIsConvex
