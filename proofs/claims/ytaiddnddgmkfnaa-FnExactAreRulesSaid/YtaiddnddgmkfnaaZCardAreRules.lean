/-
  The card of the law of AreRules: the row's reading, the walk, the tie. No condition of its own. Printed by a program (wip/y/card.py).
-/
import Derived.Test.YtaiddnddgmkfnaaZCall4
import Derived.Test.YtaiddnddgmkfnaaZLawAreRules
import Derived.Test.YtaiddnddgmkfnaaZCardS
import Derived.Test.YtaiddnddgmkfnaaZFactAreRules
import Derived.Test.YtaiddnddgmkfnaaRows
import Derived.WalkKit
import Derived.ProofKit
import Derived.OpenShut
import Derived.Deep.DeepHandedRow
import Derived.Lib.LaidTab
namespace Go.Proofs.Ytaiddnddgmkfnaa.fnExactAreRules
open Go Go.ChangeShapes Go.WideShapes Go.ChangeAt Go.RowKit Go.Proofs.Ytaiddnddgmkfnaa.RW
theorem own : ownKnob Try.prog.godebug = none := by kernel_rfl
set_option maxRecDepth 20000 in
theorem contract (H : Type) (enc : TypeId × Value → H) (W : World) (base : Nat) (args : Array Value) (ds gs : List (DataW H)) (before : List MemPlace)
    (hval : ∀ (j : Nat) t v, Try.f3.params[j]? = some t → args[j]? = some v → Value.okWide Try.prog W .any base t v)
    (hW : DataW.Whole enc Try.prog Try.f3.params.toList Rows.fnExactAreRulesSpec.vars false W args.toList ds gs before) :
    Calls Try.prog 3 args W fun e W' => ∃ v, e = .returned v ∧ Rows.fnExactAreRulesSpec.post enc Try.prog Try.f3 false true false false W args v W' := by
  have hW' := hW
  obtain ⟨p, q, hA0, hV, rfl, hfz, hnd⟩ := hW
  have hA : DataW.TrodAll enc Try.prog W 0 (fun _ => true) true Try.f3.params.toList args.toList ds p := hA0
  rw [Try.params3] at hA hval
  obtain ⟨v0, vs0, d0, ds0, p0, q0, hargs, rfl, rfl, h0, rr0⟩ := trodAll_cons hA
  obtain ⟨rfl, rfl, rfl⟩ := trodAll_nil rr0
  obtain rfl : args = #[v0] := by cases args; simp_all
  obtain rfl : gs = [] := by
    cases gs with
    | nil => rfl
    | cons _ _ => exact False.elim hV
  obtain ⟨x0, g0, rfl, r0, i0⟩ := opens_slice Try.underlying22 (opens_list Try.underlying22 (by kernel_rfl) (by decide) (opens_struct Try.underlying34 (by kernel_rfl) (opensF_cons rfl (by kernel_rfl) (opens_string Try.underlying9) (opensF_cons rfl (by kernel_rfl) (opens_struct Try.underlying32 (by kernel_rfl) (opensF_one rfl (by kernel_rfl) (opens_list Try.underlying30 (by kernel_rfl) (by decide) (opens_struct Try.underlying69 (by kernel_rfl) (opensF_cons rfl (by kernel_rfl) (opens_int Try.underlying3) (opensF_cons rfl (by kernel_rfl) (opens_int Try.underlying3) (opensF_one rfl (by kernel_rfl) (opens_string Try.underlying9)))))))) (opensF_one rfl (by kernel_rfl) (opens_struct Try.underlying32 (by kernel_rfl) (opensF_one rfl (by kernel_rfl) (opens_list Try.underlying30 (by kernel_rfl) (by decide) (opens_struct Try.underlying69 (by kernel_rfl) (opensF_cons rfl (by kernel_rfl) (opens_int Try.underlying3) (opensF_cons rfl (by kernel_rfl) (opens_int Try.underlying3) (opensF_one rfl (by kernel_rfl) (opens_string Try.underlying9))))))))))))) (hval 0 22 v0 rfl rfl) h0
  have hc := laws_FnExactAreRules_c x0 g0 true (lawN_AreRules x0 i0)
  refine (law_fin hc ⟨⟨rfl, r0⟩, trivial⟩).mono fun e W' ⟨he, hg⟩ => ?_
  subst he
  exact ⟨_, rfl, post_true hW' rfl (by kernel_rfl : Try.f3.resultTypes = #[4]) Try.underlying4 (by kernel_rfl) (by kernel_rfl) (by kernel_rfl) hg⟩
noncomputable def laidWorld (os : Os) : World := World.holding Try.prog os ⟨#[], #[], []⟩
def wit : Array Value := #[.slice none 0 0]
theorem laid_met (os : Os) : laidMetH Try.prog Rows.fnExactAreRulesRow.laid ((laidWorld os).forCall (fun _ _ => 0) ⟨#[], wit, []⟩).memory := laidMetH_nil _ _
theorem reads (os : Os) {H : Type} (enc : TypeId × Value → H) : DataW.whole enc Try.prog ((laidWorld os).forCall (fun _ _ => 0) ⟨#[], wit, []⟩).memory Try.f3.params.toList Rows.fnExactAreRulesSpec.vars false wit.toList 8 = some ([.nil], [], []) := by kernel_rfl
set_option maxRecDepth 100000 in
theorem lifted (os : Os) (started : os.Started) (H : Type) (enc : TypeId × Value → H) (F : Stop.Interp) :
    ReturnsInHanded {} Try.checked os 3 .any ((OpenSpec.ofChange Rows.fnExactAreRulesSpec).preRow enc Try.prog Try.f3 Rows.fnExactAreRulesRow.domain false Rows.fnExactAreRulesRow.laid) (((OpenSpec.ofChange Rows.fnExactAreRulesSpec).at F).post enc Try.prog Try.f3 false true false false) := by
  refine returnsInHanded_of_row (C := Try.checked) (s := OpenSpec.ofChange Rows.fnExactAreRulesSpec) own started (by kernel_rfl) Try.func3
    (witness_row_at (enc := enc) (C := Try.checked) false (laidWorld os) wit rfl (by kernel_rfl) (by kernel_rfl) (by kernel_rfl)
      (OpenSpec.preRow_of_cond 8 (reads os enc) (by kernel_rfl) (fun k hk => by cases hk) (by kernel_rfl) (laid_met os))) ?_
  intro W base args ds gs before hval hW _ _ _ hL _ _
  exact contract H enc W base args ds gs before hval hW
theorem said : Rows.FnExactAreRulesSaid :=
  OpenClaim.holds_of_cond 3 Try.f3 rfl rfl rfl rfl rfl rfl rfl ⟨rfl, rfl, rfl, rfl, rfl⟩ rfl rfl rfl rfl rfl (by kernel_rfl) Try.func3 facts
    (of_decide_eq_true (by kernel_rfl)) (by unfold Func.isWrapper; first | (rw [if_pos (by decide +kernel)]; kernel_rfl) | (rw [if_neg (by decide +kernel)]; exact ⟨rfl, rfl⟩))
    (fun os started H enc _ F => by rw [OpenClaim.pre_eq_preRow]; exact lifted os started H enc F)
end Go.Proofs.Ytaiddnddgmkfnaa.fnExactAreRules
