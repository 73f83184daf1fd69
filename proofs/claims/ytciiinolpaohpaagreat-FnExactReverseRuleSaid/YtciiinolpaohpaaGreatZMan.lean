/-
  Contracts proved by hand, in the form of the printed ones: pad. Condition of each: its partial function yields a value.
-/
import Derived.Test.YtciiinolpaohpaaGreatZEng
import Derived.Test.YtciiinolpaohpaaGreatZOps14
import Derived.Test.YtciiinolpaohpaaGreatZFn
namespace Go.Proofs.YtciiinolpaohpaaGreat
open Go Go.Proofs.YtciiinolpaohpaaGreat.RW
set_option maxRecDepth 100000
set_option linter.unusedVariables false

theorem slices_Clone_impl_Node_impl_Node_c (s_ : List (Int × Int × ByteArray)) (s_h : Hd) (y : List (Int × Int × ByteArray)) (hF : F_slices_Clone_impl_Node_impl_Node s_ = some y) :
    ConF Tryz.prog 63 #[(s_h).v] [Es (List (Int × Int × ByteArray)) s_ s_h] [] (fun v Γ' => ∃ z0 : Hd, v = (z0).v ∧ Γ' = [E (List (Int × Int × ByteArray)) y z0]) := by
  intro w0 S0 fp0 hI hS
  have H : Cx w0 fp0 S0 w0 [Es (List (Int × Int × ByteArray)) s_ s_h] := Cx.start hI hS
  clear hI hS
  refine enterC (args := [_]) gok Tryz.func63 rfl _ rfl rfl rfl ?_
  refine sq ?_
  refine eqNilB gok rfl ?_
  have hr := H.rs (α := List (Int × Int × ByteArray)) 0 rfl
  cases hb : s_h.a.isNone
  · refine lit0 (α := Int × Int × ByteArray) gok rfl rfl H ?_; clear H; intro h6 w5 hx H
    clear hx
    obtain ⟨a8, e, hF9⟩ := bindS hF; clear hF
    replace H := H.frzE (α := Int × Int × ByteArray)
    refine appendSh (α := Int × Int × ByteArray) gok rfl rfl rfl rfl rfl H 0 rfl e ?_; clear e H; intro h11 w10 H
    replace H := H.unSh
    cases hF9
    exact ⟨_, _, rfl, ⟨h11, rfl, rfl⟩, (H.sel [0] rfl).close ⟨cloE, trivial⟩⟩
  · have h0 := nil_of_none hr hb
    subst h0
    have hF : some _ = some y := hF
    obtain rfl := Option.some.inj hF
    replace H := H.nil (α := Int × Int × ByteArray)
    exact ⟨_, _, rfl, ⟨⟨none, 0, 0⟩, rfl, rfl⟩, (H.sel [0] rfl).close ⟨cloE, trivial⟩⟩
end Go.Proofs.YtciiinolpaohpaaGreat
