/-
  Contracts proved by hand, in the form of the printed ones: pad. Condition of each: its partial function yields a value.
-/
import Derived.Test.YtmchibapkddniaaGreatZEng
import Derived.Test.YtmchibapkddniaaGreatZOps19
import Derived.Test.YtmchibapkddniaaGreatZFn
namespace Go.Proofs.YtmchibapkddniaaGreat
open Go Go.Proofs.YtmchibapkddniaaGreat.RW
set_option maxRecDepth 100000
set_option linter.unusedVariables false

theorem slices_Grow_impl_Node_impl_Node_c (n_ : Int) (y : List (Int × Int × ByteArray)) (hF : F_slices_Grow_impl_Node_impl_Node n_ = some y) :
    ConF Tryz.prog 106 #[.slice none 0 0, .int .i64 n_] [] [] (fun v Γ' => ∃ z0 : Hd, v = (z0).v ∧ Γ' = [E (List (Int × Int × ByteArray)) y z0]) := by
  unfold F_slices_Grow_impl_Node_impl_Node at hF
  split at hF
  case isFalse => cases hF
  rename_i h0
  obtain rfl := Option.some.inj hF
  obtain ⟨m, rfl⟩ := Int.eq_ofNat_of_zero_le h0.1
  have c0 : cI (0 - ((0 : Nat) : Int)) = some 0 := rfl
  have c1 : cI ((m : Int) - 0) = some (m : Int) := by
    unfold cI
    rw [if_pos (by unfold inI; omega), Int.sub_zero]
  intro w0 S0 fp0 hI hS
  have H : Cx w0 fp0 S0 w0 [] := Cx.start hI hS
  clear hI hS
  refine enterC (args := [_, _]) gok Tryz.func106 rfl _ rfl rfl rfl ?_
  refine sq ?_
  refine boolE (z := false) (decide_eq_false (by omega)) ?_
  refine sq ?_
  refine cap0 gok rfl ?_
  refine lenE (m := 0) rfl ?_
  refine arO c0 ?_
  refine arO c1 ?_
  by_cases hp : 0 < m
  · refine boolE (z := true) (decide_eq_true (by omega)) ?_
    refine cap0 gok rfl ?_
    refine frontN gok rfl rfl ?_
    refine growZ (α := Int × Int × ByteArray) gok rfl rfl rfl rfl rfl rfl hp (by omega) H ?_; clear H; intro b c w1 H
    refine lenE (m := 0) rfl ?_
    refine front0 gok rfl rfl ?_
    exact ⟨_, _, rfl, ⟨⟨some ⟨b, 0, none⟩, 0, c⟩, rfl, rfl⟩, (H.sel [0] rfl).close ⟨cloE, trivial⟩⟩
  · refine boolE (z := false) (decide_eq_false (by omega)) ?_
    replace H := H.nil (α := Int × Int × ByteArray)
    exact ⟨_, _, rfl, ⟨nilH, rfl, rfl⟩, (H.sel [0] rfl).close ⟨cloE, trivial⟩⟩
end Go.Proofs.YtmchibapkddniaaGreat
