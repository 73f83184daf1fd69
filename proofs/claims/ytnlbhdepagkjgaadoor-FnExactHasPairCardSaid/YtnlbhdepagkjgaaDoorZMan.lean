/-
  Contracts proved by hand, in the form of the printed ones: pad. Condition of each: its partial function yields a value.
-/
import Derived.Test.YtnlbhdepagkjgaaDoorZEng
import Derived.Test.YtnlbhdepagkjgaaDoorZOps20
import Derived.Test.YtnlbhdepagkjgaaDoorZSort
import Derived.Test.YtnlbhdepagkjgaaDoorZIter
import Derived.Test.YtnlbhdepagkjgaaDoorZFn
namespace Go.Proofs.YtnlbhdepagkjgaaDoor
open Go Go.Proofs.YtnlbhdepagkjgaaDoor.RW
set_option maxRecDepth 100000
set_option linter.unusedVariables false

theorem pad_cells (v : List Int) : (v.take 48).map (Value.int .i64) ++ (List.replicate 48 (Value.int .i64 0)).drop (v.take 48).length = ((v ++ List.replicate 48 0).take 48).map (Value.int .i64) := by
  rw [List.take_append, List.map_append]
  congr 1
  rw [List.length_take, List.drop_replicate, List.take_replicate, List.map_replicate]
  congr 1; omega
theorem pad_len (v : List Int) : (((v ++ List.replicate 48 0).take 48).map (Value.int .i64)).length = 48 := by simp
theorem one_ints : ∀ l : List Int, allOne (l.map (Value.int .i64)) = true
  | [] => rfl
  | _ :: l => one_ints l
theorem impl_pad_c (v_ : List Int) (v_h : Hd) (y : List Int) (hF : F_impl_pad v_ = some y) :
    ConF Tryd.prog 152 #[(v_h).v] [Es (List Int) v_ v_h] [] (fun v Γ' => v = (.agg (arrV y)) ∧ Γ' = []) := by
  intro w0 S0 fp0 hI hS
  have H : Cx w0 fp0 S0 w0 [Es (List Int) v_ v_h] := Cx.start hI hS
  clear hI hS
  refine enterC (args := [_]) gok Tryd.func152 rfl _ rfl rfl rfl ?_
  refine alloc_ gok rfl H ?_; clear H; intro b1 w1 hx H; clear hx
  refine buildA0 gok rfl rfl ?_
  refine alloc_ gok rfl H ?_; clear H; intro b2 w2 hx H; clear hx
  refine stA gok (List.replicate 48 (.int .i64 0)) rfl H rfl rfl rfl ?_; clear H; intro w3 H
  refine slA gok rfl rfl (fun _ => ?_) rfl
  refine copyB gok rfl rfl 48 H rfl (H.rs (α := List Int) 2 rfl) ?_; clear H; intro v4 w4 H
  have hF : some _ = some y := hF
  obtain rfl := Option.some.inj hF
  rw [pad_cells] at H
  have hl := pad_len v_
  have h1 : allOne (((v_ ++ List.replicate 48 0).take 48).map (Value.int .i64)) = true := one_ints _
  refine loadN _ hl (fun j u hj => H.bx 0 rfl hj) ?_
  replace H := H.sel [1, 0, 2] rfl
  refine stA gok _ rfl H hl rfl h1 ?_; clear H; intro w5 H
  refine loadN _ hl (fun j u hj => H.bx 0 rfl hj) ?_
  exact ⟨_, _, rfl, ⟨rfl, rfl⟩, (H.sel [] rfl).close trivial⟩
end Go.Proofs.YtnlbhdepagkjgaaDoor
