/-
  What sorting an empty list does: nothing. Contracts by hand, of the functions of Go's library that are reached. No condition.
-/
import Derived.Test.YtbofgnbanmbopaaGreatDoorZEng
import Derived.Test.YtbofgnbanmbopaaGreatDoorZOps21
namespace Go.Proofs.YtbofgnbanmbopaaGreatDoor
open Go Go.Proofs.YtbofgnbanmbopaaGreatDoor.RW
set_option maxRecDepth 100000
set_option linter.unusedVariables false
theorem cond_some {α : Type} {b : Bool} {x y : α} (h : cond b (some x) none = some y) : b = true ∧ x = y := by
  cases b
  · cases h
  · exact ⟨rfl, Option.some.inj h⟩
theorem kvO_unit : ∀ l : List (Int × Int), kvO (fun (_ : Unit) (_ _ : Int) => some ()) l () = some ()
  | [] => rfl
  | _ :: l => kvO_unit l
theorem convK {P : Program} {G : RW.Eng} {w : World} {K : Value → World → Prop} {k1 k2 : IntKind} {s d s1 b1 s2 b2 : Nat} {z1 z2 : Value} {n m : Int} (ok : EngOk P G) (hs : nthO G.tt s = some ⟨.int k1, s1, b1, z1⟩) (hd : nthO G.tt d = some ⟨.int k2, s2, b2, z2⟩) (h : k2.wrap n = m) (hK : K (.int k2 m) w) : ERun P (convert s d (.int k1 n)) w K := by
  have h1 := und_intK (und_of ok hs)
  have h2 := und_intK (und_of ok hd)
  refine erun_of (v := .int k2 m) (w' := w) ?_ hK
  simp [convert, run_underlying h1, run_underlying h2, Conv.intToInt, h]
theorem geqU {P : Program} {w : World} {K : Value → World → Prop} {t : Nat} {x y : Operand} {a c : Int} (h : a < c) (hK : K (.bool false) w) : ERun P (do eqGuard .geq t x y (.int .u64 a) (.int .u64 c); binOp .geq t (.int .u64 a) (.int .u64 c)) w K := by
  refine erun_of (v := .bool false) (w' := w) ?_ hK
  have : ¬ c ≤ a := by omega
  simp [go_sem, this]
theorem bits_Len64_0 : ConF Tryz.prog 158 #[.int .u64 0] [] [] (fun v Γ' => v = .int .i64 0 ∧ Γ' = []) := by
  intro w0 S0 fp0 hI hS
  have H : Cx w0 fp0 S0 w0 [] := Cx.start hI hS
  clear hI hS
  refine enterC (args := [_]) gok Tryz.func158 rfl _ rfl rfl rfl ?_
  refine sq ?_
  refine geqU (c := 4294967296) (by decide) ?_
  refine sq ?_
  refine geqU (c := 65536) (by decide) ?_
  refine sq ?_
  refine geqU (c := 256) (by decide) ?_
  refine convK (m := 0) gok rfl rfl rfl ?_
  refine indexZ (z := 0) gok rfl (by rfl) ?_
  refine convK (m := 0) gok rfl rfl rfl ?_
  refine arO (z := 0) rfl ?_
  exact ⟨_, _, rfl, ⟨rfl, rfl⟩, (H.sel [] rfl).close trivial⟩
theorem bits_Len_0 : ConF Tryz.prog 143 #[.int .u64 0] [] [] (fun v Γ' => v = .int .i64 0 ∧ Γ' = []) := by
  intro w0 S0 fp0 hI hS
  have H : Cx w0 fp0 S0 w0 [] := Cx.start hI hS
  clear hI hS
  refine enterC (args := [_]) gok Tryz.func143 rfl _ rfl rfl rfl ?_
  refine sq ?_
  refine callF bits_Len64_0 (Γi := []) H trivial ?_; clear H
  rintro _ _ w1 ⟨rfl, rfl⟩ H
  exact ⟨_, _, rfl, ⟨rfl, rfl⟩, (H.sel [] rfl).close trivial⟩
theorem insertionSort_0 (x f : Value) : ConF Tryz.prog 149 #[x, .int .i64 0, .int .i64 0, f] [] [] (fun v Γ' => v = .tuple #[] ∧ Γ' = []) := by
  intro w0 S0 fp0 hI hS
  have H : Cx w0 fp0 S0 w0 [] := Cx.start hI hS
  clear hI hS
  refine enterC (args := [_, _, _, _]) gok Tryz.func149 rfl _ rfl rfl rfl ?_
  refine arO (z := 1) rfl ?_
  refine loop (σ := Unit) (fun _ => [(2, .int .i64 0), (8, .int .i64 1)]) (fun _ w' => Cx w0 fp0 S0 w' []) (fun _ => 0) () ⟨rfl, rfl, trivial⟩ H ?_
  clear H
  rintro T0 _ w1 (H : Cx w0 fp0 S0 w1 [])
  refine sq ?_
  refine boolE (z := false) (rfl : decide ((1 : Int) < 0) = false) ?_
  exact ⟨_, _, rfl, ⟨rfl, rfl⟩, (H.sel [] rfl).close trivial⟩
theorem pdqsort_0 (x l f : Value) : ConF Tryz.prog 142 #[x, .int .i64 0, .int .i64 0, l, f] [] [] (fun v Γ' => v = .tuple #[] ∧ Γ' = []) := by
  intro w0 S0 fp0 hI hS
  have H : Cx w0 fp0 S0 w0 [] := Cx.start hI hS
  clear hI hS
  refine enterC (args := [_, _, _, _, _]) gok Tryz.func142 rfl _ rfl rfl rfl ?_
  refine loop (σ := Unit) (fun _ => [(0, x), (1, .int .i64 0), (2, .int .i64 0), (4, f)]) (fun _ w' => Cx w0 fp0 S0 w' []) (fun _ => 0) () ⟨rfl, rfl, rfl, rfl, trivial⟩ H ?_
  clear H
  rintro T0 _ w1 (H : Cx w0 fp0 S0 w1 [])
  refine arO (z := 0) rfl ?_
  refine sq ?_
  refine boolE (z := true) (rfl : decide ((0 : Int) ≤ 12) = true) ?_
  refine callF (insertionSort_0 x f) (Γi := []) H trivial ?_; clear H
  rintro _ _ w2 ⟨rfl, rfl⟩ H
  exact ⟨_, _, rfl, ⟨rfl, rfl⟩, (H.sel [] rfl).close trivial⟩
theorem sortFunc_0 (h : Hd) (f : Value) (hn : h.n = 0) : ConF Tryz.prog 126 #[h.v, f] [] [] (fun v Γ' => v = .tuple #[] ∧ Γ' = []) := by
  intro w0 S0 fp0 hI hS
  have H : Cx w0 fp0 S0 w0 [] := Cx.start hI hS
  clear hI hS
  refine enterC (args := [_, _]) gok Tryz.func126 rfl _ rfl rfl rfl ?_
  refine lenE hn ?_
  refine convK (m := 0) gok rfl rfl rfl ?_
  refine callF bits_Len_0 (Γi := []) H trivial ?_; clear H
  rintro _ _ w1 ⟨rfl, rfl⟩ H
  refine callF (pdqsort_0 h.v _ f) (Γi := []) H trivial ?_; clear H
  rintro _ _ w2 ⟨rfl, rfl⟩ H
  exact ⟨_, _, rfl, ⟨rfl, rfl⟩, (H.sel [] rfl).close trivial⟩
end Go.Proofs.YtbofgnbanmbopaaGreatDoor
