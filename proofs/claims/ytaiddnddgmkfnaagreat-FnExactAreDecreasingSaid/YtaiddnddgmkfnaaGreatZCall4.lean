/-
  Contracts, printed by a program (wip/y/gen.py): each function of Go computes its partial function. Condition of each: its partial function yields a value.
-/
import Derived.Test.YtaiddnddgmkfnaaGreatZCall3
namespace Go.Proofs.YtaiddnddgmkfnaaGreat
open Go Go.Proofs.YtaiddnddgmkfnaaGreat.RW
set_option maxRecDepth 100000
set_option linter.unusedVariables false

theorem impl_areBelow_c (list_ : List Int) (list_h : Hd) (n_ : Int) (y : Bool) (hF : F_impl_areBelow list_ n_ = some y) :
    ConF Tryz.prog 30 #[(list_h).v, (.int .i64 n_)] [Es (List Int) list_ list_h] [] (fun v Γ' => v = (.bool y) ∧ Γ' = []) := by
  intro w0 S0 fp0 hI hS
  have H : Cx w0 fp0 S0 w0 [Es (List Int) list_ list_h] := Cx.start hI hS
  clear hI hS
  refine enterC (args := [_, _]) gok Tryz.func30 rfl _ rfl rfl rfl ?_
  refine sq ?_
  refine lenE (H.rs (α := List Int) 0 rfl).len ?_
  have hmx24 := (H.rs (α := List Int) 0 rfl).max
  obtain ⟨r25, e, hF26⟩ := bindS hF; clear hF
  refine loopO _ list_.length (fun (k2 : Nat) (_ : Unit) (_ : Unit) => [(1, (.int .i64 n_)), (7, (list_h).v), (8, (.int .i64 ((list_.length : Nat) : Int))), (9, (.int .i64 ((k2 : Nat) : Int)))]) (fun _ (_ : Unit) (_ : Unit) w' => Cx w0 fp0 S0 w' [Es (List Int) list_ list_h]) () () e ⟨rfl, rfl, rfl, rfl, trivial⟩ (H.sel [0] rfl) ?_ ?_
  · clear H e
    rintro T28 k2 _ _ w27 o29 hk (H : Cx w0 fp0 S0 w27 [Es (List Int) list_ list_h]) hrt hF30
    refine boolE (z := true) (ltLen hk) ?_
    refine sq ?_
    refine sq ?_
    obtain ⟨a37, e, hF38⟩ := bindS hF30; clear hF30
    obtain ⟨p35, m36, c31, c32, c33, c34⟩ := (H.rs (α := List Int) 0 rfl).at1 e; clear e
    refine idxE c31 c32 c33 ?_; clear c31 c32 c33
    refine load1 c34 ?_; clear c34
    obtain ⟨a39, e, hF40⟩ := bindS hF38; clear hF38
    refine arO e ?_; clear e
    obtain ⟨y41, e, hF42⟩ := bindS hF40; clear hF40
    have ey41 := e; clear e
    refine callF (impl_within_c a37 0 a39 y41 ey41) (Γi := []) H trivial ?_; clear H ey41
    rintro _ _ w43 ⟨rfl, rfl⟩ (H : Cx w0 fp0 S0 w43 [Es (List Int) list_ list_h])
    obtain ⟨a44, e, hF45⟩ := bindS hF42; clear hF42
    refine boolO e ?_; clear e
    cases a44
    · have hF46 := condF hF45; clear hF45
      refine arK hk hmx24 ?_
      have hs := Option.some.inj hF46; subst hs; clear hF46
      exact ⟨(), (), rfl, ⟨rfl, rfl, rfl, rfl, trivial⟩, H.sel [0] rfl⟩
    · have hF47 := condT hF45; clear hF45
      have hs := Option.some.inj hF47; subst hs; clear hF47
      have hr := hrt _ rfl; subst hr
      have hF48 : some _ = some _ := hF26
      cases hF48
      exact ⟨_, _, rfl, ⟨rfl, rfl⟩, (H.sel [] rfl).close trivial⟩
  · clear H e
    rintro T50 _ _ w49 hr (H : Cx w0 fp0 S0 w49 [Es (List Int) list_ list_h])
    subst hr
    refine boolE (z := false) geLen ?_
    refine sq ?_
    cases hF26
    exact ⟨_, _, rfl, ⟨rfl, rfl⟩, (H.sel [] rfl).close trivial⟩

theorem impl_areWeights_c (weights_ : List Int) (weights_h : Hd) (y : Bool) (hF : F_impl_areWeights weights_ = some y) :
    ConF Tryz.prog 17 #[(weights_h).v] [Es (List Int) weights_ weights_h] [] (fun v Γ' => v = (.bool y) ∧ Γ' = []) := by
  intro w0 S0 fp0 hI hS
  have H : Cx w0 fp0 S0 w0 [Es (List Int) weights_ weights_h] := Cx.start hI hS
  clear hI hS
  refine enterC (args := [_]) gok Tryz.func17 rfl _ rfl rfl rfl ?_
  obtain ⟨r11, hF13, hF12⟩ := bindS hF; clear hF
  refine cut (fun (q14 : Bool) => [(2, (.bool q14))]) (fun (q14 : Bool) w' => q14 = r11 ∧ Cx w0 fp0 S0 w' []) ?_ ?_
  · skip
    refine lenE (H.rs (α := List Int) 0 rfl).len ?_
    obtain ⟨a15, e, hF16⟩ := bindS hF13; clear hF13
    refine boolO e ?_; clear e
    cases a15
    · have hF17 := condF hF16; clear hF16
      exact ⟨false, ⟨rfl, trivial⟩, Option.some.inj hF17, H.sel [] rfl⟩
    · have hF18 := condT hF16; clear hF16
      obtain ⟨y19, e, hF20⟩ := bindS hF18; clear hF18
      have ey19 := e; clear e
      refine callF (impl_areBelow_c weights_ weights_h 1001 y19 ey19) (Γi := []) H ⟨Vw.sh 0 rfl, trivial⟩ ?_; clear H ey19
      rintro _ _ w21 ⟨rfl, rfl⟩ (H : Cx w0 fp0 S0 w21 [Es (List Int) weights_ weights_h])
      exact ⟨y19, ⟨rfl, trivial⟩, Option.some.inj hF20, H.sel [] rfl⟩
  · clear hF13 H
    rintro T23 s9 w22 ⟨hr, (H : Cx w0 fp0 S0 w22 [])⟩
    subst hr
    cases hF12
    exact ⟨_, _, rfl, ⟨rfl, rfl⟩, (H.sel [] rfl).close trivial⟩

theorem impl_Graph_weight_c (g__0 : Int) (g__1 : List (Int × Int × List Int × List Int)) (g__1h : Hd) (g__2 : List Int) (g__2h : Hd) (g__3 : List Int) (g__3h : Hd) (weights_ : List Int) (weights_h : Hd) (y : Int) (hF : F_impl_Graph_weight (g__0, g__1, g__2, g__3) weights_ = some y) :
    ConF Tryz.prog 45 #[(.agg #[(.int .i64 g__0), (g__1h).v, (g__2h).v, (g__3h).v]), (weights_h).v] [Es (List (Int × Int × List Int × List Int)) g__1 g__1h, Es (List Int) g__2 g__2h, Es (List Int) g__3 g__3h, Es (List Int) weights_ weights_h] [] (fun v Γ' => v = (.int .i64 y) ∧ Γ' = []) := by
  intro w0 S0 fp0 hI hS
  have H : Cx w0 fp0 S0 w0 [Es (List (Int × Int × List Int × List Int)) g__1 g__1h, Es (List Int) g__2 g__2h, Es (List Int) g__3 g__3h, Es (List Int) weights_ weights_h] := Cx.start hI hS
  clear hI hS
  refine enterC (args := [_, _]) gok Tryz.func45 rfl _ rfl rfl rfl ?_
  refine box_ H ?_; clear H; intro b6 w5 hx H
  clear hx
  replace H : Cx w0 fp0 S0 w5 [Bx b6 [(.int .i64 g__0), (g__1h).v, (g__2h).v, (g__3h).v], Es (List (Int × Int × List Int × List Int)) g__1 g__1h, Es (List Int) g__2 g__2h, Es (List Int) g__3 g__3h, Es (List Int) weights_ weights_h] := H
  refine sq ?_
  refine fld gok rfl rfl rfl rfl ?_
  refine load1 (H.bx 0 rfl (j := 1) rfl) ?_
  refine lenE (H.rs (α := List (Int × Int × List Int × List Int)) 1 rfl).len ?_
  have hmx75 := (H.rs (α := List (Int × Int × List Int × List Int)) 1 rfl).max
  obtain ⟨r76, e, hF77⟩ := bindS hF; clear hF
  refine loopS _ g__1.length (fun (k8 : Nat) (s73 : Int) (_ : Unit) => [(1, (weights_h).v), (5, (.int .i64 s73)), (9, (g__1h).v), (10, (.int .i64 ((g__1.length : Nat) : Int))), (11, (.int .i64 ((k8 : Nat) : Int)))]) (fun _ (s73 : Int) (_ : Unit) w' => Cx w0 fp0 S0 w' [Es (List Int) weights_ weights_h, Es (List (Int × Int × List Int × List Int)) g__1 g__1h]) 0 () e ⟨rfl, rfl, rfl, rfl, rfl, trivial⟩ (H.sel [4, 1] rfl) ?_ ?_
  · clear H e
    rintro T79 k8 s73 _ w78 o80 hk (H : Cx w0 fp0 S0 w78 [Es (List Int) weights_ weights_h, Es (List (Int × Int × List Int × List Int)) g__1 g__1h]) hF81
    refine boolE (z := true) (ltLen hk) ?_
    refine sq ?_
    refine sq ?_
    obtain ⟨a88, e, hF89⟩ := bindS hF81; clear hF81
    have HH := H; clear H; obtain ⟨p86, m87, g90, c82, c83, c84, c85, H⟩ := HH.el (α := Int × Int × List Int × List Int) 1 rfl e; clear HH
    clear e
    obtain ⟨a88_0, a88_1, a88_2, a88_3⟩ := a88
    obtain ⟨_, _, h92, h93⟩ := g90
    replace H := H.part (β := List Int) a88_2 (h92 : Hd) 0 rfl (fun S h => (And.left (And.right (And.right h))))
    replace H := H.part (β := List Int) a88_3 (h93 : Hd) 1 rfl (fun S h => (And.right (And.right (And.right h))))
    replace H := H.sel [0, 1, 3, 4] rfl
    refine idxE c82 c83 c84 ?_; clear c82 c83 c84
    refine loadN [(.int .i64 a88_0), (.int .i64 a88_1), (h92).v, (h93).v] rfl c85 ?_; clear c85
    refine alloc_ gok rfl H ?_; clear H; intro b97 w96 hx H
    clear hx
    replace H : Cx w0 fp0 S0 w96 [Bx b97 [(.int .i64 0), (.int .i64 0), (.slice none 0 0), (.slice none 0 0)], Es (List Int) a88_3 h93, Es (List Int) a88_2 h92, Es (List Int) weights_ weights_h, Es (List (Int × Int × List Int × List Int)) g__1 g__1h] := H
    refine stA gok [(.int .i64 a88_0), (.int .i64 a88_1), (h92).v, (h93).v] rfl H rfl rfl rfl ?_; clear H; intro w99 H
    replace H : Cx w0 fp0 S0 w99 [Bx b97 [(.int .i64 a88_0), (.int .i64 a88_1), (h92).v, (h93).v], Es (List Int) a88_3 h93, Es (List Int) a88_2 h92, Es (List Int) weights_ weights_h, Es (List (Int × Int × List Int × List Int)) g__1 g__1h] := H
    refine fld gok rfl rfl rfl rfl ?_
    refine load1 (H.bx 0 rfl (j := 0) rfl) ?_
    obtain ⟨a100, e, hF101⟩ := bindS hF89; clear hF89
    refine arO e ?_; clear e
    obtain ⟨a108, e, hF109⟩ := bindS hF101; clear hF101
    obtain ⟨p106, m107, c102, c103, c104, c105⟩ := (H.rs (α := List Int) 3 rfl).at1 e; clear e
    refine idxE c102 c103 c104 ?_; clear c102 c103 c104
    refine load1 c105 ?_; clear c105
    obtain ⟨a110, e, hF111⟩ := bindS hF109; clear hF109
    refine arO e ?_; clear e
    refine arK hk hmx75 ?_
    have hs := Option.some.inj hF111; subst hs; clear hF111
    exact ⟨(), ⟨rfl, rfl, rfl, rfl, rfl, trivial⟩, H.sel [3, 4] rfl⟩
  · clear H e
    rintro T113 _ w112 (H : Cx w0 fp0 S0 w112 [Es (List Int) weights_ weights_h, Es (List (Int × Int × List Int × List Int)) g__1 g__1h])
    refine boolE (z := false) geLen ?_
    refine sq ?_
    cases hF77
    exact ⟨_, _, rfl, ⟨rfl, rfl⟩, (H.sel [] rfl).close trivial⟩

theorem impl_Rule_weightChange_c (r__0 : ByteArray) (r__1_0 : List (Int × Int × ByteArray)) (r__1_0h : Hd) (r__2_0 : List (Int × Int × ByteArray)) (r__2_0h : Hd) (weights_ : List Int) (weights_h : Hd) (y : Int) (hF : F_impl_Rule_weightChange (r__0, r__1_0, r__2_0) weights_ = some y) :
    ConF Tryz.prog 33 #[(.agg #[(.string r__0), (r__1_0h).v, (r__2_0h).v]), (weights_h).v] [Es (List (Int × Int × ByteArray)) r__1_0 r__1_0h, Es (List (Int × Int × ByteArray)) r__2_0 r__2_0h, Es (List Int) weights_ weights_h] [] (fun v Γ' => v = (.int .i64 y) ∧ Γ' = []) := by
  intro w0 S0 fp0 hI hS
  have H : Cx w0 fp0 S0 w0 [Es (List (Int × Int × ByteArray)) r__1_0 r__1_0h, Es (List (Int × Int × ByteArray)) r__2_0 r__2_0h, Es (List Int) weights_ weights_h] := Cx.start hI hS
  clear hI hS
  refine enterC (args := [_, _]) gok Tryz.func33 rfl _ rfl rfl rfl ?_
  refine box_ H ?_; clear H; intro b5 w4 hx H
  clear hx
  replace H : Cx w0 fp0 S0 w4 [Bx b5 [(.string r__0), (r__1_0h).v, (r__2_0h).v], Es (List (Int × Int × ByteArray)) r__1_0 r__1_0h, Es (List (Int × Int × ByteArray)) r__2_0 r__2_0h, Es (List Int) weights_ weights_h] := H
  refine heldX H [] (.fst 2 (.fst 6 (.fst 0 (.fst 4 (.act 1 (.act 3 (.act 5 (.act 7 (.fst 8 (.fst 9 .done)))))))))) mixed [] trivial (by kernel_rfl) ?_
  clear H; intro w7 H
  have hX : Ext w7 w7 := Upd.refl _ _
  have H0 := H
  refine loadNX [(.string r__0), (r__1_0h).v, (r__2_0h).v] rfl (fun j u hj => H.bx 0 rfl hj) ?_
  refine loadNX [(.string r__0), (r__1_0h).v, (r__2_0h).v] rfl (fun j u hj => H.bx 0 rfl hj) ?_
  obtain ⟨y8, e, hF9⟩ := bindS hF; clear hF
  obtain ⟨y8_0, y8_1, y8_2, y8_3⟩ := y8
  have ey8 := e; clear e
  refine callFx (impl_Rule_replacement_c r__0 r__1_0 r__1_0h r__2_0 r__2_0h y8_0 y8_1 y8_2 y8_3 ey8) H ⟨Vw.sh 1 rfl, Vw.sh 2 rfl, trivial⟩ ?_; clear H ey8
  rintro _ _ w10 ⟨h11, h13, h15, rfl, rfl⟩ hx (H : Cx w0 fp0 S0 w10 [E (List (Int × Int × List Int × List Int)) y8_1 h11, E (List Int) y8_2 h13, E (List Int) y8_3 h15, Bx b5 [(.string r__0), (r__1_0h).v, (r__2_0h).v], Es (List (Int × Int × ByteArray)) r__1_0 r__1_0h, Es (List (Int × Int × ByteArray)) r__2_0 r__2_0h, Es (List Int) weights_ weights_h])
  replace hX := hX.trans0 hx; clear hx
  refine hold hX ?_
  obtain ⟨y17, e, hF18⟩ := bindS hF9; clear hF9
  have ey17 := e; clear e
  refine callFx (impl_Graph_weight_c y8_0 y8_1 h11 y8_2 h13 y8_3 h15 weights_ weights_h y17 ey17) H ⟨Vw.own 0 rfl, Vw.own 1 rfl, Vw.own 2 rfl, Vw.sh 6 rfl, trivial⟩ ?_; clear H ey17
  rintro _ _ w19 ⟨rfl, rfl⟩ hx (H : Cx w0 fp0 S0 w19 [E (List (Int × Int × List Int × List Int)) y8_1 h11, E (List Int) y8_2 h13, E (List Int) y8_3 h15, Bx b5 [(.string r__0), (r__1_0h).v, (r__2_0h).v], Es (List (Int × Int × ByteArray)) r__1_0 r__1_0h, Es (List (Int × Int × ByteArray)) r__2_0 r__2_0h, Es (List Int) weights_ weights_h])
  replace hX := hX.trans0 hx; clear hx
  refine hold hX ?_
  obtain ⟨y20, e, hF21⟩ := bindS hF18; clear hF18
  obtain ⟨y20_0, y20_1, y20_2, y20_3⟩ := y20
  have ey20 := e; clear e
  refine callFx (impl_Rule_pattern_c r__0 r__1_0 r__1_0h r__2_0 r__2_0h y20_0 y20_1 y20_2 y20_3 ey20) H ⟨Vw.sh 4 rfl, Vw.sh 5 rfl, trivial⟩ ?_; clear H ey20
  rintro _ _ w22 ⟨h23, h25, h27, rfl, rfl⟩ hx (H : Cx w0 fp0 S0 w22 [E (List (Int × Int × List Int × List Int)) y20_1 h23, E (List Int) y20_2 h25, E (List Int) y20_3 h27, E (List (Int × Int × List Int × List Int)) y8_1 h11, E (List Int) y8_2 h13, E (List Int) y8_3 h15, Bx b5 [(.string r__0), (r__1_0h).v, (r__2_0h).v], Es (List (Int × Int × ByteArray)) r__1_0 r__1_0h, Es (List (Int × Int × ByteArray)) r__2_0 r__2_0h, Es (List Int) weights_ weights_h])
  replace hX := hX.trans0 hx; clear hx
  refine hold hX ?_
  obtain ⟨y29, e, hF30⟩ := bindS hF21; clear hF21
  have ey29 := e; clear e
  refine callFx (impl_Graph_weight_c y20_0 y20_1 h23 y20_2 h25 y20_3 h27 weights_ weights_h y29 ey29) H ⟨Vw.own 0 rfl, Vw.own 1 rfl, Vw.own 2 rfl, Vw.sh 9 rfl, trivial⟩ ?_; clear H ey29
  rintro _ _ w31 ⟨rfl, rfl⟩ hx (H : Cx w0 fp0 S0 w31 [E (List (Int × Int × List Int × List Int)) y20_1 h23, E (List Int) y20_2 h25, E (List Int) y20_3 h27, E (List (Int × Int × List Int × List Int)) y8_1 h11, E (List Int) y8_2 h13, E (List Int) y8_3 h15, Bx b5 [(.string r__0), (r__1_0h).v, (r__2_0h).v], Es (List (Int × Int × ByteArray)) r__1_0 r__1_0h, Es (List (Int × Int × ByteArray)) r__2_0 r__2_0h, Es (List Int) weights_ weights_h])
  replace hX := hX.trans0 hx; clear hx
  refine hold hX ?_
  obtain ⟨a32, e, hF33⟩ := bindS hF30; clear hF30
  refine arO e ?_; clear e
  cases hF33
  exact ⟨_, _, rfl, ⟨rfl, rfl⟩, (H.sel [] rfl).close trivial⟩

theorem impl_areDecreasing_1_c (r__0 : ByteArray) (r__1_0 : List (Int × Int × ByteArray)) (r__1_0h : Hd) (r__2_0 : List (Int × Int × ByteArray)) (r__2_0h : Hd) (c0_b : Nat) (c0_ : List Int) (c0_h : Hd) (y : Bool) (hF : F_impl_areDecreasing_1 (r__0, r__1_0, r__2_0) c0_ = some y) :
    ConF Tryz.prog 32 #[(.agg #[(.string r__0), (r__1_0h).v, (r__2_0h).v]), (.pointer (some ⟨c0_b, 0, none⟩))] [Es (List (Int × Int × ByteArray)) r__1_0 r__1_0h, Es (List (Int × Int × ByteArray)) r__2_0 r__2_0h, Es (List Int) c0_ c0_h] [Bx c0_b [(c0_h).v]] (fun v Γ' => v = (.bool y) ∧ Γ' = [Bx c0_b [(c0_h).v]]) := by
  intro w0 S0 fp0 hI hS
  have H : Cx w0 fp0 S0 w0 [Es (List (Int × Int × ByteArray)) r__1_0 r__1_0h, Es (List (Int × Int × ByteArray)) r__2_0 r__2_0h, Es (List Int) c0_ c0_h, Bx c0_b [(c0_h).v]] := Cx.start hI hS
  clear hI hS
  refine enterC (args := [_, _]) gok Tryz.func32 rfl _ rfl rfl rfl ?_
  refine box_ H ?_; clear H; intro b6 w5 hx H
  clear hx
  replace H : Cx w0 fp0 S0 w5 [Bx b6 [(.string r__0), (r__1_0h).v, (r__2_0h).v], Es (List (Int × Int × ByteArray)) r__1_0 r__1_0h, Es (List (Int × Int × ByteArray)) r__2_0 r__2_0h, Es (List Int) c0_ c0_h, Bx c0_b [(c0_h).v]] := H
  refine loadN [(.string r__0), (r__1_0h).v, (r__2_0h).v] rfl (fun j u hj => H.bx 0 rfl hj) ?_
  refine load1 (H.bx0 4 rfl) ?_
  obtain ⟨y8, e, hF9⟩ := bindS hF; clear hF
  have ey8 := e; clear e
  refine callF (impl_Rule_weightChange_c r__0 r__1_0 r__1_0h r__2_0 r__2_0h c0_ c0_h y8 ey8) (Γi := []) H ⟨Vw.sh 1 rfl, Vw.sh 2 rfl, Vw.sh 3 rfl, trivial⟩ ?_; clear H ey8
  rintro _ _ w10 ⟨rfl, rfl⟩ (H : Cx w0 fp0 S0 w10 [Bx b6 [(.string r__0), (r__1_0h).v, (r__2_0h).v], Es (List (Int × Int × ByteArray)) r__1_0 r__1_0h, Es (List (Int × Int × ByteArray)) r__2_0 r__2_0h, Es (List Int) c0_ c0_h, Bx c0_b [(c0_h).v]])
  obtain ⟨a11, e, hF12⟩ := bindS hF9; clear hF9
  refine boolO e ?_; clear e
  cases hF12
  exact ⟨_, _, rfl, ⟨rfl, rfl⟩, (H.sel [4] rfl).close ⟨cloB, trivial⟩⟩

theorem slices_IndexFunc_impl_Rule_impl_Rule_impl_areDecreasing_1_c (s_ : List (ByteArray × (List (Int × Int × ByteArray)) × (List (Int × Int × ByteArray)))) (s_h : Hd) (d0_b : Nat) (d0_ : List Int) (d0_h : Hd) (y : Int) (hF : F_slices_IndexFunc_impl_Rule_impl_Rule_impl_areDecreasing_1 s_ d0_ = some y) :
    ConF Tryz.prog 44 #[(s_h).v, (.func (.func 32) #[] #[(.pointer (some ⟨d0_b, 0, none⟩))])] [Es (List (ByteArray × (List (Int × Int × ByteArray)) × (List (Int × Int × ByteArray)))) s_ s_h, Es (List Int) d0_ d0_h] [Bx d0_b [(d0_h).v]] (fun v Γ' => v = (.int .i64 y) ∧ Γ' = [Bx d0_b [(d0_h).v]]) := by
  intro w0 S0 fp0 hI hS
  have H : Cx w0 fp0 S0 w0 [Es (List (ByteArray × (List (Int × Int × ByteArray)) × (List (Int × Int × ByteArray)))) s_ s_h, Es (List Int) d0_ d0_h, Bx d0_b [(d0_h).v]] := Cx.start hI hS
  clear hI hS
  refine enterC (args := [_, _]) gok Tryz.func44 rfl _ rfl rfl rfl ?_
  refine sq ?_
  refine lenE (H.rs (α := List (ByteArray × (List (Int × Int × ByteArray)) × (List (Int × Int × ByteArray)))) 0 rfl).len ?_
  have hmx28 := (H.rs (α := List (ByteArray × (List (Int × Int × ByteArray)) × (List (Int × Int × ByteArray)))) 0 rfl).max
  obtain ⟨r29, e, hF30⟩ := bindS hF; clear hF
  refine loopO _ s_.length (fun (k4 : Nat) (_ : Unit) (_ : Unit) => [(0, (s_h).v), (1, (.func (.func 32) #[] #[(.pointer (some ⟨d0_b, 0, none⟩))])), (7, (.int .i64 ((s_.length : Nat) : Int))), (8, (.int .i64 ((k4 : Nat) : Int)))]) (fun _ (_ : Unit) (_ : Unit) w' => Cx w0 fp0 S0 w' [Es (List (ByteArray × (List (Int × Int × ByteArray)) × (List (Int × Int × ByteArray)))) s_ s_h, Bx d0_b [(d0_h).v], Es (List Int) d0_ d0_h]) () () e ⟨rfl, rfl, rfl, rfl, trivial⟩ (H.sel [0, 2, 1] rfl) ?_ ?_
  · clear H e
    rintro T32 k4 _ _ w31 o33 hk (H : Cx w0 fp0 S0 w31 [Es (List (ByteArray × (List (Int × Int × ByteArray)) × (List (Int × Int × ByteArray)))) s_ s_h, Bx d0_b [(d0_h).v], Es (List Int) d0_ d0_h]) hrt hF34
    refine boolE (z := true) (ltLen hk) ?_
    refine sq ?_
    refine sq ?_
    obtain ⟨a41, e, hF42⟩ := bindS hF34; clear hF34
    have HH := H; clear H; obtain ⟨p39, m40, g43, c35, c36, c37, c38, H⟩ := HH.el (α := ByteArray × (List (Int × Int × ByteArray)) × (List (Int × Int × ByteArray))) 0 rfl e; clear HH
    clear e
    obtain ⟨a41_0, a41_1_0, a41_2_0⟩ := a41
    obtain ⟨_, h45, h46⟩ := g43
    replace H := H.part (β := List (Int × Int × ByteArray)) a41_1_0 (h45 : Hd) 0 rfl (fun S h => (And.left (And.right h)))
    replace H := H.part (β := List (Int × Int × ByteArray)) a41_2_0 (h46 : Hd) 1 rfl (fun S h => (And.right (And.right h)))
    replace H := H.sel [0, 1, 3, 4, 5] rfl
    refine idxE c35 c36 c37 ?_; clear c35 c36 c37
    refine loadN [(.string a41_0), (h45).v, (h46).v] rfl c38 ?_; clear c38
    obtain ⟨y49, e, hF50⟩ := bindS hF42; clear hF42
    have ey49 := e; clear e
    replace H := H.sel [3, 0, 1, 2, 4] rfl
    refine callF (impl_areDecreasing_1_c a41_0 a41_1_0 h45 a41_2_0 h46 d0_b d0_ d0_h y49 ey49) (Γi := [Bx d0_b [(d0_h).v]]) H ⟨Vw.sh 1 rfl, Vw.sh 0 rfl, Vw.sh 3 rfl, trivial⟩ ?_; clear H ey49
    rintro _ _ w51 ⟨rfl, rfl⟩ (H : Cx w0 fp0 S0 w51 [Bx d0_b [(d0_h).v], Es (List (Int × Int × ByteArray)) a41_2_0 h46, Es (List (Int × Int × ByteArray)) a41_1_0 h45, Es (List (ByteArray × (List (Int × Int × ByteArray)) × (List (Int × Int × ByteArray)))) s_ s_h, Es (List Int) d0_ d0_h])
    cases y49
    · have hF52 := condF hF50; clear hF50
      refine arK hk hmx28 ?_
      have hs := Option.some.inj hF52; subst hs; clear hF52
      exact ⟨(), (), rfl, ⟨rfl, rfl, rfl, rfl, trivial⟩, H.sel [3, 0, 4] rfl⟩
    · have hF53 := condT hF50; clear hF50
      have hs := Option.some.inj hF53; subst hs; clear hF53
      have hr := hrt _ rfl; subst hr
      have hF54 : some _ = some _ := hF30
      cases hF54
      exact ⟨_, _, rfl, ⟨rfl, rfl⟩, (H.sel [0] rfl).close ⟨cloB, trivial⟩⟩
  · clear H e
    rintro T56 _ _ w55 hr (H : Cx w0 fp0 S0 w55 [Es (List (ByteArray × (List (Int × Int × ByteArray)) × (List (Int × Int × ByteArray)))) s_ s_h, Bx d0_b [(d0_h).v], Es (List Int) d0_ d0_h])
    subst hr
    refine boolE (z := false) geLen ?_
    refine sq ?_
    cases hF30
    exact ⟨_, _, rfl, ⟨rfl, rfl⟩, (H.sel [1] rfl).close ⟨cloB, trivial⟩⟩

theorem slices_ContainsFunc_impl_Rule_impl_Rule_impl_areDecreasing_1_c (s_ : List (ByteArray × (List (Int × Int × ByteArray)) × (List (Int × Int × ByteArray)))) (s_h : Hd) (d0_b : Nat) (d0_ : List Int) (d0_h : Hd) (y : Bool) (hF : F_slices_ContainsFunc_impl_Rule_impl_Rule_impl_areDecreasing_1 s_ d0_ = some y) :
    ConF Tryz.prog 31 #[(s_h).v, (.func (.func 32) #[] #[(.pointer (some ⟨d0_b, 0, none⟩))])] [Es (List (ByteArray × (List (Int × Int × ByteArray)) × (List (Int × Int × ByteArray)))) s_ s_h, Es (List Int) d0_ d0_h] [Bx d0_b [(d0_h).v]] (fun v Γ' => v = (.bool y) ∧ Γ' = [Bx d0_b [(d0_h).v]]) := by
  intro w0 S0 fp0 hI hS
  have H : Cx w0 fp0 S0 w0 [Es (List (ByteArray × (List (Int × Int × ByteArray)) × (List (Int × Int × ByteArray)))) s_ s_h, Es (List Int) d0_ d0_h, Bx d0_b [(d0_h).v]] := Cx.start hI hS
  clear hI hS
  refine enterC (args := [_, _]) gok Tryz.func31 rfl _ rfl rfl rfl ?_
  obtain ⟨y4, e, hF5⟩ := bindS hF; clear hF
  have ey4 := e; clear e
  replace H := H.sel [2, 0, 1] rfl
  refine callF (slices_IndexFunc_impl_Rule_impl_Rule_impl_areDecreasing_1_c s_ s_h d0_b d0_ d0_h y4 ey4) (Γi := [Bx d0_b [(d0_h).v]]) H ⟨Vw.sh 0 rfl, Vw.sh 1 rfl, trivial⟩ ?_; clear H ey4
  rintro _ _ w6 ⟨rfl, rfl⟩ (H : Cx w0 fp0 S0 w6 [Bx d0_b [(d0_h).v], Es (List (ByteArray × (List (Int × Int × ByteArray)) × (List (Int × Int × ByteArray)))) s_ s_h, Es (List Int) d0_ d0_h])
  obtain ⟨a7, e, hF8⟩ := bindS hF5; clear hF5
  refine boolO e ?_; clear e
  cases hF8
  exact ⟨_, _, rfl, ⟨rfl, rfl⟩, (H.sel [0] rfl).close ⟨cloB, trivial⟩⟩

theorem impl_areDecreasing_c (rules_ : List (ByteArray × (List (Int × Int × ByteArray)) × (List (Int × Int × ByteArray)))) (rules_h : Hd) (weights_ : List Int) (weights_h : Hd) (y : Bool) (hF : F_impl_areDecreasing rules_ weights_ = some y) :
    ConF Tryz.prog 18 #[(rules_h).v, (weights_h).v] [Es (List (ByteArray × (List (Int × Int × ByteArray)) × (List (Int × Int × ByteArray)))) rules_ rules_h, Es (List Int) weights_ weights_h] [] (fun v Γ' => v = (.bool y) ∧ Γ' = []) := by
  intro w0 S0 fp0 hI hS
  have H : Cx w0 fp0 S0 w0 [Es (List (ByteArray × (List (Int × Int × ByteArray)) × (List (Int × Int × ByteArray)))) rules_ rules_h, Es (List Int) weights_ weights_h] := Cx.start hI hS
  clear hI hS
  refine enterC (args := [_, _]) gok Tryz.func18 rfl _ rfl rfl rfl ?_
  refine box_ H ?_; clear H; intro b4 w3 hx H
  clear hx
  replace H : Cx w0 fp0 S0 w3 [Bx b4 [(weights_h).v], Es (List (ByteArray × (List (Int × Int × ByteArray)) × (List (Int × Int × ByteArray)))) rules_ rules_h, Es (List Int) weights_ weights_h] := H
  obtain ⟨y6, e, hF7⟩ := bindS hF; clear hF
  have ey6 := e; clear e
  refine callF (slices_ContainsFunc_impl_Rule_impl_Rule_impl_areDecreasing_1_c rules_ rules_h b4 weights_ weights_h y6 ey6) (Γi := [Bx b4 [(weights_h).v]]) H ⟨Vw.sh 0 rfl, Vw.sh 1 rfl, trivial⟩ ?_; clear H ey6
  rintro _ _ w8 ⟨rfl, rfl⟩ (H : Cx w0 fp0 S0 w8 [Bx b4 [(weights_h).v], Es (List (ByteArray × (List (Int × Int × ByteArray)) × (List (Int × Int × ByteArray)))) rules_ rules_h, Es (List Int) weights_ weights_h])
  obtain ⟨a9, e, hF10⟩ := bindS hF7; clear hF7
  refine boolO e ?_; clear e
  cases hF10
  exact ⟨_, _, rfl, ⟨rfl, rfl⟩, (H.sel [] rfl).close trivial⟩

theorem impl_AreDecreasing_c (rules_ : List (ByteArray × (List (Int × Int × ByteArray)) × (List (Int × Int × ByteArray)))) (rules_h : Hd) (weights_ : List Int) (weights_h : Hd) (y0 : Bool) (y1 : Bool) (hF : F_impl_AreDecreasing rules_ weights_ = some (y0, y1)) :
    ConF Tryz.prog 8 #[(rules_h).v, (weights_h).v] [Es (List (ByteArray × (List (Int × Int × ByteArray)) × (List (Int × Int × ByteArray)))) rules_ rules_h, Es (List Int) weights_ weights_h] [] (fun v Γ' => v = (.tuple #[(.bool y0), (.bool y1)]) ∧ Γ' = []) := by
  intro w0 S0 fp0 hI hS
  have H : Cx w0 fp0 S0 w0 [Es (List (ByteArray × (List (Int × Int × ByteArray)) × (List (Int × Int × ByteArray)))) rules_ rules_h, Es (List Int) weights_ weights_h] := Cx.start hI hS
  clear hI hS
  refine enterC (args := [_, _]) gok Tryz.func8 rfl _ rfl rfl rfl ?_
  refine sq ?_
  obtain ⟨r17, hF19, hF18⟩ := bindS hF; clear hF
  refine cut (fun (q20 : Bool) => [(0, (rules_h).v), (1, (weights_h).v), (13, (.bool q20))]) (fun (q20 : Bool) w' => q20 = r17 ∧ Cx w0 fp0 S0 w' [Es (List (ByteArray × (List (Int × Int × ByteArray)) × (List (Int × Int × ByteArray)))) rules_ rules_h, Es (List Int) weights_ weights_h]) ?_ ?_
  · skip
    obtain ⟨y21, e, hF22⟩ := bindS hF19; clear hF19
    have ey21 := e; clear e
    refine callF (impl_areRules_c rules_ rules_h y21 ey21) (Γi := []) H ⟨Vw.sh 0 rfl, trivial⟩ ?_; clear H ey21
    rintro _ _ w23 ⟨rfl, rfl⟩ (H : Cx w0 fp0 S0 w23 [Es (List (ByteArray × (List (Int × Int × ByteArray)) × (List (Int × Int × ByteArray)))) rules_ rules_h, Es (List Int) weights_ weights_h])
    obtain ⟨a24, e, hF25⟩ := bindS hF22; clear hF22
    refine boolO e ?_; clear e
    cases a24
    · have hF26 := condF hF25; clear hF25
      obtain ⟨y27, e, hF28⟩ := bindS hF26; clear hF26
      have ey27 := e; clear e
      refine callF (impl_areWeights_c weights_ weights_h y27 ey27) (Γi := []) H ⟨Vw.sh 1 rfl, trivial⟩ ?_; clear H ey27
      rintro _ _ w29 ⟨rfl, rfl⟩ (H : Cx w0 fp0 S0 w29 [Es (List (ByteArray × (List (Int × Int × ByteArray)) × (List (Int × Int × ByteArray)))) rules_ rules_h, Es (List Int) weights_ weights_h])
      obtain ⟨a30, e, hF31⟩ := bindS hF28; clear hF28
      refine boolO e ?_; clear e
      exact ⟨a30, ⟨rfl, rfl, rfl, trivial⟩, Option.some.inj hF31, H.sel [0, 1] rfl⟩
    · have hF32 := condT hF25; clear hF25
      exact ⟨true, ⟨rfl, rfl, rfl, trivial⟩, Option.some.inj hF32, H.sel [0, 1] rfl⟩
  · clear hF19 H
    rintro T34 s15 w33 ⟨hr, (H : Cx w0 fp0 S0 w33 [Es (List (ByteArray × (List (Int × Int × ByteArray)) × (List (Int × Int × ByteArray)))) rules_ rules_h, Es (List Int) weights_ weights_h])⟩
    subst hr
    cases s15
    · have hF35 := condF hF18; clear hF18
      obtain ⟨y36, e, hF37⟩ := bindS hF35; clear hF35
      have ey36 := e; clear e
      refine callF (impl_areDecreasing_c rules_ rules_h weights_ weights_h y36 ey36) (Γi := []) H ⟨Vw.sh 0 rfl, Vw.sh 1 rfl, trivial⟩ ?_; clear H ey36
      rintro _ _ w38 ⟨rfl, rfl⟩ (H : Cx w0 fp0 S0 w38 [Es (List (ByteArray × (List (Int × Int × ByteArray)) × (List (Int × Int × ByteArray)))) rules_ rules_h, Es (List Int) weights_ weights_h])
      cases hF37
      exact ⟨_, _, rfl, ⟨rfl, rfl⟩, (H.sel [] rfl).close trivial⟩
    · have hF39 := condT hF18; clear hF18
      cases hF39
      exact ⟨_, _, rfl, ⟨rfl, rfl⟩, (H.sel [] rfl).close trivial⟩

theorem laws_eqNode_c (a__0 : Int) (a__1 : Int) (a__2 : ByteArray) (b__0 : Int) (b__1 : Int) (b__2 : ByteArray) (y : Bool) (hF : F_laws_eqNode (a__0, a__1, a__2) (b__0, b__1, b__2) = some y) :
    ConF Tryz.prog 68 #[(.agg #[(.int .i64 a__0), (.int .i64 a__1), (.string a__2)]), (.agg #[(.int .i64 b__0), (.int .i64 b__1), (.string b__2)])] [] [] (fun v Γ' => v = (.bool y) ∧ Γ' = []) := by
  intro w0 S0 fp0 hI hS
  have H : Cx w0 fp0 S0 w0 [] := Cx.start hI hS
  clear hI hS
  refine enterC (args := [_, _]) gok Tryz.func68 rfl _ rfl rfl rfl ?_
  refine box_ H ?_; clear H; intro b2 w1 hx H
  clear hx
  replace H : Cx w0 fp0 S0 w1 [Bx b2 [(.int .i64 a__0), (.int .i64 a__1), (.string a__2)]] := H
  refine box_ H ?_; clear H; intro b5 w4 hx H
  clear hx
  replace H : Cx w0 fp0 S0 w4 [Bx b5 [(.int .i64 b__0), (.int .i64 b__1), (.string b__2)], Bx b2 [(.int .i64 a__0), (.int .i64 a__1), (.string a__2)]] := H
  refine sq ?_
  refine fld gok rfl rfl rfl rfl ?_
  refine load1 (H.bx 1 rfl (j := 0) rfl) ?_
  refine fld gok rfl rfl rfl rfl ?_
  refine load1 (H.bx 0 rfl (j := 0) rfl) ?_
  obtain ⟨a7, e, hF8⟩ := bindS hF; clear hF
  refine boolO e ?_; clear e
  cases a7
  · have hF9 := condF hF8; clear hF8
    refine sq ?_
    refine fld gok rfl rfl rfl rfl ?_
    refine load1 (H.bx 1 rfl (j := 1) rfl) ?_
    refine fld gok rfl rfl rfl rfl ?_
    refine load1 (H.bx 0 rfl (j := 1) rfl) ?_
    obtain ⟨a10, e, hF11⟩ := bindS hF9; clear hF9
    refine boolO e ?_; clear e
    cases a10
    · have hF12 := condF hF11; clear hF11
      refine sq ?_
      refine fld gok rfl rfl rfl rfl ?_
      refine load1 (H.bx 1 rfl (j := 2) rfl) ?_
      refine fld gok rfl rfl rfl rfl ?_
      refine load1 (H.bx 0 rfl (j := 2) rfl) ?_
      obtain ⟨a13, e, hF14⟩ := bindS hF12; clear hF12
      refine neqZ e ?_; clear e
      cases a13
      · have hF15 := condF hF14; clear hF14
        cases hF15
        exact ⟨_, _, rfl, ⟨rfl, rfl⟩, (H.sel [] rfl).close trivial⟩
      · have hF16 := condT hF14; clear hF14
        cases hF16
        exact ⟨_, _, rfl, ⟨rfl, rfl⟩, (H.sel [] rfl).close trivial⟩
    · have hF17 := condT hF11; clear hF11
      cases hF17
      exact ⟨_, _, rfl, ⟨rfl, rfl⟩, (H.sel [] rfl).close trivial⟩
  · have hF18 := condT hF8; clear hF8
    cases hF18
    exact ⟨_, _, rfl, ⟨rfl, rfl⟩, (H.sel [] rfl).close trivial⟩

theorem laws_eqNodeS_c (a_ : List (Int × Int × ByteArray)) (a_h : Hd) (b_ : List (Int × Int × ByteArray)) (b_h : Hd) (y : Bool) (hF : F_laws_eqNodeS a_ b_ = some y) :
    ConF Tryz.prog 46 #[(a_h).v, (b_h).v] [Es (List (Int × Int × ByteArray)) a_ a_h, Es (List (Int × Int × ByteArray)) b_ b_h] [] (fun v Γ' => v = (.bool y) ∧ Γ' = []) := by
  intro w0 S0 fp0 hI hS
  have H : Cx w0 fp0 S0 w0 [Es (List (Int × Int × ByteArray)) a_ a_h, Es (List (Int × Int × ByteArray)) b_ b_h] := Cx.start hI hS
  clear hI hS
  refine enterC (args := [_, _]) gok Tryz.func46 rfl _ rfl rfl rfl ?_
  refine sq ?_
  refine lenE (H.rs (α := List (Int × Int × ByteArray)) 0 rfl).len ?_
  refine lenE (H.rs (α := List (Int × Int × ByteArray)) 1 rfl).len ?_
  obtain ⟨a3, e, hF4⟩ := bindS hF; clear hF
  refine boolO e ?_; clear e
  cases a3
  · have hF5 := condF hF4; clear hF4
    obtain ⟨r125, hF127, hF126⟩ := bindS hF5; clear hF5
    refine cut (fun (q128 : Unit) => []) (fun (q128 : Unit) w' => .inl () = r125 ∧ Cx w0 fp0 S0 w' []) ?_ ?_
    · skip
      refine loopW _ (fun (s201 : Int) (_ : Unit) => [(0, (a_h).v), (1, (b_h).v), (5, (.int .i64 s201))]) (fun (s201 : Int) (_ : Unit) w' => Cx w0 fp0 S0 w' [Es (List (Int × Int × ByteArray)) a_ a_h, Es (List (Int × Int × ByteArray)) b_ b_h]) 0 () hF127 ⟨rfl, rfl, rfl, trivial⟩ (H.sel [0, 1] rfl) ?_
      · clear H
        rintro T207 s201 _ w206 o208 (H : Cx w0 fp0 S0 w206 [Es (List (Int × Int × ByteArray)) a_ a_h, Es (List (Int × Int × ByteArray)) b_ b_h]) hrt hF209
        refine sq ?_
        refine lenE (H.rs (α := List (Int × Int × ByteArray)) 0 rfl).len ?_
        obtain ⟨a210, e, hF211⟩ := bindS hF209; clear hF209
        refine boolO e ?_; clear e
        cases a210
        · have hF212 := condF hF211; clear hF211
          have hs := Option.some.inj hF212; subst hs; clear hF212
          have hF213 : some _ = some _ := congrArg some (hrt _ rfl).symm
          exact ⟨(), trivial, Option.some.inj hF213, H.sel [] rfl⟩
        · have hF214 := condT hF211; clear hF211
          refine sq ?_
          refine heldX H [] (.fst 0 (.fst 1 (.fst 2 (.fst 4 (.fst 5 (.fst 6 (.fst 3 (.fst 7 (.act 8 (.fst 9 .done)))))))))) mixed [] trivial (by kernel_rfl) ?_
          clear H; intro w215 H
          have hX : Ext w215 w215 := Upd.refl _ _
          have H0 := H
          obtain ⟨a222, e, hF223⟩ := bindS hF214; clear hF214
          have HH := H; clear H; obtain ⟨p220, m221, g224, c216, c217, c218, c219, H⟩ := HH.el (α := Int × Int × ByteArray) 0 rfl e; clear HH
          clear e
          obtain ⟨a222_0, a222_1, a222_2⟩ := a222
          obtain ⟨_, _, _⟩ := g224
          replace H := H.sel [1, 2] rfl
          refine idxE c216 c217 c218 ?_; clear c216 c217 c218
          obtain ⟨a232, e, hF233⟩ := bindS hF223; clear hF223
          have HH := H; clear H; obtain ⟨p230, m231, g234, c226, c227, c228, c229, H⟩ := HH.el (α := Int × Int × ByteArray) 1 rfl e; clear HH
          clear e
          obtain ⟨a232_0, a232_1, a232_2⟩ := a232
          obtain ⟨_, _, _⟩ := g234
          replace H := H.sel [1, 2] rfl
          refine idxE c226 c227 c228 ?_; clear c226 c227 c228
          refine loadNX [(.int .i64 a222_0), (.int .i64 a222_1), (.string a222_2)] rfl c219 ?_; clear c219
          refine loadNX [(.int .i64 a232_0), (.int .i64 a232_1), (.string a232_2)] rfl c229 ?_; clear c229
          obtain ⟨y236, e, hF237⟩ := bindS hF233; clear hF233
          have ey236 := e; clear e
          refine callFx (laws_eqNode_c a222_0 a222_1 a222_2 a232_0 a232_1 a232_2 y236 ey236) H trivial ?_; clear H ey236
          rintro _ _ w238 ⟨rfl, rfl⟩ hx (H : Cx w0 fp0 S0 w238 [Es (List (Int × Int × ByteArray)) a_ a_h, Es (List (Int × Int × ByteArray)) b_ b_h])
          replace hX := hX.trans0 hx; clear hx
          refine hold hX ?_
          obtain ⟨a239, e, hF240⟩ := bindS hF237; clear hF237
          refine boolO e ?_; clear e
          cases a239
          · have hF241 := condF hF240; clear hF240
            obtain ⟨a242, e, hF243⟩ := bindS hF241; clear hF241
            refine arO e ?_; clear e
            have hs := Option.some.inj hF243; subst hs; clear hF243
            exact ⟨a242, (), rfl, ⟨rfl, rfl, rfl, trivial⟩, H.sel [0, 1] rfl⟩
          · have hF244 := condT hF240; clear hF240
            have hs := Option.some.inj hF244; subst hs; clear hF244
            have hF245 : some _ = some _ := congrArg some (hrt _ rfl).symm
            have hs := Option.some.inj hF245; subst hs; clear hF245
            have hF246 : some _ = some _ := hF126; clear hF126
            cases hF246
            exact ⟨_, _, rfl, ⟨rfl, rfl⟩, (H.sel [] rfl).close trivial⟩
    · clear hF127 H
      rintro T248 _ w247 ⟨hr, (H : Cx w0 fp0 S0 w247 [])⟩
      subst hr
      cases hF126
      exact ⟨_, _, rfl, ⟨rfl, rfl⟩, (H.sel [] rfl).close trivial⟩
  · have hF249 := condT hF4; clear hF4
    cases hF249
    exact ⟨_, _, rfl, ⟨rfl, rfl⟩, (H.sel [] rfl).close trivial⟩

theorem laws_eqTerm_c (a__0 : List (Int × Int × ByteArray)) (a__0h : Hd) (b__0 : List (Int × Int × ByteArray)) (b__0h : Hd) (y : Bool) (hF : F_laws_eqTerm a__0 b__0 = some y) :
    ConF Tryz.prog 34 #[(.agg #[(a__0h).v]), (.agg #[(b__0h).v])] [Es (List (Int × Int × ByteArray)) a__0 a__0h, Es (List (Int × Int × ByteArray)) b__0 b__0h] [] (fun v Γ' => v = (.bool y) ∧ Γ' = []) := by
  intro w0 S0 fp0 hI hS
  have H : Cx w0 fp0 S0 w0 [Es (List (Int × Int × ByteArray)) a__0 a__0h, Es (List (Int × Int × ByteArray)) b__0 b__0h] := Cx.start hI hS
  clear hI hS
  refine enterC (args := [_, _]) gok Tryz.func34 rfl _ rfl rfl rfl ?_
  refine box_ H ?_; clear H; intro b4 w3 hx H
  clear hx
  replace H : Cx w0 fp0 S0 w3 [Bx b4 [(a__0h).v], Es (List (Int × Int × ByteArray)) a__0 a__0h, Es (List (Int × Int × ByteArray)) b__0 b__0h] := H
  refine box_ H ?_; clear H; intro b7 w6 hx H
  clear hx
  replace H : Cx w0 fp0 S0 w6 [Bx b7 [(b__0h).v], Bx b4 [(a__0h).v], Es (List (Int × Int × ByteArray)) a__0 a__0h, Es (List (Int × Int × ByteArray)) b__0 b__0h] := H
  refine sq ?_
  refine fld gok rfl rfl rfl rfl ?_
  refine load1 (H.bx 1 rfl (j := 0) rfl) ?_
  refine fld gok rfl rfl rfl rfl ?_
  refine load1 (H.bx 0 rfl (j := 0) rfl) ?_
  obtain ⟨y9, e, hF10⟩ := bindS hF; clear hF
  have ey9 := e; clear e
  refine callF (laws_eqNodeS_c a__0 a__0h b__0 b__0h y9 ey9) (Γi := []) H ⟨Vw.sh 2 rfl, Vw.sh 3 rfl, trivial⟩ ?_; clear H ey9
  rintro _ _ w11 ⟨rfl, rfl⟩ (H : Cx w0 fp0 S0 w11 [Bx b7 [(b__0h).v], Bx b4 [(a__0h).v], Es (List (Int × Int × ByteArray)) a__0 a__0h, Es (List (Int × Int × ByteArray)) b__0 b__0h])
  obtain ⟨a12, e, hF13⟩ := bindS hF10; clear hF10
  refine boolO e ?_; clear e
  cases a12
  · have hF14 := condF hF13; clear hF13
    cases hF14
    exact ⟨_, _, rfl, ⟨rfl, rfl⟩, (H.sel [] rfl).close trivial⟩
  · have hF15 := condT hF13; clear hF13
    cases hF15
    exact ⟨_, _, rfl, ⟨rfl, rfl⟩, (H.sel [] rfl).close trivial⟩

theorem laws_eqRule_c (a__0 : ByteArray) (a__1_0 : List (Int × Int × ByteArray)) (a__1_0h : Hd) (a__2_0 : List (Int × Int × ByteArray)) (a__2_0h : Hd) (b__0 : ByteArray) (b__1_0 : List (Int × Int × ByteArray)) (b__1_0h : Hd) (b__2_0 : List (Int × Int × ByteArray)) (b__2_0h : Hd) (y : Bool) (hF : F_laws_eqRule (a__0, a__1_0, a__2_0) (b__0, b__1_0, b__2_0) = some y) :
    ConF Tryz.prog 19 #[(.agg #[(.string a__0), (a__1_0h).v, (a__2_0h).v]), (.agg #[(.string b__0), (b__1_0h).v, (b__2_0h).v])] [Es (List (Int × Int × ByteArray)) a__1_0 a__1_0h, Es (List (Int × Int × ByteArray)) a__2_0 a__2_0h, Es (List (Int × Int × ByteArray)) b__1_0 b__1_0h, Es (List (Int × Int × ByteArray)) b__2_0 b__2_0h] [] (fun v Γ' => v = (.bool y) ∧ Γ' = []) := by
  intro w0 S0 fp0 hI hS
  have H : Cx w0 fp0 S0 w0 [Es (List (Int × Int × ByteArray)) a__1_0 a__1_0h, Es (List (Int × Int × ByteArray)) a__2_0 a__2_0h, Es (List (Int × Int × ByteArray)) b__1_0 b__1_0h, Es (List (Int × Int × ByteArray)) b__2_0 b__2_0h] := Cx.start hI hS
  clear hI hS
  refine enterC (args := [_, _]) gok Tryz.func19 rfl _ rfl rfl rfl ?_
  refine box_ H ?_; clear H; intro b6 w5 hx H
  clear hx
  replace H : Cx w0 fp0 S0 w5 [Bx b6 [(.string a__0), (a__1_0h).v, (a__2_0h).v], Es (List (Int × Int × ByteArray)) a__1_0 a__1_0h, Es (List (Int × Int × ByteArray)) a__2_0 a__2_0h, Es (List (Int × Int × ByteArray)) b__1_0 b__1_0h, Es (List (Int × Int × ByteArray)) b__2_0 b__2_0h] := H
  refine box_ H ?_; clear H; intro b9 w8 hx H
  clear hx
  replace H : Cx w0 fp0 S0 w8 [Bx b9 [(.string b__0), (b__1_0h).v, (b__2_0h).v], Bx b6 [(.string a__0), (a__1_0h).v, (a__2_0h).v], Es (List (Int × Int × ByteArray)) a__1_0 a__1_0h, Es (List (Int × Int × ByteArray)) a__2_0 a__2_0h, Es (List (Int × Int × ByteArray)) b__1_0 b__1_0h, Es (List (Int × Int × ByteArray)) b__2_0 b__2_0h] := H
  refine sq ?_
  refine fld gok rfl rfl rfl rfl ?_
  refine load1 (H.bx 1 rfl (j := 0) rfl) ?_
  refine fld gok rfl rfl rfl rfl ?_
  refine load1 (H.bx 0 rfl (j := 0) rfl) ?_
  obtain ⟨a11, e, hF12⟩ := bindS hF; clear hF
  refine neqZ e ?_; clear e
  cases a11
  · have hF13 := condF hF12; clear hF12
    refine sq ?_
    refine fld gok rfl rfl rfl rfl ?_
    refine loadN [(a__1_0h).v] rfl (H.bxs 1 rfl 1 rfl) ?_
    refine fld gok rfl rfl rfl rfl ?_
    refine loadN [(b__1_0h).v] rfl (H.bxs 0 rfl 1 rfl) ?_
    obtain ⟨y14, e, hF15⟩ := bindS hF13; clear hF13
    have ey14 := e; clear e
    refine callF (laws_eqTerm_c a__1_0 a__1_0h b__1_0 b__1_0h y14 ey14) (Γi := []) H ⟨Vw.sh 2 rfl, Vw.sh 4 rfl, trivial⟩ ?_; clear H ey14
    rintro _ _ w16 ⟨rfl, rfl⟩ (H : Cx w0 fp0 S0 w16 [Bx b9 [(.string b__0), (b__1_0h).v, (b__2_0h).v], Bx b6 [(.string a__0), (a__1_0h).v, (a__2_0h).v], Es (List (Int × Int × ByteArray)) a__1_0 a__1_0h, Es (List (Int × Int × ByteArray)) a__2_0 a__2_0h, Es (List (Int × Int × ByteArray)) b__1_0 b__1_0h, Es (List (Int × Int × ByteArray)) b__2_0 b__2_0h])
    obtain ⟨a17, e, hF18⟩ := bindS hF15; clear hF15
    refine boolO e ?_; clear e
    cases a17
    · have hF19 := condF hF18; clear hF18
      refine sq ?_
      refine fld gok rfl rfl rfl rfl ?_
      refine loadN [(a__2_0h).v] rfl (H.bxs 1 rfl 2 rfl) ?_
      refine fld gok rfl rfl rfl rfl ?_
      refine loadN [(b__2_0h).v] rfl (H.bxs 0 rfl 2 rfl) ?_
      obtain ⟨y20, e, hF21⟩ := bindS hF19; clear hF19
      have ey20 := e; clear e
      refine callF (laws_eqTerm_c a__2_0 a__2_0h b__2_0 b__2_0h y20 ey20) (Γi := []) H ⟨Vw.sh 3 rfl, Vw.sh 5 rfl, trivial⟩ ?_; clear H ey20
      rintro _ _ w22 ⟨rfl, rfl⟩ (H : Cx w0 fp0 S0 w22 [Bx b9 [(.string b__0), (b__1_0h).v, (b__2_0h).v], Bx b6 [(.string a__0), (a__1_0h).v, (a__2_0h).v], Es (List (Int × Int × ByteArray)) a__1_0 a__1_0h, Es (List (Int × Int × ByteArray)) a__2_0 a__2_0h, Es (List (Int × Int × ByteArray)) b__1_0 b__1_0h, Es (List (Int × Int × ByteArray)) b__2_0 b__2_0h])
      obtain ⟨a23, e, hF24⟩ := bindS hF21; clear hF21
      refine boolO e ?_; clear e
      cases a23
      · have hF25 := condF hF24; clear hF24
        cases hF25
        exact ⟨_, _, rfl, ⟨rfl, rfl⟩, (H.sel [] rfl).close trivial⟩
      · have hF26 := condT hF24; clear hF24
        cases hF26
        exact ⟨_, _, rfl, ⟨rfl, rfl⟩, (H.sel [] rfl).close trivial⟩
    · have hF27 := condT hF18; clear hF18
      cases hF27
      exact ⟨_, _, rfl, ⟨rfl, rfl⟩, (H.sel [] rfl).close trivial⟩
  · have hF28 := condT hF12; clear hF12
    cases hF28
    exact ⟨_, _, rfl, ⟨rfl, rfl⟩, (H.sel [] rfl).close trivial⟩

theorem laws_eqRuleS_c (a_ : List (ByteArray × (List (Int × Int × ByteArray)) × (List (Int × Int × ByteArray)))) (a_h : Hd) (b_ : List (ByteArray × (List (Int × Int × ByteArray)) × (List (Int × Int × ByteArray)))) (b_h : Hd) (y : Bool) (hF : F_laws_eqRuleS a_ b_ = some y) :
    ConF Tryz.prog 9 #[(a_h).v, (b_h).v] [Es (List (ByteArray × (List (Int × Int × ByteArray)) × (List (Int × Int × ByteArray)))) a_ a_h, Es (List (ByteArray × (List (Int × Int × ByteArray)) × (List (Int × Int × ByteArray)))) b_ b_h] [] (fun v Γ' => v = (.bool y) ∧ Γ' = []) := by
  intro w0 S0 fp0 hI hS
  have H : Cx w0 fp0 S0 w0 [Es (List (ByteArray × (List (Int × Int × ByteArray)) × (List (Int × Int × ByteArray)))) a_ a_h, Es (List (ByteArray × (List (Int × Int × ByteArray)) × (List (Int × Int × ByteArray)))) b_ b_h] := Cx.start hI hS
  clear hI hS
  refine enterC (args := [_, _]) gok Tryz.func9 rfl _ rfl rfl rfl ?_
  refine sq ?_
  refine lenE (H.rs (α := List (ByteArray × (List (Int × Int × ByteArray)) × (List (Int × Int × ByteArray)))) 0 rfl).len ?_
  refine lenE (H.rs (α := List (ByteArray × (List (Int × Int × ByteArray)) × (List (Int × Int × ByteArray)))) 1 rfl).len ?_
  obtain ⟨a3, e, hF4⟩ := bindS hF; clear hF
  refine boolO e ?_; clear e
  cases a3
  · have hF5 := condF hF4; clear hF4
    obtain ⟨r149, hF151, hF150⟩ := bindS hF5; clear hF5
    refine cut (fun (q152 : Unit) => []) (fun (q152 : Unit) w' => .inl () = r149 ∧ Cx w0 fp0 S0 w' []) ?_ ?_
    · skip
      refine loopW _ (fun (s241 : Int) (_ : Unit) => [(0, (a_h).v), (1, (b_h).v), (5, (.int .i64 s241))]) (fun (s241 : Int) (_ : Unit) w' => Cx w0 fp0 S0 w' [Es (List (ByteArray × (List (Int × Int × ByteArray)) × (List (Int × Int × ByteArray)))) a_ a_h, Es (List (ByteArray × (List (Int × Int × ByteArray)) × (List (Int × Int × ByteArray)))) b_ b_h]) 0 () hF151 ⟨rfl, rfl, rfl, trivial⟩ (H.sel [0, 1] rfl) ?_
      · clear H
        rintro T247 s241 _ w246 o248 (H : Cx w0 fp0 S0 w246 [Es (List (ByteArray × (List (Int × Int × ByteArray)) × (List (Int × Int × ByteArray)))) a_ a_h, Es (List (ByteArray × (List (Int × Int × ByteArray)) × (List (Int × Int × ByteArray)))) b_ b_h]) hrt hF249
        refine sq ?_
        refine lenE (H.rs (α := List (ByteArray × (List (Int × Int × ByteArray)) × (List (Int × Int × ByteArray)))) 0 rfl).len ?_
        obtain ⟨a250, e, hF251⟩ := bindS hF249; clear hF249
        refine boolO e ?_; clear e
        cases a250
        · have hF252 := condF hF251; clear hF251
          have hs := Option.some.inj hF252; subst hs; clear hF252
          have hF253 : some _ = some _ := congrArg some (hrt _ rfl).symm
          exact ⟨(), trivial, Option.some.inj hF253, H.sel [] rfl⟩
        · have hF254 := condT hF251; clear hF251
          refine sq ?_
          refine heldX H [] (.fst 0 (.fst 1 (.fst 2 (.fst 4 (.fst 5 (.fst 6 (.fst 3 (.fst 7 (.act 8 (.fst 9 .done)))))))))) mixed [] trivial (by kernel_rfl) ?_
          clear H; intro w255 H
          have hX : Ext w255 w255 := Upd.refl _ _
          have H0 := H
          obtain ⟨a262, e, hF263⟩ := bindS hF254; clear hF254
          have HH := H; clear H; obtain ⟨p260, m261, g264, c256, c257, c258, c259, H⟩ := HH.el (α := ByteArray × (List (Int × Int × ByteArray)) × (List (Int × Int × ByteArray))) 0 rfl e; clear HH
          clear e
          obtain ⟨a262_0, a262_1_0, a262_2_0⟩ := a262
          obtain ⟨_, h266, h267⟩ := g264
          replace H := H.part (β := List (Int × Int × ByteArray)) a262_1_0 (h266 : Hd) 0 rfl (fun S h => (And.left (And.right h)))
          replace H := H.part (β := List (Int × Int × ByteArray)) a262_2_0 (h267 : Hd) 1 rfl (fun S h => (And.right (And.right h)))
          replace H := H.sel [0, 1, 3, 4] rfl
          refine idxE c256 c257 c258 ?_; clear c256 c257 c258
          obtain ⟨a276, e, hF277⟩ := bindS hF263; clear hF263
          have HH := H; clear H; obtain ⟨p274, m275, g278, c270, c271, c272, c273, H⟩ := HH.el (α := ByteArray × (List (Int × Int × ByteArray)) × (List (Int × Int × ByteArray))) 3 rfl e; clear HH
          clear e
          obtain ⟨a276_0, a276_1_0, a276_2_0⟩ := a276
          obtain ⟨_, h280, h281⟩ := g278
          replace H := H.part (β := List (Int × Int × ByteArray)) a276_1_0 (h280 : Hd) 0 rfl (fun S h => (And.left (And.right h)))
          replace H := H.part (β := List (Int × Int × ByteArray)) a276_2_0 (h281 : Hd) 1 rfl (fun S h => (And.right (And.right h)))
          replace H := H.sel [0, 1, 3, 4, 5, 6] rfl
          refine idxE c270 c271 c272 ?_; clear c270 c271 c272
          refine loadNX [(.string a262_0), (h266).v, (h267).v] rfl c259 ?_; clear c259
          refine loadNX [(.string a276_0), (h280).v, (h281).v] rfl c273 ?_; clear c273
          obtain ⟨y284, e, hF285⟩ := bindS hF277; clear hF277
          have ey284 := e; clear e
          refine callFx (laws_eqRule_c a262_0 a262_1_0 h266 a262_2_0 h267 a276_0 a276_1_0 h280 a276_2_0 h281 y284 ey284) H ⟨Vw.sh 3 rfl, Vw.sh 2 rfl, Vw.sh 1 rfl, Vw.sh 0 rfl, trivial⟩ ?_; clear H ey284
          rintro _ _ w286 ⟨rfl, rfl⟩ hx (H : Cx w0 fp0 S0 w286 [Es (List (Int × Int × ByteArray)) a276_2_0 h281, Es (List (Int × Int × ByteArray)) a276_1_0 h280, Es (List (Int × Int × ByteArray)) a262_2_0 h267, Es (List (Int × Int × ByteArray)) a262_1_0 h266, Es (List (ByteArray × (List (Int × Int × ByteArray)) × (List (Int × Int × ByteArray)))) a_ a_h, Es (List (ByteArray × (List (Int × Int × ByteArray)) × (List (Int × Int × ByteArray)))) b_ b_h])
          replace hX := hX.trans0 hx; clear hx
          refine hold hX ?_
          obtain ⟨a287, e, hF288⟩ := bindS hF285; clear hF285
          refine boolO e ?_; clear e
          cases a287
          · have hF289 := condF hF288; clear hF288
            obtain ⟨a290, e, hF291⟩ := bindS hF289; clear hF289
            refine arO e ?_; clear e
            have hs := Option.some.inj hF291; subst hs; clear hF291
            exact ⟨a290, (), rfl, ⟨rfl, rfl, rfl, trivial⟩, H.sel [4, 5] rfl⟩
          · have hF292 := condT hF288; clear hF288
            have hs := Option.some.inj hF292; subst hs; clear hF292
            have hF293 : some _ = some _ := congrArg some (hrt _ rfl).symm
            have hs := Option.some.inj hF293; subst hs; clear hF293
            have hF294 : some _ = some _ := hF150; clear hF150
            cases hF294
            exact ⟨_, _, rfl, ⟨rfl, rfl⟩, (H.sel [] rfl).close trivial⟩
    · clear hF151 H
      rintro T296 _ w295 ⟨hr, (H : Cx w0 fp0 S0 w295 [])⟩
      subst hr
      cases hF150
      exact ⟨_, _, rfl, ⟨rfl, rfl⟩, (H.sel [] rfl).close trivial⟩
  · have hF297 := condT hF4; clear hF4
    cases hF297
    exact ⟨_, _, rfl, ⟨rfl, rfl⟩, (H.sel [] rfl).close trivial⟩

theorem laws_eqIntS_c (a_ : List Int) (a_h : Hd) (b_ : List Int) (b_h : Hd) (y : Bool) (hF : F_laws_eqIntS a_ b_ = some y) :
    ConF Tryz.prog 10 #[(a_h).v, (b_h).v] [Es (List Int) a_ a_h, Es (List Int) b_ b_h] [] (fun v Γ' => v = (.bool y) ∧ Γ' = []) := by
  intro w0 S0 fp0 hI hS
  have H : Cx w0 fp0 S0 w0 [Es (List Int) a_ a_h, Es (List Int) b_ b_h] := Cx.start hI hS
  clear hI hS
  refine enterC (args := [_, _]) gok Tryz.func10 rfl _ rfl rfl rfl ?_
  refine sq ?_
  refine lenE (H.rs (α := List Int) 0 rfl).len ?_
  refine lenE (H.rs (α := List Int) 1 rfl).len ?_
  obtain ⟨a3, e, hF4⟩ := bindS hF; clear hF
  refine boolO e ?_; clear e
  cases a3
  · have hF5 := condF hF4; clear hF4
    obtain ⟨r104, hF106, hF105⟩ := bindS hF5; clear hF5
    refine cut (fun (q107 : Unit) => []) (fun (q107 : Unit) w' => .inl () = r104 ∧ Cx w0 fp0 S0 w' []) ?_ ?_
    · skip
      refine loopW _ (fun (s166 : Int) (_ : Unit) => [(0, (a_h).v), (1, (b_h).v), (5, (.int .i64 s166))]) (fun (s166 : Int) (_ : Unit) w' => Cx w0 fp0 S0 w' [Es (List Int) a_ a_h, Es (List Int) b_ b_h]) 0 () hF106 ⟨rfl, rfl, rfl, trivial⟩ (H.sel [0, 1] rfl) ?_
      · clear H
        rintro T172 s166 _ w171 o173 (H : Cx w0 fp0 S0 w171 [Es (List Int) a_ a_h, Es (List Int) b_ b_h]) hrt hF174
        refine sq ?_
        refine lenE (H.rs (α := List Int) 0 rfl).len ?_
        obtain ⟨a175, e, hF176⟩ := bindS hF174; clear hF174
        refine boolO e ?_; clear e
        cases a175
        · have hF177 := condF hF176; clear hF176
          have hs := Option.some.inj hF177; subst hs; clear hF177
          have hF178 : some _ = some _ := congrArg some (hrt _ rfl).symm
          exact ⟨(), trivial, Option.some.inj hF178, H.sel [] rfl⟩
        · have hF179 := condT hF176; clear hF176
          refine sq ?_
          refine heldX H [] (.fst 0 (.fst 1 (.fst 2 (.fst 4 (.fst 5 (.fst 6 (.fst 3 (.fst 7 (.fst 8 .done))))))))) mixed [] trivial (by kernel_rfl) ?_
          clear H; intro w180 H
          have hX : Ext w180 w180 := Upd.refl _ _
          have H0 := H
          obtain ⟨a187, e, hF188⟩ := bindS hF179; clear hF179
          obtain ⟨p185, m186, c181, c182, c183, c184⟩ := (H.rs (α := List Int) 0 rfl).at1 e; clear e
          refine idxE c181 c182 c183 ?_; clear c181 c182 c183
          obtain ⟨a195, e, hF196⟩ := bindS hF188; clear hF188
          obtain ⟨p193, m194, c189, c190, c191, c192⟩ := (H.rs (α := List Int) 1 rfl).at1 e; clear e
          refine idxE c189 c190 c191 ?_; clear c189 c190 c191
          refine load1X c184 ?_; clear c184
          refine load1X c192 ?_; clear c192
          obtain ⟨a197, e, hF198⟩ := bindS hF196; clear hF196
          refine boolO e ?_; clear e
          cases a197
          · have hF199 := condF hF198; clear hF198
            obtain ⟨a200, e, hF201⟩ := bindS hF199; clear hF199
            refine arO e ?_; clear e
            have hs := Option.some.inj hF201; subst hs; clear hF201
            exact ⟨a200, (), rfl, ⟨rfl, rfl, rfl, trivial⟩, H.sel [0, 1] rfl⟩
          · have hF202 := condT hF198; clear hF198
            have hs := Option.some.inj hF202; subst hs; clear hF202
            have hF203 : some _ = some _ := congrArg some (hrt _ rfl).symm
            have hs := Option.some.inj hF203; subst hs; clear hF203
            have hF204 : some _ = some _ := hF105; clear hF105
            cases hF204
            exact ⟨_, _, rfl, ⟨rfl, rfl⟩, (H.sel [] rfl).close trivial⟩
    · clear hF106 H
      rintro T206 _ w205 ⟨hr, (H : Cx w0 fp0 S0 w205 [])⟩
      subst hr
      cases hF105
      exact ⟨_, _, rfl, ⟨rfl, rfl⟩, (H.sel [] rfl).close trivial⟩
  · have hF207 := condT hF4; clear hF4
    cases hF207
    exact ⟨_, _, rfl, ⟨rfl, rfl⟩, (H.sel [] rfl).close trivial⟩

theorem laws_FnExactAreDecreasing_c (aRules_ : List (ByteArray × (List (Int × Int × ByteArray)) × (List (Int × Int × ByteArray)))) (aRules_h : Hd) (aWeights_ : List Int) (aWeights_h : Hd) (y : Bool) (hF : F_laws_FnExactAreDecreasing aRules_ aWeights_ = some y) :
    ConF Tryz.prog 3 #[(aRules_h).v, (aWeights_h).v] [Es (List (ByteArray × (List (Int × Int × ByteArray)) × (List (Int × Int × ByteArray)))) aRules_ aRules_h, Es (List Int) aWeights_ aWeights_h] [] (fun v Γ' => v = (.bool y) ∧ Γ' = []) := by
  intro w0 S0 fp0 hI hS
  have H : Cx w0 fp0 S0 w0 [Es (List (ByteArray × (List (Int × Int × ByteArray)) × (List (Int × Int × ByteArray)))) aRules_ aRules_h, Es (List Int) aWeights_ aWeights_h] := Cx.start hI hS
  clear hI hS
  refine enterC (args := [_, _]) gok Tryz.func3 rfl _ rfl rfl rfl ?_
  refine sq ?_
  refine lenE (H.rs (α := List Int) 1 rfl).len ?_
  obtain ⟨a3, e, hF4⟩ := bindS hF; clear hF
  refine boolO e ?_; clear e
  cases a3
  · have hF5 := condF hF4; clear hF4
    obtain ⟨y6, e, hF7⟩ := bindS hF5; clear hF5
    have ey6 := e; clear e
    refine callF (laws_szRuleS_c aRules_ aRules_h 1048576 y6 ey6) (Γi := []) H ⟨Vw.sh 0 rfl, trivial⟩ ?_; clear H ey6
    rintro _ _ w8 ⟨rfl, rfl⟩ (H : Cx w0 fp0 S0 w8 [Es (List (ByteArray × (List (Int × Int × ByteArray)) × (List (Int × Int × ByteArray)))) aRules_ aRules_h, Es (List Int) aWeights_ aWeights_h])
    refine sq ?_
    obtain ⟨a9, e, hF10⟩ := bindS hF7; clear hF7
    refine boolO e ?_; clear e
    cases a9
    · have hF11 := condF hF10; clear hF10
      obtain ⟨y12, e, hF13⟩ := bindS hF11; clear hF11
      have ey12 := e; clear e
      refine callF (laws_toRuleS_c aRules_ aRules_h y12 ey12) (Γi := []) H ⟨Vw.sh 0 rfl, trivial⟩ ?_; clear H ey12
      rintro _ _ w14 ⟨h15, rfl, rfl⟩ (H : Cx w0 fp0 S0 w14 [E (List (ByteArray × (List (Int × Int × ByteArray)) × (List (Int × Int × ByteArray)))) y12 h15, Es (List (ByteArray × (List (Int × Int × ByteArray)) × (List (Int × Int × ByteArray)))) aRules_ aRules_h, Es (List Int) aWeights_ aWeights_h])
      obtain ⟨y17, e, hF18⟩ := bindS hF13; clear hF13
      have ey17 := e; clear e
      refine callF (laws_toIntS_c aWeights_ aWeights_h y17 ey17) (Γi := []) H ⟨Vw.sh 2 rfl, trivial⟩ ?_; clear H ey17
      rintro _ _ w19 ⟨h20, rfl, rfl⟩ (H : Cx w0 fp0 S0 w19 [E (List Int) y17 h20, E (List (ByteArray × (List (Int × Int × ByteArray)) × (List (Int × Int × ByteArray)))) y12 h15, Es (List (ByteArray × (List (Int × Int × ByteArray)) × (List (Int × Int × ByteArray)))) aRules_ aRules_h, Es (List Int) aWeights_ aWeights_h])
      obtain ⟨y22, e, hF23⟩ := bindS hF18; clear hF18
      obtain ⟨y22_0, y22_1⟩ := y22
      have ey22 := e; clear e
      refine callF (spec_AreDecreasing_c y12 h15 y17 h20 y22_0 y22_1 ey22) (Γi := []) H ⟨Vw.own 1 rfl, Vw.own 0 rfl, trivial⟩ ?_; clear H ey22
      rintro _ _ w24 ⟨rfl, rfl⟩ (H : Cx w0 fp0 S0 w24 [E (List Int) y17 h20, E (List (ByteArray × (List (Int × Int × ByteArray)) × (List (Int × Int × ByteArray)))) y12 h15, Es (List (ByteArray × (List (Int × Int × ByteArray)) × (List (Int × Int × ByteArray)))) aRules_ aRules_h, Es (List Int) aWeights_ aWeights_h])
      obtain ⟨y25, e, hF26⟩ := bindS hF23; clear hF23
      have ey25 := e; clear e
      refine callF (laws_toRuleS_c aRules_ aRules_h y25 ey25) (Γi := []) H ⟨Vw.sh 2 rfl, trivial⟩ ?_; clear H ey25
      rintro _ _ w27 ⟨h28, rfl, rfl⟩ (H : Cx w0 fp0 S0 w27 [E (List (ByteArray × (List (Int × Int × ByteArray)) × (List (Int × Int × ByteArray)))) y25 h28, E (List Int) y17 h20, E (List (ByteArray × (List (Int × Int × ByteArray)) × (List (Int × Int × ByteArray)))) y12 h15, Es (List (ByteArray × (List (Int × Int × ByteArray)) × (List (Int × Int × ByteArray)))) aRules_ aRules_h, Es (List Int) aWeights_ aWeights_h])
      obtain ⟨y30, e, hF31⟩ := bindS hF26; clear hF26
      have ey30 := e; clear e
      refine callF (laws_toIntS_c aWeights_ aWeights_h y30 ey30) (Γi := []) H ⟨Vw.sh 4 rfl, trivial⟩ ?_; clear H ey30
      rintro _ _ w32 ⟨h33, rfl, rfl⟩ (H : Cx w0 fp0 S0 w32 [E (List Int) y30 h33, E (List (ByteArray × (List (Int × Int × ByteArray)) × (List (Int × Int × ByteArray)))) y25 h28, E (List Int) y17 h20, E (List (ByteArray × (List (Int × Int × ByteArray)) × (List (Int × Int × ByteArray)))) y12 h15, Es (List (ByteArray × (List (Int × Int × ByteArray)) × (List (Int × Int × ByteArray)))) aRules_ aRules_h, Es (List Int) aWeights_ aWeights_h])
      obtain ⟨y35, e, hF36⟩ := bindS hF31; clear hF31
      obtain ⟨y35_0, y35_1⟩ := y35
      have ey35 := e; clear e
      refine callF (impl_AreDecreasing_c y25 h28 y30 h33 y35_0 y35_1 ey35) (Γi := []) H ⟨Vw.own 1 rfl, Vw.own 0 rfl, trivial⟩ ?_; clear H ey35
      rintro _ _ w37 ⟨rfl, rfl⟩ (H : Cx w0 fp0 S0 w37 [E (List Int) y30 h33, E (List (ByteArray × (List (Int × Int × ByteArray)) × (List (Int × Int × ByteArray)))) y25 h28, E (List Int) y17 h20, E (List (ByteArray × (List (Int × Int × ByteArray)) × (List (Int × Int × ByteArray)))) y12 h15, Es (List (ByteArray × (List (Int × Int × ByteArray)) × (List (Int × Int × ByteArray)))) aRules_ aRules_h, Es (List Int) aWeights_ aWeights_h])
      refine sq ?_
      obtain ⟨r46, hF48, hF47⟩ := bindS hF36; clear hF36
      refine cut (fun (q49 : Bool) => [(0, (aRules_h).v), (1, (aWeights_h).v), (8, (h28).v), (9, (h33).v), (45, (.bool q49))]) (fun (q49 : Bool) w' => q49 = r46 ∧ Cx w0 fp0 S0 w' [Es (List (ByteArray × (List (Int × Int × ByteArray)) × (List (Int × Int × ByteArray)))) aRules_ aRules_h, Es (List Int) aWeights_ aWeights_h, E (List (ByteArray × (List (Int × Int × ByteArray)) × (List (Int × Int × ByteArray)))) y25 h28, E (List Int) y30 h33]) ?_ ?_
      · skip
        obtain ⟨a50, e, hF51⟩ := bindS hF48; clear hF48
        refine boolO e ?_; clear e
        cases a50
        · have hF52 := condF hF51; clear hF51
          obtain ⟨a53, e, hF54⟩ := bindS hF52; clear hF52
          refine boolO e ?_; clear e
          exact ⟨a53, ⟨rfl, rfl, rfl, rfl, rfl, trivial⟩, Option.some.inj hF54, H.sel [4, 5, 1, 0] rfl⟩
        · have hF55 := condT hF51; clear hF51
          exact ⟨true, ⟨rfl, rfl, rfl, rfl, rfl, trivial⟩, Option.some.inj hF55, H.sel [4, 5, 1, 0] rfl⟩
      · clear hF48 H
        rintro T57 s44 w56 ⟨hr, (H : Cx w0 fp0 S0 w56 [Es (List (ByteArray × (List (Int × Int × ByteArray)) × (List (Int × Int × ByteArray)))) aRules_ aRules_h, Es (List Int) aWeights_ aWeights_h, E (List (ByteArray × (List (Int × Int × ByteArray)) × (List (Int × Int × ByteArray)))) y25 h28, E (List Int) y30 h33])⟩
        subst hr
        cases s44
        · have hF58 := condF hF47; clear hF47
          refine sq ?_
          obtain ⟨y59, e, hF60⟩ := bindS hF58; clear hF58
          have ey59 := e; clear e
          refine callF (laws_toRuleS_c aRules_ aRules_h y59 ey59) (Γi := []) H ⟨Vw.sh 0 rfl, trivial⟩ ?_; clear H ey59
          rintro _ _ w61 ⟨h62, rfl, rfl⟩ (H : Cx w0 fp0 S0 w61 [E (List (ByteArray × (List (Int × Int × ByteArray)) × (List (Int × Int × ByteArray)))) y59 h62, Es (List (ByteArray × (List (Int × Int × ByteArray)) × (List (Int × Int × ByteArray)))) aRules_ aRules_h, Es (List Int) aWeights_ aWeights_h, E (List (ByteArray × (List (Int × Int × ByteArray)) × (List (Int × Int × ByteArray)))) y25 h28, E (List Int) y30 h33])
          obtain ⟨y64, e, hF65⟩ := bindS hF60; clear hF60
          have ey64 := e; clear e
          refine callF (laws_eqRuleS_c y25 h28 y59 h62 y64 ey64) (Γi := []) H ⟨Vw.own 3 rfl, Vw.own 0 rfl, trivial⟩ ?_; clear H ey64
          rintro _ _ w66 ⟨rfl, rfl⟩ (H : Cx w0 fp0 S0 w66 [E (List (ByteArray × (List (Int × Int × ByteArray)) × (List (Int × Int × ByteArray)))) y59 h62, Es (List (ByteArray × (List (Int × Int × ByteArray)) × (List (Int × Int × ByteArray)))) aRules_ aRules_h, Es (List Int) aWeights_ aWeights_h, E (List (ByteArray × (List (Int × Int × ByteArray)) × (List (Int × Int × ByteArray)))) y25 h28, E (List Int) y30 h33])
          obtain ⟨a67, e, hF68⟩ := bindS hF65; clear hF65
          refine boolO e ?_; clear e
          cases a67
          · have hF69 := condF hF68; clear hF68
            refine sq ?_
            obtain ⟨y70, e, hF71⟩ := bindS hF69; clear hF69
            have ey70 := e; clear e
            refine callF (laws_toIntS_c aWeights_ aWeights_h y70 ey70) (Γi := []) H ⟨Vw.sh 2 rfl, trivial⟩ ?_; clear H ey70
            rintro _ _ w72 ⟨h73, rfl, rfl⟩ (H : Cx w0 fp0 S0 w72 [E (List Int) y70 h73, E (List (ByteArray × (List (Int × Int × ByteArray)) × (List (Int × Int × ByteArray)))) y59 h62, Es (List (ByteArray × (List (Int × Int × ByteArray)) × (List (Int × Int × ByteArray)))) aRules_ aRules_h, Es (List Int) aWeights_ aWeights_h, E (List (ByteArray × (List (Int × Int × ByteArray)) × (List (Int × Int × ByteArray)))) y25 h28, E (List Int) y30 h33])
            obtain ⟨y75, e, hF76⟩ := bindS hF71; clear hF71
            have ey75 := e; clear e
            refine callF (laws_eqIntS_c y30 h33 y70 h73 y75 ey75) (Γi := []) H ⟨Vw.own 5 rfl, Vw.own 0 rfl, trivial⟩ ?_; clear H ey75
            rintro _ _ w77 ⟨rfl, rfl⟩ (H : Cx w0 fp0 S0 w77 [E (List Int) y70 h73, E (List (ByteArray × (List (Int × Int × ByteArray)) × (List (Int × Int × ByteArray)))) y59 h62, Es (List (ByteArray × (List (Int × Int × ByteArray)) × (List (Int × Int × ByteArray)))) aRules_ aRules_h, Es (List Int) aWeights_ aWeights_h, E (List (ByteArray × (List (Int × Int × ByteArray)) × (List (Int × Int × ByteArray)))) y25 h28, E (List Int) y30 h33])
            obtain ⟨a78, e, hF79⟩ := bindS hF76; clear hF76
            refine boolO e ?_; clear e
            cases a78
            · have hF80 := condF hF79; clear hF79
              cases hF80
              exact ⟨_, _, rfl, ⟨rfl, rfl⟩, (H.sel [] rfl).close trivial⟩
            · have hF81 := condT hF79; clear hF79
              cases hF81
              exact ⟨_, _, rfl, ⟨rfl, rfl⟩, (H.sel [] rfl).close trivial⟩
          · have hF82 := condT hF68; clear hF68
            cases hF82
            exact ⟨_, _, rfl, ⟨rfl, rfl⟩, (H.sel [] rfl).close trivial⟩
        · have hF83 := condT hF47; clear hF47
          cases hF83
          exact ⟨_, _, rfl, ⟨rfl, rfl⟩, (H.sel [] rfl).close trivial⟩
    · have hF84 := condT hF10; clear hF10
      cases hF84
      exact ⟨_, _, rfl, ⟨rfl, rfl⟩, (H.sel [] rfl).close trivial⟩
  · have hF85 := condT hF4; clear hF4
    cases hF85
    exact ⟨_, _, rfl, ⟨rfl, rfl⟩, (H.sel [] rfl).close trivial⟩
end Go.Proofs.YtaiddnddgmkfnaaGreat
