/-
  Contracts, printed by a program (wip/y/gen.py): each function of Go computes its partial function. Condition of each: its partial function yields a value.
-/
import Derived.Test.YtnlbhdepagkjgaaDoorYCall
namespace Go.Proofs.YtnlbhdepagkjgaaDoor
open Go Go.Proofs.YtnlbhdepagkjgaaDoor.RW
set_option maxRecDepth 100000
set_option linter.unusedVariables false

theorem impl_twoStateSpaces_c (p_ : Int) (a__0 : Int) (a__1 : Int) (a__2 : Int) (a__3 : List (List Int)) (a__3h : Hd) (a__4 : List (List Int)) (a__4h : Hd) (a__5 : List (List Int)) (a__5h : Hd) (a__6 : List (List Int)) (a__6h : Hd) (b__0 : Int) (b__1 : Int) (b__2 : Int) (b__3 : List (List Int)) (b__3h : Hd) (b__4 : List (List Int)) (b__4h : Hd) (b__5 : List (List Int)) (b__5h : Hd) (b__6 : List (List Int)) (b__6h : Hd) (y : Bool) (hF : F_impl_twoStateSpaces p_ (a__0, a__1, a__2, a__3, a__4, a__5, a__6) (b__0, b__1, b__2, b__3, b__4, b__5, b__6) = some y) :
    ConF Tryd.prog 65 #[(.int .i64 p_), (.agg #[(.int .i64 a__0), (.int .i64 a__1), (.int .i64 a__2), (a__3h).v, (a__4h).v, (a__5h).v, (a__6h).v]), (.agg #[(.int .i64 b__0), (.int .i64 b__1), (.int .i64 b__2), (b__3h).v, (b__4h).v, (b__5h).v, (b__6h).v])] [Es (List (List Int)) a__3 a__3h, Es (List (List Int)) a__4 a__4h, Es (List (List Int)) a__5 a__5h, Es (List (List Int)) a__6 a__6h, Es (List (List Int)) b__3 b__3h, Es (List (List Int)) b__4 b__4h, Es (List (List Int)) b__5 b__5h, Es (List (List Int)) b__6 b__6h, Gl 0 [.int .i64 2, .int .i64 3, .int .i64 5, .int .i64 7]] [] (fun v Γ' => v = (.bool y) ∧ Γ' = []) := by
  intro w0 S0 fp0 hI hS
  have H : Cx w0 fp0 S0 w0 [Es (List (List Int)) a__3 a__3h, Es (List (List Int)) a__4 a__4h, Es (List (List Int)) a__5 a__5h, Es (List (List Int)) a__6 a__6h, Es (List (List Int)) b__3 b__3h, Es (List (List Int)) b__4 b__4h, Es (List (List Int)) b__5 b__5h, Es (List (List Int)) b__6 b__6h, Gl 0 [.int .i64 2, .int .i64 3, .int .i64 5, .int .i64 7]] := Cx.start hI hS
  clear hI hS
  refine enterC (args := [_, _, _]) gok Tryd.func65 rfl _ rfl rfl rfl ?_
  refine box_ H ?_; clear H; intro b11 w10 hx H
  clear hx
  replace H : Cx w0 fp0 S0 w10 [Bx b11 [(.int .i64 a__0), (.int .i64 a__1), (.int .i64 a__2), (a__3h).v, (a__4h).v, (a__5h).v, (a__6h).v], Es (List (List Int)) a__3 a__3h, Es (List (List Int)) a__4 a__4h, Es (List (List Int)) a__5 a__5h, Es (List (List Int)) a__6 a__6h, Es (List (List Int)) b__3 b__3h, Es (List (List Int)) b__4 b__4h, Es (List (List Int)) b__5 b__5h, Es (List (List Int)) b__6 b__6h, Gl 0 [.int .i64 2, .int .i64 3, .int .i64 5, .int .i64 7]] := H
  refine box_ H ?_; clear H; intro b14 w13 hx H
  clear hx
  replace H : Cx w0 fp0 S0 w13 [Bx b14 [(.int .i64 b__0), (.int .i64 b__1), (.int .i64 b__2), (b__3h).v, (b__4h).v, (b__5h).v, (b__6h).v], Bx b11 [(.int .i64 a__0), (.int .i64 a__1), (.int .i64 a__2), (a__3h).v, (a__4h).v, (a__5h).v, (a__6h).v], Es (List (List Int)) a__3 a__3h, Es (List (List Int)) a__4 a__4h, Es (List (List Int)) a__5 a__5h, Es (List (List Int)) a__6 a__6h, Es (List (List Int)) b__3 b__3h, Es (List (List Int)) b__4 b__4h, Es (List (List Int)) b__5 b__5h, Es (List (List Int)) b__6 b__6h, Gl 0 [.int .i64 2, .int .i64 3, .int .i64 5, .int .i64 7]] := H
  obtain ⟨r34, hF36, hF35⟩ := bindS hF; clear hF
  refine cut (fun (q37 : Bool) => [(6, (.bool q37))]) (fun (q37 : Bool) w' => q37 = r34 ∧ Cx w0 fp0 S0 w' [Gl 0 [.int .i64 2, .int .i64 3, .int .i64 5, .int .i64 7]]) ?_ ?_
  · skip
    refine loadN [(.int .i64 a__0), (.int .i64 a__1), (.int .i64 a__2), (a__3h).v, (a__4h).v, (a__5h).v, (a__6h).v] rfl (fun j u hj => H.bx 1 rfl hj) ?_
    obtain ⟨y38, e, hF39⟩ := bindS hF36; clear hF36
    have ey38 := e; clear e
    refine callF (impl_isStateSpace_c p_ a__0 a__1 a__2 a__3 a__3h a__4 a__4h a__5 a__5h a__6 a__6h y38 ey38) (Γi := []) H ⟨Vw.sh 2 rfl, Vw.sh 3 rfl, Vw.sh 4 rfl, Vw.sh 5 rfl, Vw.gl 10 rfl, trivial⟩ ?_; clear H ey38
    rintro _ _ w40 ⟨rfl, rfl⟩ (H : Cx w0 fp0 S0 w40 [Bx b14 [(.int .i64 b__0), (.int .i64 b__1), (.int .i64 b__2), (b__3h).v, (b__4h).v, (b__5h).v, (b__6h).v], Bx b11 [(.int .i64 a__0), (.int .i64 a__1), (.int .i64 a__2), (a__3h).v, (a__4h).v, (a__5h).v, (a__6h).v], Es (List (List Int)) a__3 a__3h, Es (List (List Int)) a__4 a__4h, Es (List (List Int)) a__5 a__5h, Es (List (List Int)) a__6 a__6h, Es (List (List Int)) b__3 b__3h, Es (List (List Int)) b__4 b__4h, Es (List (List Int)) b__5 b__5h, Es (List (List Int)) b__6 b__6h, Gl 0 [.int .i64 2, .int .i64 3, .int .i64 5, .int .i64 7]])
    cases y38
    · have hF41 := condF hF39; clear hF39
      exact ⟨false, ⟨rfl, trivial⟩, Option.some.inj hF41, H.sel [10] rfl⟩
    · have hF42 := condT hF39; clear hF39
      refine loadN [(.int .i64 b__0), (.int .i64 b__1), (.int .i64 b__2), (b__3h).v, (b__4h).v, (b__5h).v, (b__6h).v] rfl (fun j u hj => H.bx 0 rfl hj) ?_
      obtain ⟨y43, e, hF44⟩ := bindS hF42; clear hF42
      have ey43 := e; clear e
      refine callF (impl_isStateSpace_c p_ b__0 b__1 b__2 b__3 b__3h b__4 b__4h b__5 b__5h b__6 b__6h y43 ey43) (Γi := []) H ⟨Vw.sh 6 rfl, Vw.sh 7 rfl, Vw.sh 8 rfl, Vw.sh 9 rfl, Vw.gl 10 rfl, trivial⟩ ?_; clear H ey43
      rintro _ _ w45 ⟨rfl, rfl⟩ (H : Cx w0 fp0 S0 w45 [Bx b14 [(.int .i64 b__0), (.int .i64 b__1), (.int .i64 b__2), (b__3h).v, (b__4h).v, (b__5h).v, (b__6h).v], Bx b11 [(.int .i64 a__0), (.int .i64 a__1), (.int .i64 a__2), (a__3h).v, (a__4h).v, (a__5h).v, (a__6h).v], Es (List (List Int)) a__3 a__3h, Es (List (List Int)) a__4 a__4h, Es (List (List Int)) a__5 a__5h, Es (List (List Int)) a__6 a__6h, Es (List (List Int)) b__3 b__3h, Es (List (List Int)) b__4 b__4h, Es (List (List Int)) b__5 b__5h, Es (List (List Int)) b__6 b__6h, Gl 0 [.int .i64 2, .int .i64 3, .int .i64 5, .int .i64 7]])
      cases y43
      · have hF46 := condF hF44; clear hF44
        exact ⟨false, ⟨rfl, trivial⟩, Option.some.inj hF46, H.sel [10] rfl⟩
      · have hF47 := condT hF44; clear hF44
        refine fld gok rfl rfl rfl rfl ?_
        refine load1 (H.bx 1 rfl (j := 1) rfl) ?_
        refine fld gok rfl rfl rfl rfl ?_
        refine load1 (H.bx 0 rfl (j := 1) rfl) ?_
        obtain ⟨a48, e, hF49⟩ := bindS hF47; clear hF47
        refine boolO e ?_; clear e
        cases a48
        · have hF50 := condF hF49; clear hF49
          exact ⟨false, ⟨rfl, trivial⟩, Option.some.inj hF50, H.sel [10] rfl⟩
        · have hF51 := condT hF49; clear hF49
          refine fld gok rfl rfl rfl rfl ?_
          refine load1 (H.bx 1 rfl (j := 2) rfl) ?_
          refine fld gok rfl rfl rfl rfl ?_
          refine load1 (H.bx 0 rfl (j := 2) rfl) ?_
          obtain ⟨a52, e, hF53⟩ := bindS hF51; clear hF51
          refine boolO e ?_; clear e
          exact ⟨a52, ⟨rfl, trivial⟩, Option.some.inj hF53, H.sel [10] rfl⟩
  · clear hF36 H
    rintro T55 s32 w54 ⟨hr, (H : Cx w0 fp0 S0 w54 [Gl 0 [.int .i64 2, .int .i64 3, .int .i64 5, .int .i64 7]])⟩
    subst hr
    cases hF35
    exact ⟨_, _, rfl, ⟨rfl, rfl⟩, (H.sel [] rfl).close trivial⟩

theorem slices_Equal_int_int_c (s1_ : List Int) (s1_h : Hd) (s2_ : List Int) (s2_h : Hd) (y : Bool) (hF : F_slices_Equal_int_int s1_ s2_ = some y) :
    ConF Tryd.prog 159 #[(s1_h).v, (s2_h).v] [Es (List Int) s1_ s1_h, Es (List Int) s2_ s2_h] [] (fun v Γ' => v = (.bool y) ∧ Γ' = []) := by
  intro w0 S0 fp0 hI hS
  have H : Cx w0 fp0 S0 w0 [Es (List Int) s1_ s1_h, Es (List Int) s2_ s2_h] := Cx.start hI hS
  clear hI hS
  refine enterC (args := [_, _]) gok Tryd.func159 rfl _ rfl rfl rfl ?_
  refine sq ?_
  refine lenE (H.rs (α := List Int) 0 rfl).len ?_
  refine lenE (H.rs (α := List Int) 1 rfl).len ?_
  obtain ⟨a3, e, hF4⟩ := bindS hF; clear hF
  refine boolO e ?_; clear e
  cases a3
  · have hF5 := condF hF4; clear hF4
    refine sq ?_
    refine lenE (H.rs (α := List Int) 0 rfl).len ?_
    have hmx32 := (H.rs (α := List Int) 0 rfl).max
    obtain ⟨r33, e, hF34⟩ := bindS hF5; clear hF5
    refine loopO _ s1_.length (fun (k6 : Nat) (_ : Unit) (_ : Unit) => [(0, (s1_h).v), (1, (s2_h).v), (12, (.int .i64 ((s1_.length : Nat) : Int))), (13, (.int .i64 ((k6 : Nat) : Int)))]) (fun _ (_ : Unit) (_ : Unit) w' => Cx w0 fp0 S0 w' [Es (List Int) s1_ s1_h, Es (List Int) s2_ s2_h]) () () e ⟨rfl, rfl, rfl, rfl, trivial⟩ (H.sel [0, 1] rfl) ?_ ?_
    · clear H e
      rintro T36 k6 _ _ w35 o37 hk (H : Cx w0 fp0 S0 w35 [Es (List Int) s1_ s1_h, Es (List Int) s2_ s2_h]) hrt hF38
      refine boolE (z := true) (ltLen hk) ?_
      refine sq ?_
      refine sq ?_
      refine heldX H [] (.fst 0 (.fst 1 (.fst 2 (.fst 4 (.fst 5 (.fst 6 (.fst 3 (.fst 7 (.fst 8 .done))))))))) mixed (by kernel_rfl) ?_; clear H; intro w39 H
      have hX : Ext w39 w39 := Upd.refl _ _
      have H0 := H
      obtain ⟨a46, e, hF47⟩ := bindS hF38; clear hF38
      obtain ⟨p44, m45, c40, c41, c42, c43⟩ := (H.rs (α := List Int) 0 rfl).at1 e; clear e
      refine idxE c40 c41 c42 ?_; clear c40 c41 c42
      obtain ⟨a54, e, hF55⟩ := bindS hF47; clear hF47
      obtain ⟨p52, m53, c48, c49, c50, c51⟩ := (H.rs (α := List Int) 1 rfl).at1 e; clear e
      refine idxE c48 c49 c50 ?_; clear c48 c49 c50
      refine load1X c43 ?_; clear c43
      refine load1X c51 ?_; clear c51
      obtain ⟨a56, e, hF57⟩ := bindS hF55; clear hF55
      refine boolO e ?_; clear e
      cases a56
      · have hF58 := condF hF57; clear hF57
        refine arK hk hmx32 ?_
        have hs := Option.some.inj hF58; subst hs; clear hF58
        exact ⟨(), (), rfl, ⟨rfl, rfl, rfl, rfl, trivial⟩, H.sel [0, 1] rfl⟩
      · have hF59 := condT hF57; clear hF57
        have hs := Option.some.inj hF59; subst hs; clear hF59
        have hr := hrt _ rfl; subst hr
        have hF60 : some _ = some _ := hF34
        cases hF60
        exact ⟨_, _, rfl, ⟨rfl, rfl⟩, (H.sel [] rfl).close trivial⟩
    · clear H e
      rintro T62 _ _ w61 hr (H : Cx w0 fp0 S0 w61 [Es (List Int) s1_ s1_h, Es (List Int) s2_ s2_h])
      subst hr
      refine boolE (z := false) geLen ?_
      refine sq ?_
      cases hF34
      exact ⟨_, _, rfl, ⟨rfl, rfl⟩, (H.sel [] rfl).close trivial⟩
  · have hF65 := condT hF4; clear hF4
    cases hF65
    exact ⟨_, _, rfl, ⟨rfl, rfl⟩, (H.sel [] rfl).close trivial⟩

theorem slices_EqualFunc_int_int_int_int_slices_Equal_int_int_c (s1_ : List (List Int)) (s1_h : Hd) (s2_ : List (List Int)) (s2_h : Hd) (y : Bool) (hF : F_slices_EqualFunc_int_int_int_int_slices_Equal_int_int s1_ s2_ = some y) :
    ConF Tryd.prog 158 #[(s1_h).v, (s2_h).v, (.func (.func 159) #[] #[])] [Es (List (List Int)) s1_ s1_h, Es (List (List Int)) s2_ s2_h] [] (fun v Γ' => v = (.bool y) ∧ Γ' = []) := by
  intro w0 S0 fp0 hI hS
  have H : Cx w0 fp0 S0 w0 [Es (List (List Int)) s1_ s1_h, Es (List (List Int)) s2_ s2_h] := Cx.start hI hS
  clear hI hS
  refine enterC (args := [_, _, _]) gok Tryd.func158 rfl _ rfl rfl rfl ?_
  refine sq ?_
  refine lenE (H.rs (α := List (List Int)) 0 rfl).len ?_
  refine lenE (H.rs (α := List (List Int)) 1 rfl).len ?_
  obtain ⟨a3, e, hF4⟩ := bindS hF; clear hF
  refine boolO e ?_; clear e
  cases a3
  · have hF5 := condF hF4; clear hF4
    refine sq ?_
    refine lenE (H.rs (α := List (List Int)) 0 rfl).len ?_
    have hmx38 := (H.rs (α := List (List Int)) 0 rfl).max
    obtain ⟨r39, e, hF40⟩ := bindS hF5; clear hF5
    refine loopO _ s1_.length (fun (k6 : Nat) (_ : Unit) (_ : Unit) => [(1, (s2_h).v), (2, (.func (.func 159) #[] #[])), (15, (s1_h).v), (16, (.int .i64 ((s1_.length : Nat) : Int))), (17, (.int .i64 ((k6 : Nat) : Int)))]) (fun _ (_ : Unit) (_ : Unit) w' => Cx w0 fp0 S0 w' [Es (List (List Int)) s2_ s2_h, Es (List (List Int)) s1_ s1_h]) () () e ⟨rfl, rfl, rfl, rfl, rfl, trivial⟩ (H.sel [1, 0] rfl) ?_ ?_
    · clear H e
      rintro T42 k6 _ _ w41 o43 hk (H : Cx w0 fp0 S0 w41 [Es (List (List Int)) s2_ s2_h, Es (List (List Int)) s1_ s1_h]) hrt hF44
      refine boolE (z := true) (ltLen hk) ?_
      refine sq ?_
      refine sq ?_
      obtain ⟨a51, e, hF52⟩ := bindS hF44; clear hF44
      have HH := H; clear H; obtain ⟨p49, m50, h53, c45, c46, c47, c48, H⟩ := HH.elL 1 rfl e; clear HH
      clear e
      refine idxE c45 c46 c47 ?_; clear c45 c46 c47
      refine load1 c48 ?_; clear c48
      obtain ⟨a61, e, hF62⟩ := bindS hF52; clear hF52
      have HH := H; clear H; obtain ⟨p59, m60, h63, c55, c56, c57, c58, H⟩ := HH.elL 1 rfl e; clear HH
      clear e
      refine idxE c55 c56 c57 ?_; clear c55 c56 c57
      refine load1 c58 ?_; clear c58
      obtain ⟨y65, e, hF66⟩ := bindS hF62; clear hF62
      have ey65 := e; clear e
      refine callF (slices_Equal_int_int_c a51 h53 a61 h63 y65 ey65) (Γi := []) H ⟨Vw.sh 1 rfl, Vw.sh 0 rfl, trivial⟩ ?_; clear H ey65
      rintro _ _ w67 ⟨rfl, rfl⟩ (H : Cx w0 fp0 S0 w67 [Es (List Int) a61 h63, Es (List Int) a51 h53, Es (List (List Int)) s2_ s2_h, Es (List (List Int)) s1_ s1_h])
      obtain ⟨a68, e, hF69⟩ := bindS hF66; clear hF66
      refine boolO e ?_; clear e
      cases a68
      · have hF70 := condF hF69; clear hF69
        refine arK hk hmx38 ?_
        have hs := Option.some.inj hF70; subst hs; clear hF70
        exact ⟨(), (), rfl, ⟨rfl, rfl, rfl, rfl, rfl, trivial⟩, H.sel [2, 3] rfl⟩
      · have hF71 := condT hF69; clear hF69
        have hs := Option.some.inj hF71; subst hs; clear hF71
        have hr := hrt _ rfl; subst hr
        have hF72 : some _ = some _ := hF40
        cases hF72
        exact ⟨_, _, rfl, ⟨rfl, rfl⟩, (H.sel [] rfl).close trivial⟩
    · clear H e
      rintro T74 _ _ w73 hr (H : Cx w0 fp0 S0 w73 [Es (List (List Int)) s2_ s2_h, Es (List (List Int)) s1_ s1_h])
      subst hr
      refine boolE (z := false) geLen ?_
      refine sq ?_
      cases hF40
      exact ⟨_, _, rfl, ⟨rfl, rfl⟩, (H.sel [] rfl).close trivial⟩
  · have hF77 := condT hF4; clear hF4
    cases hF77
    exact ⟨_, _, rfl, ⟨rfl, rfl⟩, (H.sel [] rfl).close trivial⟩

theorem impl_sameRows_c (a_ : List (List Int)) (a_h : Hd) (b_ : List (List Int)) (b_h : Hd) (y : Bool) (hF : F_impl_sameRows a_ b_ = some y) :
    ConF Tryd.prog 150 #[(a_h).v, (b_h).v] [Es (List (List Int)) a_ a_h, Es (List (List Int)) b_ b_h] [] (fun v Γ' => v = (.bool y) ∧ Γ' = []) := by
  intro w0 S0 fp0 hI hS
  have H : Cx w0 fp0 S0 w0 [Es (List (List Int)) a_ a_h, Es (List (List Int)) b_ b_h] := Cx.start hI hS
  clear hI hS
  refine enterC (args := [_, _]) gok Tryd.func150 rfl _ rfl rfl rfl ?_
  obtain ⟨y3, e, hF4⟩ := bindS hF; clear hF
  have ey3 := e; clear e
  refine callF (slices_EqualFunc_int_int_int_int_slices_Equal_int_int_c a_ a_h b_ b_h y3 ey3) (Γi := []) H ⟨Vw.sh 0 rfl, Vw.sh 1 rfl, trivial⟩ ?_; clear H ey3
  rintro _ _ w5 ⟨rfl, rfl⟩ (H : Cx w0 fp0 S0 w5 [Es (List (List Int)) a_ a_h, Es (List (List Int)) b_ b_h])
  cases hF4
  exact ⟨_, _, rfl, ⟨rfl, rfl⟩, (H.sel [] rfl).close trivial⟩

theorem impl_equalMatrices_c (a__0 : Int) (a__1 : List (List Int)) (a__1h : Hd) (b__0 : Int) (b__1 : List (List Int)) (b__1h : Hd) (y : Bool) (hF : F_impl_equalMatrices (a__0, a__1) (b__0, b__1) = some y) :
    ConF Tryd.prog 116 #[(.agg #[(.int .i64 a__0), (a__1h).v]), (.agg #[(.int .i64 b__0), (b__1h).v])] [Es (List (List Int)) a__1 a__1h, Es (List (List Int)) b__1 b__1h] [] (fun v Γ' => v = (.bool y) ∧ Γ' = []) := by
  intro w0 S0 fp0 hI hS
  have H : Cx w0 fp0 S0 w0 [Es (List (List Int)) a__1 a__1h, Es (List (List Int)) b__1 b__1h] := Cx.start hI hS
  clear hI hS
  refine enterC (args := [_, _]) gok Tryd.func116 rfl _ rfl rfl rfl ?_
  refine box_ H ?_; clear H; intro b4 w3 hx H
  clear hx
  replace H : Cx w0 fp0 S0 w3 [Bx b4 [(.int .i64 a__0), (a__1h).v], Es (List (List Int)) a__1 a__1h, Es (List (List Int)) b__1 b__1h] := H
  refine box_ H ?_; clear H; intro b7 w6 hx H
  clear hx
  replace H : Cx w0 fp0 S0 w6 [Bx b7 [(.int .i64 b__0), (b__1h).v], Bx b4 [(.int .i64 a__0), (a__1h).v], Es (List (List Int)) a__1 a__1h, Es (List (List Int)) b__1 b__1h] := H
  obtain ⟨r18, hF20, hF19⟩ := bindS hF; clear hF
  refine cut (fun (q21 : Bool) => [(4, (.bool q21))]) (fun (q21 : Bool) w' => q21 = r18 ∧ Cx w0 fp0 S0 w' []) ?_ ?_
  · skip
    refine fld gok rfl rfl rfl rfl ?_
    refine load1 (H.bx 1 rfl (j := 0) rfl) ?_
    refine fld gok rfl rfl rfl rfl ?_
    refine load1 (H.bx 0 rfl (j := 0) rfl) ?_
    obtain ⟨a22, e, hF23⟩ := bindS hF20; clear hF20
    refine boolO e ?_; clear e
    cases a22
    · have hF24 := condF hF23; clear hF23
      exact ⟨false, ⟨rfl, trivial⟩, Option.some.inj hF24, H.sel [] rfl⟩
    · have hF25 := condT hF23; clear hF23
      refine fld gok rfl rfl rfl rfl ?_
      refine load1 (H.bx 1 rfl (j := 1) rfl) ?_
      refine fld gok rfl rfl rfl rfl ?_
      refine load1 (H.bx 0 rfl (j := 1) rfl) ?_
      obtain ⟨y26, e, hF27⟩ := bindS hF25; clear hF25
      have ey26 := e; clear e
      refine callF (impl_sameRows_c a__1 a__1h b__1 b__1h y26 ey26) (Γi := []) H ⟨Vw.sh 2 rfl, Vw.sh 3 rfl, trivial⟩ ?_; clear H ey26
      rintro _ _ w28 ⟨rfl, rfl⟩ (H : Cx w0 fp0 S0 w28 [Bx b7 [(.int .i64 b__0), (b__1h).v], Bx b4 [(.int .i64 a__0), (a__1h).v], Es (List (List Int)) a__1 a__1h, Es (List (List Int)) b__1 b__1h])
      exact ⟨y26, ⟨rfl, trivial⟩, Option.some.inj hF27, H.sel [] rfl⟩
  · clear hF20 H
    rintro T30 s16 w29 ⟨hr, (H : Cx w0 fp0 S0 w29 [])⟩
    subst hr
    cases hF19
    exact ⟨_, _, rfl, ⟨rfl, rfl⟩, (H.sel [] rfl).close trivial⟩

theorem slices_EqualFunc_impl_Matrix_impl_Matrix_impl_Matrix_impl_Matrix_impl_equalMatrices_c (s1_ : List (Int × List (List Int))) (s1_h : Hd) (s2_ : List (Int × List (List Int))) (s2_h : Hd) (y : Bool) (hF : F_slices_EqualFunc_impl_Matrix_impl_Matrix_impl_Matrix_impl_Matrix_impl_equalMatrices s1_ s2_ = some y) :
    ConF Tryd.prog 115 #[(s1_h).v, (s2_h).v, (.func (.func 116) #[] #[])] [Es (List (Int × List (List Int))) s1_ s1_h, Es (List (Int × List (List Int))) s2_ s2_h] [] (fun v Γ' => v = (.bool y) ∧ Γ' = []) := by
  intro w0 S0 fp0 hI hS
  have H : Cx w0 fp0 S0 w0 [Es (List (Int × List (List Int))) s1_ s1_h, Es (List (Int × List (List Int))) s2_ s2_h] := Cx.start hI hS
  clear hI hS
  refine enterC (args := [_, _, _]) gok Tryd.func115 rfl _ rfl rfl rfl ?_
  refine sq ?_
  refine lenE (H.rs (α := List (Int × List (List Int))) 0 rfl).len ?_
  refine lenE (H.rs (α := List (Int × List (List Int))) 1 rfl).len ?_
  obtain ⟨a3, e, hF4⟩ := bindS hF; clear hF
  refine boolO e ?_; clear e
  cases a3
  · have hF5 := condF hF4; clear hF4
    refine sq ?_
    refine lenE (H.rs (α := List (Int × List (List Int))) 0 rfl).len ?_
    have hmx50 := (H.rs (α := List (Int × List (List Int))) 0 rfl).max
    obtain ⟨r51, e, hF52⟩ := bindS hF5; clear hF5
    refine loopO _ s1_.length (fun (k6 : Nat) (_ : Unit) (_ : Unit) => [(1, (s2_h).v), (2, (.func (.func 116) #[] #[])), (15, (s1_h).v), (16, (.int .i64 ((s1_.length : Nat) : Int))), (17, (.int .i64 ((k6 : Nat) : Int)))]) (fun _ (_ : Unit) (_ : Unit) w' => Cx w0 fp0 S0 w' [Es (List (Int × List (List Int))) s2_ s2_h, Es (List (Int × List (List Int))) s1_ s1_h]) () () e ⟨rfl, rfl, rfl, rfl, rfl, trivial⟩ (H.sel [1, 0] rfl) ?_ ?_
    · clear H e
      rintro T54 k6 _ _ w53 o55 hk (H : Cx w0 fp0 S0 w53 [Es (List (Int × List (List Int))) s2_ s2_h, Es (List (Int × List (List Int))) s1_ s1_h]) hrt hF56
      refine boolE (z := true) (ltLen hk) ?_
      refine sq ?_
      refine sq ?_
      obtain ⟨a63, e, hF64⟩ := bindS hF56; clear hF56
      have HH := H; clear H; obtain ⟨p61, m62, g65, c57, c58, c59, c60, H⟩ := HH.el (α := Int × List (List Int)) 1 rfl e; clear HH
      clear e
      obtain ⟨a63_0, a63_1⟩ := a63
      obtain ⟨_, h67⟩ := g65
      replace H := H.part (β := List (List Int)) a63_1 (h67 : Hd) 0 rfl (fun S h => (And.right h))
      replace H := H.sel [0, 2, 3] rfl
      refine idxE c57 c58 c59 ?_; clear c57 c58 c59
      refine loadN [(.int .i64 a63_0), (h67).v] rfl c60 ?_; clear c60
      refine alloc_ gok rfl H ?_; clear H; intro b70 w69 hx H
      clear hx
      replace H : Cx w0 fp0 S0 w69 [Bx b70 [(.int .i64 0), (.slice none 0 0)], Es (List (List Int)) a63_1 h67, Es (List (Int × List (List Int))) s2_ s2_h, Es (List (Int × List (List Int))) s1_ s1_h] := H
      refine stA gok [(.int .i64 a63_0), (h67).v] rfl H rfl rfl rfl ?_; clear H; intro w72 H
      replace H : Cx w0 fp0 S0 w72 [Bx b70 [(.int .i64 a63_0), (h67).v], Es (List (List Int)) a63_1 h67, Es (List (Int × List (List Int))) s2_ s2_h, Es (List (Int × List (List Int))) s1_ s1_h] := H
      obtain ⟨a79, e, hF80⟩ := bindS hF64; clear hF64
      have HH := H; clear H; obtain ⟨p77, m78, g81, c73, c74, c75, c76, H⟩ := HH.el (α := Int × List (List Int)) 2 rfl e; clear HH
      clear e
      obtain ⟨a79_0, a79_1⟩ := a79
      obtain ⟨_, h83⟩ := g81
      replace H := H.part (β := List (List Int)) a79_1 (h83 : Hd) 0 rfl (fun S h => (And.right h))
      replace H := H.sel [0, 2, 3, 4, 5] rfl
      refine idxE c73 c74 c75 ?_; clear c73 c74 c75
      refine loadN [(.int .i64 a79_0), (h83).v] rfl c76 ?_; clear c76
      refine alloc_ gok rfl H ?_; clear H; intro b86 w85 hx H
      clear hx
      replace H : Cx w0 fp0 S0 w85 [Bx b86 [(.int .i64 0), (.slice none 0 0)], Es (List (List Int)) a79_1 h83, Bx b70 [(.int .i64 a63_0), (h67).v], Es (List (List Int)) a63_1 h67, Es (List (Int × List (List Int))) s2_ s2_h, Es (List (Int × List (List Int))) s1_ s1_h] := H
      refine stA gok [(.int .i64 a79_0), (h83).v] rfl H rfl rfl rfl ?_; clear H; intro w88 H
      replace H : Cx w0 fp0 S0 w88 [Bx b86 [(.int .i64 a79_0), (h83).v], Es (List (List Int)) a79_1 h83, Bx b70 [(.int .i64 a63_0), (h67).v], Es (List (List Int)) a63_1 h67, Es (List (Int × List (List Int))) s2_ s2_h, Es (List (Int × List (List Int))) s1_ s1_h] := H
      refine loadN [(.int .i64 a63_0), (h67).v] rfl (fun j u hj => H.bx 2 rfl hj) ?_
      refine loadN [(.int .i64 a79_0), (h83).v] rfl (fun j u hj => H.bx 0 rfl hj) ?_
      obtain ⟨y89, e, hF90⟩ := bindS hF80; clear hF80
      have ey89 := e; clear e
      refine callF (impl_equalMatrices_c a63_0 a63_1 h67 a79_0 a79_1 h83 y89 ey89) (Γi := []) H ⟨Vw.sh 3 rfl, Vw.sh 1 rfl, trivial⟩ ?_; clear H ey89
      rintro _ _ w91 ⟨rfl, rfl⟩ (H : Cx w0 fp0 S0 w91 [Bx b86 [(.int .i64 a79_0), (h83).v], Es (List (List Int)) a79_1 h83, Bx b70 [(.int .i64 a63_0), (h67).v], Es (List (List Int)) a63_1 h67, Es (List (Int × List (List Int))) s2_ s2_h, Es (List (Int × List (List Int))) s1_ s1_h])
      obtain ⟨a92, e, hF93⟩ := bindS hF90; clear hF90
      refine boolO e ?_; clear e
      cases a92
      · have hF94 := condF hF93; clear hF93
        refine arK hk hmx50 ?_
        have hs := Option.some.inj hF94; subst hs; clear hF94
        exact ⟨(), (), rfl, ⟨rfl, rfl, rfl, rfl, rfl, trivial⟩, H.sel [4, 5] rfl⟩
      · have hF95 := condT hF93; clear hF93
        have hs := Option.some.inj hF95; subst hs; clear hF95
        have hr := hrt _ rfl; subst hr
        have hF96 : some _ = some _ := hF52
        cases hF96
        exact ⟨_, _, rfl, ⟨rfl, rfl⟩, (H.sel [] rfl).close trivial⟩
    · clear H e
      rintro T98 _ _ w97 hr (H : Cx w0 fp0 S0 w97 [Es (List (Int × List (List Int))) s2_ s2_h, Es (List (Int × List (List Int))) s1_ s1_h])
      subst hr
      refine boolE (z := false) geLen ?_
      refine sq ?_
      cases hF52
      exact ⟨_, _, rfl, ⟨rfl, rfl⟩, (H.sel [] rfl).close trivial⟩
  · have hF101 := condT hF4; clear hF4
    cases hF101
    exact ⟨_, _, rfl, ⟨rfl, rfl⟩, (H.sel [] rfl).close trivial⟩

theorem impl_sameOutputs_c (p_ : Int) (a__0 : Int) (a__1 : Int) (a__2 : Int) (a__3 : List (List Int)) (a__3h : Hd) (a__4 : List (List Int)) (a__4h : Hd) (a__5 : List (List Int)) (a__5h : Hd) (a__6 : List (List Int)) (a__6h : Hd) (b__0 : Int) (b__1 : Int) (b__2 : Int) (b__3 : List (List Int)) (b__3h : Hd) (b__4 : List (List Int)) (b__4h : Hd) (b__5 : List (List Int)) (b__5h : Hd) (b__6 : List (List Int)) (b__6h : Hd) (y : Bool) (hF : F_impl_sameOutputs p_ (a__0, a__1, a__2, a__3, a__4, a__5, a__6) (b__0, b__1, b__2, b__3, b__4, b__5, b__6) = some y) :
    ConF Tryd.prog 66 #[(.int .i64 p_), (.agg #[(.int .i64 a__0), (.int .i64 a__1), (.int .i64 a__2), (a__3h).v, (a__4h).v, (a__5h).v, (a__6h).v]), (.agg #[(.int .i64 b__0), (.int .i64 b__1), (.int .i64 b__2), (b__3h).v, (b__4h).v, (b__5h).v, (b__6h).v])] [Es (List (List Int)) a__3 a__3h, Es (List (List Int)) a__4 a__4h, Es (List (List Int)) a__5 a__5h, Es (List (List Int)) a__6 a__6h, Es (List (List Int)) b__3 b__3h, Es (List (List Int)) b__4 b__4h, Es (List (List Int)) b__5 b__5h, Es (List (List Int)) b__6 b__6h] [] (fun v Γ' => v = (.bool y) ∧ Γ' = []) := by
  intro w0 S0 fp0 hI hS
  have H : Cx w0 fp0 S0 w0 [Es (List (List Int)) a__3 a__3h, Es (List (List Int)) a__4 a__4h, Es (List (List Int)) a__5 a__5h, Es (List (List Int)) a__6 a__6h, Es (List (List Int)) b__3 b__3h, Es (List (List Int)) b__4 b__4h, Es (List (List Int)) b__5 b__5h, Es (List (List Int)) b__6 b__6h] := Cx.start hI hS
  clear hI hS
  refine enterC (args := [_, _, _]) gok Tryd.func66 rfl _ rfl rfl rfl ?_
  refine box_ H ?_; clear H; intro b10 w9 hx H
  clear hx
  replace H : Cx w0 fp0 S0 w9 [Bx b10 [(.int .i64 a__0), (.int .i64 a__1), (.int .i64 a__2), (a__3h).v, (a__4h).v, (a__5h).v, (a__6h).v], Es (List (List Int)) a__3 a__3h, Es (List (List Int)) a__4 a__4h, Es (List (List Int)) a__5 a__5h, Es (List (List Int)) a__6 a__6h, Es (List (List Int)) b__3 b__3h, Es (List (List Int)) b__4 b__4h, Es (List (List Int)) b__5 b__5h, Es (List (List Int)) b__6 b__6h] := H
  refine box_ H ?_; clear H; intro b13 w12 hx H
  clear hx
  replace H : Cx w0 fp0 S0 w12 [Bx b13 [(.int .i64 b__0), (.int .i64 b__1), (.int .i64 b__2), (b__3h).v, (b__4h).v, (b__5h).v, (b__6h).v], Bx b10 [(.int .i64 a__0), (.int .i64 a__1), (.int .i64 a__2), (a__3h).v, (a__4h).v, (a__5h).v, (a__6h).v], Es (List (List Int)) a__3 a__3h, Es (List (List Int)) a__4 a__4h, Es (List (List Int)) a__5 a__5h, Es (List (List Int)) a__6 a__6h, Es (List (List Int)) b__3 b__3h, Es (List (List Int)) b__4 b__4h, Es (List (List Int)) b__5 b__5h, Es (List (List Int)) b__6 b__6h] := H
  refine fld gok rfl rfl rfl rfl ?_
  refine load1 (H.bx 1 rfl (j := 0) rfl) ?_
  refine fld gok rfl rfl rfl rfl ?_
  refine load1 (H.bx 0 rfl (j := 0) rfl) ?_
  obtain ⟨a15, e, hF16⟩ := bindS hF; clear hF
  refine arO e ?_; clear e
  obtain ⟨a17, e, hF18⟩ := bindS hF16; clear hF16
  refine arO e ?_; clear e
  refine heldX H [] (.fst 1 (.fst 2 (.fst 5 (.fst 6 (.fst 0 (.fst 4 (.act 3 (.act 7 (.act 8 (.fst 9 .done)))))))))) mixed (by kernel_rfl) ?_; clear H; intro w19 H
  have hX : Ext w19 w19 := Upd.refl _ _
  have H0 := H
  refine loadNX [(.int .i64 a__0), (.int .i64 a__1), (.int .i64 a__2), (a__3h).v, (a__4h).v, (a__5h).v, (a__6h).v] rfl (fun j u hj => H.bx 1 rfl hj) ?_
  refine loadNX [(.int .i64 b__0), (.int .i64 b__1), (.int .i64 b__2), (b__3h).v, (b__4h).v, (b__5h).v, (b__6h).v] rfl (fun j u hj => H.bx 0 rfl hj) ?_
  obtain ⟨y20, e, hF21⟩ := bindS hF18; clear hF18
  have ey20 := e; clear e
  refine callFx (impl_StateSpace_markov_c a__0 a__1 a__2 a__3 a__3h a__4 a__4h a__5 a__5h a__6 a__6h p_ a17 y20 ey20) H ⟨Vw.sh 2 rfl, Vw.sh 3 rfl, Vw.sh 4 rfl, Vw.sh 5 rfl, trivial⟩ ?_; clear H ey20
  rintro _ _ w22 ⟨h23, rfl, rfl⟩ hx (H : Cx w0 fp0 S0 w22 [E (List (Int × List (List Int))) y20 h23, Bx b13 [(.int .i64 b__0), (.int .i64 b__1), (.int .i64 b__2), (b__3h).v, (b__4h).v, (b__5h).v, (b__6h).v], Bx b10 [(.int .i64 a__0), (.int .i64 a__1), (.int .i64 a__2), (a__3h).v, (a__4h).v, (a__5h).v, (a__6h).v], Es (List (List Int)) a__3 a__3h, Es (List (List Int)) a__4 a__4h, Es (List (List Int)) a__5 a__5h, Es (List (List Int)) a__6 a__6h, Es (List (List Int)) b__3 b__3h, Es (List (List Int)) b__4 b__4h, Es (List (List Int)) b__5 b__5h, Es (List (List Int)) b__6 b__6h])
  replace hX := hX.trans0 hx; clear hx
  refine hold hX ?_
  obtain ⟨y25, e, hF26⟩ := bindS hF21; clear hF21
  have ey25 := e; clear e
  refine callFx (impl_StateSpace_markov_c b__0 b__1 b__2 b__3 b__3h b__4 b__4h b__5 b__5h b__6 b__6h p_ a17 y25 ey25) H ⟨Vw.sh 7 rfl, Vw.sh 8 rfl, Vw.sh 9 rfl, Vw.sh 10 rfl, trivial⟩ ?_; clear H ey25
  rintro _ _ w27 ⟨h28, rfl, rfl⟩ hx (H : Cx w0 fp0 S0 w27 [E (List (Int × List (List Int))) y25 h28, E (List (Int × List (List Int))) y20 h23, Bx b13 [(.int .i64 b__0), (.int .i64 b__1), (.int .i64 b__2), (b__3h).v, (b__4h).v, (b__5h).v, (b__6h).v], Bx b10 [(.int .i64 a__0), (.int .i64 a__1), (.int .i64 a__2), (a__3h).v, (a__4h).v, (a__5h).v, (a__6h).v], Es (List (List Int)) a__3 a__3h, Es (List (List Int)) a__4 a__4h, Es (List (List Int)) a__5 a__5h, Es (List (List Int)) a__6 a__6h, Es (List (List Int)) b__3 b__3h, Es (List (List Int)) b__4 b__4h, Es (List (List Int)) b__5 b__5h, Es (List (List Int)) b__6 b__6h])
  replace hX := hX.trans0 hx; clear hx
  refine hold hX ?_
  obtain ⟨y30, e, hF31⟩ := bindS hF26; clear hF26
  have ey30 := e; clear e
  refine callFx (slices_EqualFunc_impl_Matrix_impl_Matrix_impl_Matrix_impl_Matrix_impl_equalMatrices_c y20 h23 y25 h28 y30 ey30) H ⟨Vw.own 1 rfl, Vw.own 0 rfl, trivial⟩ ?_; clear H ey30
  rintro _ _ w32 ⟨rfl, rfl⟩ hx (H : Cx w0 fp0 S0 w32 [E (List (Int × List (List Int))) y25 h28, E (List (Int × List (List Int))) y20 h23, Bx b13 [(.int .i64 b__0), (.int .i64 b__1), (.int .i64 b__2), (b__3h).v, (b__4h).v, (b__5h).v, (b__6h).v], Bx b10 [(.int .i64 a__0), (.int .i64 a__1), (.int .i64 a__2), (a__3h).v, (a__4h).v, (a__5h).v, (a__6h).v], Es (List (List Int)) a__3 a__3h, Es (List (List Int)) a__4 a__4h, Es (List (List Int)) a__5 a__5h, Es (List (List Int)) a__6 a__6h, Es (List (List Int)) b__3 b__3h, Es (List (List Int)) b__4 b__4h, Es (List (List Int)) b__5 b__5h, Es (List (List Int)) b__6 b__6h])
  replace hX := hX.trans0 hx; clear hx
  refine hold hX ?_
  cases hF31
  exact ⟨_, _, rfl, ⟨rfl, rfl⟩, (H.sel [] rfl).close trivial⟩

theorem impl_SameOutputs_c (p_ : Int) (a__0 : Int) (a__1 : Int) (a__2 : Int) (a__3 : List (List Int)) (a__3h : Hd) (a__4 : List (List Int)) (a__4h : Hd) (a__5 : List (List Int)) (a__5h : Hd) (a__6 : List (List Int)) (a__6h : Hd) (b__0 : Int) (b__1 : Int) (b__2 : Int) (b__3 : List (List Int)) (b__3h : Hd) (b__4 : List (List Int)) (b__4h : Hd) (b__5 : List (List Int)) (b__5h : Hd) (b__6 : List (List Int)) (b__6h : Hd) (y0 : Bool) (y1 : Bool) (hF : F_impl_SameOutputs p_ (a__0, a__1, a__2, a__3, a__4, a__5, a__6) (b__0, b__1, b__2, b__3, b__4, b__5, b__6) = some (y0, y1)) :
    ConF Tryd.prog 17 #[(.int .i64 p_), (.agg #[(.int .i64 a__0), (.int .i64 a__1), (.int .i64 a__2), (a__3h).v, (a__4h).v, (a__5h).v, (a__6h).v]), (.agg #[(.int .i64 b__0), (.int .i64 b__1), (.int .i64 b__2), (b__3h).v, (b__4h).v, (b__5h).v, (b__6h).v])] [Es (List (List Int)) a__3 a__3h, Es (List (List Int)) a__4 a__4h, Es (List (List Int)) a__5 a__5h, Es (List (List Int)) a__6 a__6h, Es (List (List Int)) b__3 b__3h, Es (List (List Int)) b__4 b__4h, Es (List (List Int)) b__5 b__5h, Es (List (List Int)) b__6 b__6h, Gl 0 [.int .i64 2, .int .i64 3, .int .i64 5, .int .i64 7]] [] (fun v Γ' => v = (.tuple #[(.bool y0), (.bool y1)]) ∧ Γ' = []) := by
  intro w0 S0 fp0 hI hS
  have H : Cx w0 fp0 S0 w0 [Es (List (List Int)) a__3 a__3h, Es (List (List Int)) a__4 a__4h, Es (List (List Int)) a__5 a__5h, Es (List (List Int)) a__6 a__6h, Es (List (List Int)) b__3 b__3h, Es (List (List Int)) b__4 b__4h, Es (List (List Int)) b__5 b__5h, Es (List (List Int)) b__6 b__6h, Gl 0 [.int .i64 2, .int .i64 3, .int .i64 5, .int .i64 7]] := Cx.start hI hS
  clear hI hS
  refine enterC (args := [_, _, _]) gok Tryd.func17 rfl _ rfl rfl rfl ?_
  refine box_ H ?_; clear H; intro b11 w10 hx H
  clear hx
  replace H : Cx w0 fp0 S0 w10 [Bx b11 [(.int .i64 a__0), (.int .i64 a__1), (.int .i64 a__2), (a__3h).v, (a__4h).v, (a__5h).v, (a__6h).v], Es (List (List Int)) a__3 a__3h, Es (List (List Int)) a__4 a__4h, Es (List (List Int)) a__5 a__5h, Es (List (List Int)) a__6 a__6h, Es (List (List Int)) b__3 b__3h, Es (List (List Int)) b__4 b__4h, Es (List (List Int)) b__5 b__5h, Es (List (List Int)) b__6 b__6h, Gl 0 [.int .i64 2, .int .i64 3, .int .i64 5, .int .i64 7]] := H
  refine box_ H ?_; clear H; intro b14 w13 hx H
  clear hx
  replace H : Cx w0 fp0 S0 w13 [Bx b14 [(.int .i64 b__0), (.int .i64 b__1), (.int .i64 b__2), (b__3h).v, (b__4h).v, (b__5h).v, (b__6h).v], Bx b11 [(.int .i64 a__0), (.int .i64 a__1), (.int .i64 a__2), (a__3h).v, (a__4h).v, (a__5h).v, (a__6h).v], Es (List (List Int)) a__3 a__3h, Es (List (List Int)) a__4 a__4h, Es (List (List Int)) a__5 a__5h, Es (List (List Int)) a__6 a__6h, Es (List (List Int)) b__3 b__3h, Es (List (List Int)) b__4 b__4h, Es (List (List Int)) b__5 b__5h, Es (List (List Int)) b__6 b__6h, Gl 0 [.int .i64 2, .int .i64 3, .int .i64 5, .int .i64 7]] := H
  refine sq ?_
  refine loadN [(.int .i64 a__0), (.int .i64 a__1), (.int .i64 a__2), (a__3h).v, (a__4h).v, (a__5h).v, (a__6h).v] rfl (fun j u hj => H.bx 1 rfl hj) ?_
  refine loadN [(.int .i64 b__0), (.int .i64 b__1), (.int .i64 b__2), (b__3h).v, (b__4h).v, (b__5h).v, (b__6h).v] rfl (fun j u hj => H.bx 0 rfl hj) ?_
  obtain ⟨y16, e, hF17⟩ := bindS hF; clear hF
  have ey16 := e; clear e
  refine callF (impl_twoStateSpaces_c p_ a__0 a__1 a__2 a__3 a__3h a__4 a__4h a__5 a__5h a__6 a__6h b__0 b__1 b__2 b__3 b__3h b__4 b__4h b__5 b__5h b__6 b__6h y16 ey16) (Γi := []) H ⟨Vw.sh 2 rfl, Vw.sh 3 rfl, Vw.sh 4 rfl, Vw.sh 5 rfl, Vw.sh 6 rfl, Vw.sh 7 rfl, Vw.sh 8 rfl, Vw.sh 9 rfl, Vw.gl 10 rfl, trivial⟩ ?_; clear H ey16
  rintro _ _ w18 ⟨rfl, rfl⟩ (H : Cx w0 fp0 S0 w18 [Bx b14 [(.int .i64 b__0), (.int .i64 b__1), (.int .i64 b__2), (b__3h).v, (b__4h).v, (b__5h).v, (b__6h).v], Bx b11 [(.int .i64 a__0), (.int .i64 a__1), (.int .i64 a__2), (a__3h).v, (a__4h).v, (a__5h).v, (a__6h).v], Es (List (List Int)) a__3 a__3h, Es (List (List Int)) a__4 a__4h, Es (List (List Int)) a__5 a__5h, Es (List (List Int)) a__6 a__6h, Es (List (List Int)) b__3 b__3h, Es (List (List Int)) b__4 b__4h, Es (List (List Int)) b__5 b__5h, Es (List (List Int)) b__6 b__6h, Gl 0 [.int .i64 2, .int .i64 3, .int .i64 5, .int .i64 7]])
  obtain ⟨a19, e, hF20⟩ := bindS hF17; clear hF17
  refine boolO e ?_; clear e
  cases a19
  · have hF21 := condF hF20; clear hF20
    refine loadN [(.int .i64 a__0), (.int .i64 a__1), (.int .i64 a__2), (a__3h).v, (a__4h).v, (a__5h).v, (a__6h).v] rfl (fun j u hj => H.bx 1 rfl hj) ?_
    refine loadN [(.int .i64 b__0), (.int .i64 b__1), (.int .i64 b__2), (b__3h).v, (b__4h).v, (b__5h).v, (b__6h).v] rfl (fun j u hj => H.bx 0 rfl hj) ?_
    obtain ⟨y22, e, hF23⟩ := bindS hF21; clear hF21
    have ey22 := e; clear e
    refine callF (impl_sameOutputs_c p_ a__0 a__1 a__2 a__3 a__3h a__4 a__4h a__5 a__5h a__6 a__6h b__0 b__1 b__2 b__3 b__3h b__4 b__4h b__5 b__5h b__6 b__6h y22 ey22) (Γi := []) H ⟨Vw.sh 2 rfl, Vw.sh 3 rfl, Vw.sh 4 rfl, Vw.sh 5 rfl, Vw.sh 6 rfl, Vw.sh 7 rfl, Vw.sh 8 rfl, Vw.sh 9 rfl, trivial⟩ ?_; clear H ey22
    rintro _ _ w24 ⟨rfl, rfl⟩ (H : Cx w0 fp0 S0 w24 [Bx b14 [(.int .i64 b__0), (.int .i64 b__1), (.int .i64 b__2), (b__3h).v, (b__4h).v, (b__5h).v, (b__6h).v], Bx b11 [(.int .i64 a__0), (.int .i64 a__1), (.int .i64 a__2), (a__3h).v, (a__4h).v, (a__5h).v, (a__6h).v], Es (List (List Int)) a__3 a__3h, Es (List (List Int)) a__4 a__4h, Es (List (List Int)) a__5 a__5h, Es (List (List Int)) a__6 a__6h, Es (List (List Int)) b__3 b__3h, Es (List (List Int)) b__4 b__4h, Es (List (List Int)) b__5 b__5h, Es (List (List Int)) b__6 b__6h, Gl 0 [.int .i64 2, .int .i64 3, .int .i64 5, .int .i64 7]])
    cases hF23
    exact ⟨_, _, rfl, ⟨rfl, rfl⟩, (H.sel [] rfl).close trivial⟩
  · have hF25 := condT hF20; clear hF20
    cases hF25
    exact ⟨_, _, rfl, ⟨rfl, rfl⟩, (H.sel [] rfl).close trivial⟩

theorem laws_FnExactSameOutputs_c (aP_ : Int) (aA__0 : Int) (aA__1 : Int) (aA__2 : Int) (aA__3 : List (List Int)) (aA__3h : Hd) (aA__4 : List (List Int)) (aA__4h : Hd) (aA__5 : List (List Int)) (aA__5h : Hd) (aA__6 : List (List Int)) (aA__6h : Hd) (aB__0 : Int) (aB__1 : Int) (aB__2 : Int) (aB__3 : List (List Int)) (aB__3h : Hd) (aB__4 : List (List Int)) (aB__4h : Hd) (aB__5 : List (List Int)) (aB__5h : Hd) (aB__6 : List (List Int)) (aB__6h : Hd) (y : Bool) (hF : F_laws_FnExactSameOutputs aP_ (aA__0, aA__1, aA__2, aA__3, aA__4, aA__5, aA__6) (aB__0, aB__1, aB__2, aB__3, aB__4, aB__5, aB__6) = some y) :
    ConF Tryd.prog 3 #[(.int .i64 aP_), (.agg #[(.int .i64 aA__0), (.int .i64 aA__1), (.int .i64 aA__2), (aA__3h).v, (aA__4h).v, (aA__5h).v, (aA__6h).v]), (.agg #[(.int .i64 aB__0), (.int .i64 aB__1), (.int .i64 aB__2), (aB__3h).v, (aB__4h).v, (aB__5h).v, (aB__6h).v])] [Es (List (List Int)) aA__3 aA__3h, Es (List (List Int)) aA__4 aA__4h, Es (List (List Int)) aA__5 aA__5h, Es (List (List Int)) aA__6 aA__6h, Es (List (List Int)) aB__3 aB__3h, Es (List (List Int)) aB__4 aB__4h, Es (List (List Int)) aB__5 aB__5h, Es (List (List Int)) aB__6 aB__6h, Gl 0 [.int .i64 2, .int .i64 3, .int .i64 5, .int .i64 7]] [] (fun v Γ' => v = (.bool y) ∧ Γ' = []) := by
  intro w0 S0 fp0 hI hS
  have H : Cx w0 fp0 S0 w0 [Es (List (List Int)) aA__3 aA__3h, Es (List (List Int)) aA__4 aA__4h, Es (List (List Int)) aA__5 aA__5h, Es (List (List Int)) aA__6 aA__6h, Es (List (List Int)) aB__3 aB__3h, Es (List (List Int)) aB__4 aB__4h, Es (List (List Int)) aB__5 aB__5h, Es (List (List Int)) aB__6 aB__6h, Gl 0 [.int .i64 2, .int .i64 3, .int .i64 5, .int .i64 7]] := Cx.start hI hS
  clear hI hS
  refine enterC (args := [_, _, _]) gok Tryd.func3 rfl _ rfl rfl rfl ?_
  refine box_ H ?_; clear H; intro b11 w10 hx H
  clear hx
  replace H : Cx w0 fp0 S0 w10 [Bx b11 [(.int .i64 aA__0), (.int .i64 aA__1), (.int .i64 aA__2), (aA__3h).v, (aA__4h).v, (aA__5h).v, (aA__6h).v], Es (List (List Int)) aA__3 aA__3h, Es (List (List Int)) aA__4 aA__4h, Es (List (List Int)) aA__5 aA__5h, Es (List (List Int)) aA__6 aA__6h, Es (List (List Int)) aB__3 aB__3h, Es (List (List Int)) aB__4 aB__4h, Es (List (List Int)) aB__5 aB__5h, Es (List (List Int)) aB__6 aB__6h, Gl 0 [.int .i64 2, .int .i64 3, .int .i64 5, .int .i64 7]] := H
  refine box_ H ?_; clear H; intro b14 w13 hx H
  clear hx
  replace H : Cx w0 fp0 S0 w13 [Bx b14 [(.int .i64 aB__0), (.int .i64 aB__1), (.int .i64 aB__2), (aB__3h).v, (aB__4h).v, (aB__5h).v, (aB__6h).v], Bx b11 [(.int .i64 aA__0), (.int .i64 aA__1), (.int .i64 aA__2), (aA__3h).v, (aA__4h).v, (aA__5h).v, (aA__6h).v], Es (List (List Int)) aA__3 aA__3h, Es (List (List Int)) aA__4 aA__4h, Es (List (List Int)) aA__5 aA__5h, Es (List (List Int)) aA__6 aA__6h, Es (List (List Int)) aB__3 aB__3h, Es (List (List Int)) aB__4 aB__4h, Es (List (List Int)) aB__5 aB__5h, Es (List (List Int)) aB__6 aB__6h, Gl 0 [.int .i64 2, .int .i64 3, .int .i64 5, .int .i64 7]] := H
  refine loadN [(.int .i64 aA__0), (.int .i64 aA__1), (.int .i64 aA__2), (aA__3h).v, (aA__4h).v, (aA__5h).v, (aA__6h).v] rfl (fun j u hj => H.bx 1 rfl hj) ?_
  obtain ⟨y16, e, hF17⟩ := bindS hF; clear hF
  have ey16 := e; clear e
  refine callF (laws_szStateSpace_c aA__0 aA__1 aA__2 aA__3 aA__3h aA__4 aA__4h aA__5 aA__5h aA__6 aA__6h 1048576 y16 ey16) (Γi := []) H ⟨Vw.sh 2 rfl, Vw.sh 3 rfl, Vw.sh 4 rfl, Vw.sh 5 rfl, trivial⟩ ?_; clear H ey16
  rintro _ _ w18 ⟨rfl, rfl⟩ (H : Cx w0 fp0 S0 w18 [Bx b14 [(.int .i64 aB__0), (.int .i64 aB__1), (.int .i64 aB__2), (aB__3h).v, (aB__4h).v, (aB__5h).v, (aB__6h).v], Bx b11 [(.int .i64 aA__0), (.int .i64 aA__1), (.int .i64 aA__2), (aA__3h).v, (aA__4h).v, (aA__5h).v, (aA__6h).v], Es (List (List Int)) aA__3 aA__3h, Es (List (List Int)) aA__4 aA__4h, Es (List (List Int)) aA__5 aA__5h, Es (List (List Int)) aA__6 aA__6h, Es (List (List Int)) aB__3 aB__3h, Es (List (List Int)) aB__4 aB__4h, Es (List (List Int)) aB__5 aB__5h, Es (List (List Int)) aB__6 aB__6h, Gl 0 [.int .i64 2, .int .i64 3, .int .i64 5, .int .i64 7]])
  refine sq ?_
  obtain ⟨a19, e, hF20⟩ := bindS hF17; clear hF17
  refine boolO e ?_; clear e
  cases a19
  · have hF21 := condF hF20; clear hF20
    refine loadN [(.int .i64 aB__0), (.int .i64 aB__1), (.int .i64 aB__2), (aB__3h).v, (aB__4h).v, (aB__5h).v, (aB__6h).v] rfl (fun j u hj => H.bx 0 rfl hj) ?_
    obtain ⟨y22, e, hF23⟩ := bindS hF21; clear hF21
    have ey22 := e; clear e
    refine callF (laws_szStateSpace_c aB__0 aB__1 aB__2 aB__3 aB__3h aB__4 aB__4h aB__5 aB__5h aB__6 aB__6h y16 y22 ey22) (Γi := []) H ⟨Vw.sh 6 rfl, Vw.sh 7 rfl, Vw.sh 8 rfl, Vw.sh 9 rfl, trivial⟩ ?_; clear H ey22
    rintro _ _ w24 ⟨rfl, rfl⟩ (H : Cx w0 fp0 S0 w24 [Bx b14 [(.int .i64 aB__0), (.int .i64 aB__1), (.int .i64 aB__2), (aB__3h).v, (aB__4h).v, (aB__5h).v, (aB__6h).v], Bx b11 [(.int .i64 aA__0), (.int .i64 aA__1), (.int .i64 aA__2), (aA__3h).v, (aA__4h).v, (aA__5h).v, (aA__6h).v], Es (List (List Int)) aA__3 aA__3h, Es (List (List Int)) aA__4 aA__4h, Es (List (List Int)) aA__5 aA__5h, Es (List (List Int)) aA__6 aA__6h, Es (List (List Int)) aB__3 aB__3h, Es (List (List Int)) aB__4 aB__4h, Es (List (List Int)) aB__5 aB__5h, Es (List (List Int)) aB__6 aB__6h, Gl 0 [.int .i64 2, .int .i64 3, .int .i64 5, .int .i64 7]])
    refine sq ?_
    obtain ⟨a25, e, hF26⟩ := bindS hF23; clear hF23
    refine boolO e ?_; clear e
    cases a25
    · have hF27 := condF hF26; clear hF26
      refine heldX H [] (.fst 0 (.fst 1 (.fst 3 (.act 2 (.act 4 (.act 5 (.fst 6 (.fst 7 (.fst 8 (.fst 9 (.fst 10 .done))))))))))) mixed (by kernel_rfl) ?_; clear H; intro w28 H
      have hX : Ext w28 w28 := Upd.refl _ _
      have H0 := H
      refine loadNX [(.int .i64 aA__0), (.int .i64 aA__1), (.int .i64 aA__2), (aA__3h).v, (aA__4h).v, (aA__5h).v, (aA__6h).v] rfl (fun j u hj => H.bx 1 rfl hj) ?_
      refine loadNX [(.int .i64 aB__0), (.int .i64 aB__1), (.int .i64 aB__2), (aB__3h).v, (aB__4h).v, (aB__5h).v, (aB__6h).v] rfl (fun j u hj => H.bx 0 rfl hj) ?_
      obtain ⟨y29, e, hF30⟩ := bindS hF27; clear hF27
      obtain ⟨y29_0, y29_1, y29_2, y29_3, y29_4, y29_5, y29_6⟩ := y29
      have ey29 := e; clear e
      refine callFx (laws_toStateSpace_c aA__0 aA__1 aA__2 aA__3 aA__3h aA__4 aA__4h aA__5 aA__5h aA__6 aA__6h y29_0 y29_1 y29_2 y29_3 y29_4 y29_5 y29_6 ey29) H ⟨Vw.sh 2 rfl, Vw.sh 3 rfl, Vw.sh 4 rfl, Vw.sh 5 rfl, trivial⟩ ?_; clear H ey29
      rintro _ _ w31 ⟨h32, h34, h36, h38, rfl, rfl⟩ hx (H : Cx w0 fp0 S0 w31 [E (List (List Int)) y29_3 h32, E (List (List Int)) y29_4 h34, E (List (List Int)) y29_5 h36, E (List (List Int)) y29_6 h38, Bx b14 [(.int .i64 aB__0), (.int .i64 aB__1), (.int .i64 aB__2), (aB__3h).v, (aB__4h).v, (aB__5h).v, (aB__6h).v], Bx b11 [(.int .i64 aA__0), (.int .i64 aA__1), (.int .i64 aA__2), (aA__3h).v, (aA__4h).v, (aA__5h).v, (aA__6h).v], Es (List (List Int)) aA__3 aA__3h, Es (List (List Int)) aA__4 aA__4h, Es (List (List Int)) aA__5 aA__5h, Es (List (List Int)) aA__6 aA__6h, Es (List (List Int)) aB__3 aB__3h, Es (List (List Int)) aB__4 aB__4h, Es (List (List Int)) aB__5 aB__5h, Es (List (List Int)) aB__6 aB__6h, Gl 0 [.int .i64 2, .int .i64 3, .int .i64 5, .int .i64 7]])
      replace hX := hX.trans0 hx; clear hx
      refine hold hX ?_
      obtain ⟨y40, e, hF41⟩ := bindS hF30; clear hF30
      obtain ⟨y40_0, y40_1, y40_2, y40_3, y40_4, y40_5, y40_6⟩ := y40
      have ey40 := e; clear e
      refine callFx (laws_toStateSpace_c aB__0 aB__1 aB__2 aB__3 aB__3h aB__4 aB__4h aB__5 aB__5h aB__6 aB__6h y40_0 y40_1 y40_2 y40_3 y40_4 y40_5 y40_6 ey40) H ⟨Vw.sh 10 rfl, Vw.sh 11 rfl, Vw.sh 12 rfl, Vw.sh 13 rfl, trivial⟩ ?_; clear H ey40
      rintro _ _ w42 ⟨h43, h45, h47, h49, rfl, rfl⟩ hx (H : Cx w0 fp0 S0 w42 [E (List (List Int)) y40_3 h43, E (List (List Int)) y40_4 h45, E (List (List Int)) y40_5 h47, E (List (List Int)) y40_6 h49, E (List (List Int)) y29_3 h32, E (List (List Int)) y29_4 h34, E (List (List Int)) y29_5 h36, E (List (List Int)) y29_6 h38, Bx b14 [(.int .i64 aB__0), (.int .i64 aB__1), (.int .i64 aB__2), (aB__3h).v, (aB__4h).v, (aB__5h).v, (aB__6h).v], Bx b11 [(.int .i64 aA__0), (.int .i64 aA__1), (.int .i64 aA__2), (aA__3h).v, (aA__4h).v, (aA__5h).v, (aA__6h).v], Es (List (List Int)) aA__3 aA__3h, Es (List (List Int)) aA__4 aA__4h, Es (List (List Int)) aA__5 aA__5h, Es (List (List Int)) aA__6 aA__6h, Es (List (List Int)) aB__3 aB__3h, Es (List (List Int)) aB__4 aB__4h, Es (List (List Int)) aB__5 aB__5h, Es (List (List Int)) aB__6 aB__6h, Gl 0 [.int .i64 2, .int .i64 3, .int .i64 5, .int .i64 7]])
      replace hX := hX.trans0 hx; clear hx
      refine hold hX ?_
      obtain ⟨y51, e, hF52⟩ := bindS hF41; clear hF41
      obtain ⟨y51_0, y51_1⟩ := y51
      have ey51 := e; clear e
      refine callFx (spec_SameOutputs_c aP_ y29_0 y29_1 y29_2 y29_3 h32 y29_4 h34 y29_5 h36 y29_6 h38 y40_0 y40_1 y40_2 y40_3 h43 y40_4 h45 y40_5 h47 y40_6 h49 y51_0 y51_1 ey51) H ⟨Vw.own 4 rfl, Vw.own 5 rfl, Vw.own 6 rfl, Vw.own 7 rfl, Vw.own 0 rfl, Vw.own 1 rfl, Vw.own 2 rfl, Vw.own 3 rfl, trivial⟩ ?_; clear H ey51
      rintro _ _ w53 ⟨rfl, rfl⟩ hx (H : Cx w0 fp0 S0 w53 [E (List (List Int)) y40_3 h43, E (List (List Int)) y40_4 h45, E (List (List Int)) y40_5 h47, E (List (List Int)) y40_6 h49, E (List (List Int)) y29_3 h32, E (List (List Int)) y29_4 h34, E (List (List Int)) y29_5 h36, E (List (List Int)) y29_6 h38, Bx b14 [(.int .i64 aB__0), (.int .i64 aB__1), (.int .i64 aB__2), (aB__3h).v, (aB__4h).v, (aB__5h).v, (aB__6h).v], Bx b11 [(.int .i64 aA__0), (.int .i64 aA__1), (.int .i64 aA__2), (aA__3h).v, (aA__4h).v, (aA__5h).v, (aA__6h).v], Es (List (List Int)) aA__3 aA__3h, Es (List (List Int)) aA__4 aA__4h, Es (List (List Int)) aA__5 aA__5h, Es (List (List Int)) aA__6 aA__6h, Es (List (List Int)) aB__3 aB__3h, Es (List (List Int)) aB__4 aB__4h, Es (List (List Int)) aB__5 aB__5h, Es (List (List Int)) aB__6 aB__6h, Gl 0 [.int .i64 2, .int .i64 3, .int .i64 5, .int .i64 7]])
      replace hX := hX.trans0 hx; clear hx
      refine hold hX ?_
      refine loadN [(.int .i64 aA__0), (.int .i64 aA__1), (.int .i64 aA__2), (aA__3h).v, (aA__4h).v, (aA__5h).v, (aA__6h).v] rfl (fun j u hj => H.bx 9 rfl hj) ?_
      obtain ⟨y54, e, hF55⟩ := bindS hF52; clear hF52
      obtain ⟨y54_0, y54_1, y54_2, y54_3, y54_4, y54_5, y54_6⟩ := y54
      have ey54 := e; clear e
      refine callF (laws_toStateSpace_c aA__0 aA__1 aA__2 aA__3 aA__3h aA__4 aA__4h aA__5 aA__5h aA__6 aA__6h y54_0 y54_1 y54_2 y54_3 y54_4 y54_5 y54_6 ey54) (Γi := []) H ⟨Vw.sh 10 rfl, Vw.sh 11 rfl, Vw.sh 12 rfl, Vw.sh 13 rfl, trivial⟩ ?_; clear H ey54
      rintro _ _ w56 ⟨h57, h59, h61, h63, rfl, rfl⟩ (H : Cx w0 fp0 S0 w56 [E (List (List Int)) y54_3 h57, E (List (List Int)) y54_4 h59, E (List (List Int)) y54_5 h61, E (List (List Int)) y54_6 h63, E (List (List Int)) y40_3 h43, E (List (List Int)) y40_4 h45, E (List (List Int)) y40_5 h47, E (List (List Int)) y40_6 h49, E (List (List Int)) y29_3 h32, E (List (List Int)) y29_4 h34, E (List (List Int)) y29_5 h36, E (List (List Int)) y29_6 h38, Bx b14 [(.int .i64 aB__0), (.int .i64 aB__1), (.int .i64 aB__2), (aB__3h).v, (aB__4h).v, (aB__5h).v, (aB__6h).v], Bx b11 [(.int .i64 aA__0), (.int .i64 aA__1), (.int .i64 aA__2), (aA__3h).v, (aA__4h).v, (aA__5h).v, (aA__6h).v], Es (List (List Int)) aA__3 aA__3h, Es (List (List Int)) aA__4 aA__4h, Es (List (List Int)) aA__5 aA__5h, Es (List (List Int)) aA__6 aA__6h, Es (List (List Int)) aB__3 aB__3h, Es (List (List Int)) aB__4 aB__4h, Es (List (List Int)) aB__5 aB__5h, Es (List (List Int)) aB__6 aB__6h, Gl 0 [.int .i64 2, .int .i64 3, .int .i64 5, .int .i64 7]])
      refine alloc_ gok rfl H ?_; clear H; intro b66 w65 hx H
      clear hx
      replace H : Cx w0 fp0 S0 w65 [Bx b66 [(.int .i64 0), (.int .i64 0), (.int .i64 0), (.slice none 0 0), (.slice none 0 0), (.slice none 0 0), (.slice none 0 0)], E (List (List Int)) y54_3 h57, E (List (List Int)) y54_4 h59, E (List (List Int)) y54_5 h61, E (List (List Int)) y54_6 h63, E (List (List Int)) y40_3 h43, E (List (List Int)) y40_4 h45, E (List (List Int)) y40_5 h47, E (List (List Int)) y40_6 h49, E (List (List Int)) y29_3 h32, E (List (List Int)) y29_4 h34, E (List (List Int)) y29_5 h36, E (List (List Int)) y29_6 h38, Bx b14 [(.int .i64 aB__0), (.int .i64 aB__1), (.int .i64 aB__2), (aB__3h).v, (aB__4h).v, (aB__5h).v, (aB__6h).v], Bx b11 [(.int .i64 aA__0), (.int .i64 aA__1), (.int .i64 aA__2), (aA__3h).v, (aA__4h).v, (aA__5h).v, (aA__6h).v], Es (List (List Int)) aA__3 aA__3h, Es (List (List Int)) aA__4 aA__4h, Es (List (List Int)) aA__5 aA__5h, Es (List (List Int)) aA__6 aA__6h, Es (List (List Int)) aB__3 aB__3h, Es (List (List Int)) aB__4 aB__4h, Es (List (List Int)) aB__5 aB__5h, Es (List (List Int)) aB__6 aB__6h, Gl 0 [.int .i64 2, .int .i64 3, .int .i64 5, .int .i64 7]] := H
      refine stA gok [(.int .i64 y54_0), (.int .i64 y54_1), (.int .i64 y54_2), (h57).v, (h59).v, (h61).v, (h63).v] rfl H rfl rfl rfl ?_; clear H; intro w68 H
      replace H : Cx w0 fp0 S0 w68 [Bx b66 [(.int .i64 y54_0), (.int .i64 y54_1), (.int .i64 y54_2), (h57).v, (h59).v, (h61).v, (h63).v], E (List (List Int)) y54_3 h57, E (List (List Int)) y54_4 h59, E (List (List Int)) y54_5 h61, E (List (List Int)) y54_6 h63, E (List (List Int)) y40_3 h43, E (List (List Int)) y40_4 h45, E (List (List Int)) y40_5 h47, E (List (List Int)) y40_6 h49, E (List (List Int)) y29_3 h32, E (List (List Int)) y29_4 h34, E (List (List Int)) y29_5 h36, E (List (List Int)) y29_6 h38, Bx b14 [(.int .i64 aB__0), (.int .i64 aB__1), (.int .i64 aB__2), (aB__3h).v, (aB__4h).v, (aB__5h).v, (aB__6h).v], Bx b11 [(.int .i64 aA__0), (.int .i64 aA__1), (.int .i64 aA__2), (aA__3h).v, (aA__4h).v, (aA__5h).v, (aA__6h).v], Es (List (List Int)) aA__3 aA__3h, Es (List (List Int)) aA__4 aA__4h, Es (List (List Int)) aA__5 aA__5h, Es (List (List Int)) aA__6 aA__6h, Es (List (List Int)) aB__3 aB__3h, Es (List (List Int)) aB__4 aB__4h, Es (List (List Int)) aB__5 aB__5h, Es (List (List Int)) aB__6 aB__6h, Gl 0 [.int .i64 2, .int .i64 3, .int .i64 5, .int .i64 7]] := H
      refine loadN [(.int .i64 aB__0), (.int .i64 aB__1), (.int .i64 aB__2), (aB__3h).v, (aB__4h).v, (aB__5h).v, (aB__6h).v] rfl (fun j u hj => H.bx 13 rfl hj) ?_
      obtain ⟨y69, e, hF70⟩ := bindS hF55; clear hF55
      obtain ⟨y69_0, y69_1, y69_2, y69_3, y69_4, y69_5, y69_6⟩ := y69
      have ey69 := e; clear e
      refine callF (laws_toStateSpace_c aB__0 aB__1 aB__2 aB__3 aB__3h aB__4 aB__4h aB__5 aB__5h aB__6 aB__6h y69_0 y69_1 y69_2 y69_3 y69_4 y69_5 y69_6 ey69) (Γi := []) H ⟨Vw.sh 19 rfl, Vw.sh 20 rfl, Vw.sh 21 rfl, Vw.sh 22 rfl, trivial⟩ ?_; clear H ey69
      rintro _ _ w71 ⟨h72, h74, h76, h78, rfl, rfl⟩ (H : Cx w0 fp0 S0 w71 [E (List (List Int)) y69_3 h72, E (List (List Int)) y69_4 h74, E (List (List Int)) y69_5 h76, E (List (List Int)) y69_6 h78, Bx b66 [(.int .i64 y54_0), (.int .i64 y54_1), (.int .i64 y54_2), (h57).v, (h59).v, (h61).v, (h63).v], E (List (List Int)) y54_3 h57, E (List (List Int)) y54_4 h59, E (List (List Int)) y54_5 h61, E (List (List Int)) y54_6 h63, E (List (List Int)) y40_3 h43, E (List (List Int)) y40_4 h45, E (List (List Int)) y40_5 h47, E (List (List Int)) y40_6 h49, E (List (List Int)) y29_3 h32, E (List (List Int)) y29_4 h34, E (List (List Int)) y29_5 h36, E (List (List Int)) y29_6 h38, Bx b14 [(.int .i64 aB__0), (.int .i64 aB__1), (.int .i64 aB__2), (aB__3h).v, (aB__4h).v, (aB__5h).v, (aB__6h).v], Bx b11 [(.int .i64 aA__0), (.int .i64 aA__1), (.int .i64 aA__2), (aA__3h).v, (aA__4h).v, (aA__5h).v, (aA__6h).v], Es (List (List Int)) aA__3 aA__3h, Es (List (List Int)) aA__4 aA__4h, Es (List (List Int)) aA__5 aA__5h, Es (List (List Int)) aA__6 aA__6h, Es (List (List Int)) aB__3 aB__3h, Es (List (List Int)) aB__4 aB__4h, Es (List (List Int)) aB__5 aB__5h, Es (List (List Int)) aB__6 aB__6h, Gl 0 [.int .i64 2, .int .i64 3, .int .i64 5, .int .i64 7]])
      refine alloc_ gok rfl H ?_; clear H; intro b81 w80 hx H
      clear hx
      replace H : Cx w0 fp0 S0 w80 [Bx b81 [(.int .i64 0), (.int .i64 0), (.int .i64 0), (.slice none 0 0), (.slice none 0 0), (.slice none 0 0), (.slice none 0 0)], E (List (List Int)) y69_3 h72, E (List (List Int)) y69_4 h74, E (List (List Int)) y69_5 h76, E (List (List Int)) y69_6 h78, Bx b66 [(.int .i64 y54_0), (.int .i64 y54_1), (.int .i64 y54_2), (h57).v, (h59).v, (h61).v, (h63).v], E (List (List Int)) y54_3 h57, E (List (List Int)) y54_4 h59, E (List (List Int)) y54_5 h61, E (List (List Int)) y54_6 h63, E (List (List Int)) y40_3 h43, E (List (List Int)) y40_4 h45, E (List (List Int)) y40_5 h47, E (List (List Int)) y40_6 h49, E (List (List Int)) y29_3 h32, E (List (List Int)) y29_4 h34, E (List (List Int)) y29_5 h36, E (List (List Int)) y29_6 h38, Bx b14 [(.int .i64 aB__0), (.int .i64 aB__1), (.int .i64 aB__2), (aB__3h).v, (aB__4h).v, (aB__5h).v, (aB__6h).v], Bx b11 [(.int .i64 aA__0), (.int .i64 aA__1), (.int .i64 aA__2), (aA__3h).v, (aA__4h).v, (aA__5h).v, (aA__6h).v], Es (List (List Int)) aA__3 aA__3h, Es (List (List Int)) aA__4 aA__4h, Es (List (List Int)) aA__5 aA__5h, Es (List (List Int)) aA__6 aA__6h, Es (List (List Int)) aB__3 aB__3h, Es (List (List Int)) aB__4 aB__4h, Es (List (List Int)) aB__5 aB__5h, Es (List (List Int)) aB__6 aB__6h, Gl 0 [.int .i64 2, .int .i64 3, .int .i64 5, .int .i64 7]] := H
      refine stA gok [(.int .i64 y69_0), (.int .i64 y69_1), (.int .i64 y69_2), (h72).v, (h74).v, (h76).v, (h78).v] rfl H rfl rfl rfl ?_; clear H; intro w83 H
      replace H : Cx w0 fp0 S0 w83 [Bx b81 [(.int .i64 y69_0), (.int .i64 y69_1), (.int .i64 y69_2), (h72).v, (h74).v, (h76).v, (h78).v], E (List (List Int)) y69_3 h72, E (List (List Int)) y69_4 h74, E (List (List Int)) y69_5 h76, E (List (List Int)) y69_6 h78, Bx b66 [(.int .i64 y54_0), (.int .i64 y54_1), (.int .i64 y54_2), (h57).v, (h59).v, (h61).v, (h63).v], E (List (List Int)) y54_3 h57, E (List (List Int)) y54_4 h59, E (List (List Int)) y54_5 h61, E (List (List Int)) y54_6 h63, E (List (List Int)) y40_3 h43, E (List (List Int)) y40_4 h45, E (List (List Int)) y40_5 h47, E (List (List Int)) y40_6 h49, E (List (List Int)) y29_3 h32, E (List (List Int)) y29_4 h34, E (List (List Int)) y29_5 h36, E (List (List Int)) y29_6 h38, Bx b14 [(.int .i64 aB__0), (.int .i64 aB__1), (.int .i64 aB__2), (aB__3h).v, (aB__4h).v, (aB__5h).v, (aB__6h).v], Bx b11 [(.int .i64 aA__0), (.int .i64 aA__1), (.int .i64 aA__2), (aA__3h).v, (aA__4h).v, (aA__5h).v, (aA__6h).v], Es (List (List Int)) aA__3 aA__3h, Es (List (List Int)) aA__4 aA__4h, Es (List (List Int)) aA__5 aA__5h, Es (List (List Int)) aA__6 aA__6h, Es (List (List Int)) aB__3 aB__3h, Es (List (List Int)) aB__4 aB__4h, Es (List (List Int)) aB__5 aB__5h, Es (List (List Int)) aB__6 aB__6h, Gl 0 [.int .i64 2, .int .i64 3, .int .i64 5, .int .i64 7]] := H
      refine loadN [(.int .i64 y54_0), (.int .i64 y54_1), (.int .i64 y54_2), (h57).v, (h59).v, (h61).v, (h63).v] rfl (fun j u hj => H.bx 5 rfl hj) ?_
      refine loadN [(.int .i64 y69_0), (.int .i64 y69_1), (.int .i64 y69_2), (h72).v, (h74).v, (h76).v, (h78).v] rfl (fun j u hj => H.bx 0 rfl hj) ?_
      obtain ⟨y84, e, hF85⟩ := bindS hF70; clear hF70
      obtain ⟨y84_0, y84_1⟩ := y84
      have ey84 := e; clear e
      refine callF (impl_SameOutputs_c aP_ y54_0 y54_1 y54_2 y54_3 h57 y54_4 h59 y54_5 h61 y54_6 h63 y69_0 y69_1 y69_2 y69_3 h72 y69_4 h74 y69_5 h76 y69_6 h78 y84_0 y84_1 ey84) (Γi := []) H ⟨Vw.own 6 rfl, Vw.own 7 rfl, Vw.own 8 rfl, Vw.own 9 rfl, Vw.own 1 rfl, Vw.own 2 rfl, Vw.own 3 rfl, Vw.own 4 rfl, Vw.gl 28 rfl, trivial⟩ ?_; clear H ey84
      rintro _ _ w86 ⟨rfl, rfl⟩ (H : Cx w0 fp0 S0 w86 [Bx b81 [(.int .i64 y69_0), (.int .i64 y69_1), (.int .i64 y69_2), (h72).v, (h74).v, (h76).v, (h78).v], E (List (List Int)) y69_3 h72, E (List (List Int)) y69_4 h74, E (List (List Int)) y69_5 h76, E (List (List Int)) y69_6 h78, Bx b66 [(.int .i64 y54_0), (.int .i64 y54_1), (.int .i64 y54_2), (h57).v, (h59).v, (h61).v, (h63).v], E (List (List Int)) y54_3 h57, E (List (List Int)) y54_4 h59, E (List (List Int)) y54_5 h61, E (List (List Int)) y54_6 h63, E (List (List Int)) y40_3 h43, E (List (List Int)) y40_4 h45, E (List (List Int)) y40_5 h47, E (List (List Int)) y40_6 h49, E (List (List Int)) y29_3 h32, E (List (List Int)) y29_4 h34, E (List (List Int)) y29_5 h36, E (List (List Int)) y29_6 h38, Bx b14 [(.int .i64 aB__0), (.int .i64 aB__1), (.int .i64 aB__2), (aB__3h).v, (aB__4h).v, (aB__5h).v, (aB__6h).v], Bx b11 [(.int .i64 aA__0), (.int .i64 aA__1), (.int .i64 aA__2), (aA__3h).v, (aA__4h).v, (aA__5h).v, (aA__6h).v], Es (List (List Int)) aA__3 aA__3h, Es (List (List Int)) aA__4 aA__4h, Es (List (List Int)) aA__5 aA__5h, Es (List (List Int)) aA__6 aA__6h, Es (List (List Int)) aB__3 aB__3h, Es (List (List Int)) aB__4 aB__4h, Es (List (List Int)) aB__5 aB__5h, Es (List (List Int)) aB__6 aB__6h, Gl 0 [.int .i64 2, .int .i64 3, .int .i64 5, .int .i64 7]])
      refine sq ?_
      obtain ⟨r95, hF97, hF96⟩ := bindS hF85; clear hF85
      refine cut (fun (q98 : Bool) => [(4, (.pointer (some ⟨b11, 0, none⟩))), (5, (.pointer (some ⟨b14, 0, none⟩))), (10, (.pointer (some ⟨b66, 0, none⟩))), (11, (.pointer (some ⟨b81, 0, none⟩))), (51, (.bool q98))]) (fun (q98 : Bool) w' => q98 = r95 ∧ Cx w0 fp0 S0 w' [Bx b11 [(.int .i64 aA__0), (.int .i64 aA__1), (.int .i64 aA__2), (aA__3h).v, (aA__4h).v, (aA__5h).v, (aA__6h).v], Es (List (List Int)) aA__3 aA__3h, Es (List (List Int)) aA__4 aA__4h, Es (List (List Int)) aA__5 aA__5h, Es (List (List Int)) aA__6 aA__6h, Bx b14 [(.int .i64 aB__0), (.int .i64 aB__1), (.int .i64 aB__2), (aB__3h).v, (aB__4h).v, (aB__5h).v, (aB__6h).v], Es (List (List Int)) aB__3 aB__3h, Es (List (List Int)) aB__4 aB__4h, Es (List (List Int)) aB__5 aB__5h, Es (List (List Int)) aB__6 aB__6h, Bx b66 [(.int .i64 y54_0), (.int .i64 y54_1), (.int .i64 y54_2), (h57).v, (h59).v, (h61).v, (h63).v], E (List (List Int)) y54_3 h57, E (List (List Int)) y54_4 h59, E (List (List Int)) y54_5 h61, E (List (List Int)) y54_6 h63, Bx b81 [(.int .i64 y69_0), (.int .i64 y69_1), (.int .i64 y69_2), (h72).v, (h74).v, (h76).v, (h78).v], E (List (List Int)) y69_3 h72, E (List (List Int)) y69_4 h74, E (List (List Int)) y69_5 h76, E (List (List Int)) y69_6 h78, Gl 0 [.int .i64 2, .int .i64 3, .int .i64 5, .int .i64 7]]) ?_ ?_
      · skip
        obtain ⟨a99, e, hF100⟩ := bindS hF97; clear hF97
        refine boolO e ?_; clear e
        cases a99
        · have hF101 := condF hF100; clear hF100
          obtain ⟨a102, e, hF103⟩ := bindS hF101; clear hF101
          refine boolO e ?_; clear e
          exact ⟨a102, ⟨rfl, rfl, rfl, rfl, rfl, trivial⟩, Option.some.inj hF103, H.sel [19, 20, 21, 22, 23, 18, 24, 25, 26, 27, 5, 6, 7, 8, 9, 0, 1, 2, 3, 4, 28] rfl⟩
        · have hF104 := condT hF100; clear hF100
          exact ⟨true, ⟨rfl, rfl, rfl, rfl, rfl, trivial⟩, Option.some.inj hF104, H.sel [19, 20, 21, 22, 23, 18, 24, 25, 26, 27, 5, 6, 7, 8, 9, 0, 1, 2, 3, 4, 28] rfl⟩
      · clear hF97 H
        rintro T106 s93 w105 ⟨hr, (H : Cx w0 fp0 S0 w105 [Bx b11 [(.int .i64 aA__0), (.int .i64 aA__1), (.int .i64 aA__2), (aA__3h).v, (aA__4h).v, (aA__5h).v, (aA__6h).v], Es (List (List Int)) aA__3 aA__3h, Es (List (List Int)) aA__4 aA__4h, Es (List (List Int)) aA__5 aA__5h, Es (List (List Int)) aA__6 aA__6h, Bx b14 [(.int .i64 aB__0), (.int .i64 aB__1), (.int .i64 aB__2), (aB__3h).v, (aB__4h).v, (aB__5h).v, (aB__6h).v], Es (List (List Int)) aB__3 aB__3h, Es (List (List Int)) aB__4 aB__4h, Es (List (List Int)) aB__5 aB__5h, Es (List (List Int)) aB__6 aB__6h, Bx b66 [(.int .i64 y54_0), (.int .i64 y54_1), (.int .i64 y54_2), (h57).v, (h59).v, (h61).v, (h63).v], E (List (List Int)) y54_3 h57, E (List (List Int)) y54_4 h59, E (List (List Int)) y54_5 h61, E (List (List Int)) y54_6 h63, Bx b81 [(.int .i64 y69_0), (.int .i64 y69_1), (.int .i64 y69_2), (h72).v, (h74).v, (h76).v, (h78).v], E (List (List Int)) y69_3 h72, E (List (List Int)) y69_4 h74, E (List (List Int)) y69_5 h76, E (List (List Int)) y69_6 h78, Gl 0 [.int .i64 2, .int .i64 3, .int .i64 5, .int .i64 7]])⟩
        subst hr
        cases s93
        · have hF107 := condF hF96; clear hF96
          refine sq ?_
          refine heldX H [] (.fst 0 (.fst 1 (.act 2 (.act 3 (.fst 4 .done))))) mixed (by kernel_rfl) ?_; clear H; intro w108 H
          have hX : Ext w108 w108 := Upd.refl _ _
          have H0 := H
          refine loadNX [(.int .i64 y54_0), (.int .i64 y54_1), (.int .i64 y54_2), (h57).v, (h59).v, (h61).v, (h63).v] rfl (fun j u hj => H.bx 10 rfl hj) ?_
          refine loadNX [(.int .i64 aA__0), (.int .i64 aA__1), (.int .i64 aA__2), (aA__3h).v, (aA__4h).v, (aA__5h).v, (aA__6h).v] rfl (fun j u hj => H.bx 0 rfl hj) ?_
          obtain ⟨y109, e, hF110⟩ := bindS hF107; clear hF107
          obtain ⟨y109_0, y109_1, y109_2, y109_3, y109_4, y109_5, y109_6⟩ := y109
          have ey109 := e; clear e
          refine callFx (laws_toStateSpace_c aA__0 aA__1 aA__2 aA__3 aA__3h aA__4 aA__4h aA__5 aA__5h aA__6 aA__6h y109_0 y109_1 y109_2 y109_3 y109_4 y109_5 y109_6 ey109) H ⟨Vw.sh 1 rfl, Vw.sh 2 rfl, Vw.sh 3 rfl, Vw.sh 4 rfl, trivial⟩ ?_; clear H ey109
          rintro _ _ w111 ⟨h112, h114, h116, h118, rfl, rfl⟩ hx (H : Cx w0 fp0 S0 w111 [E (List (List Int)) y109_3 h112, E (List (List Int)) y109_4 h114, E (List (List Int)) y109_5 h116, E (List (List Int)) y109_6 h118, Bx b11 [(.int .i64 aA__0), (.int .i64 aA__1), (.int .i64 aA__2), (aA__3h).v, (aA__4h).v, (aA__5h).v, (aA__6h).v], Es (List (List Int)) aA__3 aA__3h, Es (List (List Int)) aA__4 aA__4h, Es (List (List Int)) aA__5 aA__5h, Es (List (List Int)) aA__6 aA__6h, Bx b14 [(.int .i64 aB__0), (.int .i64 aB__1), (.int .i64 aB__2), (aB__3h).v, (aB__4h).v, (aB__5h).v, (aB__6h).v], Es (List (List Int)) aB__3 aB__3h, Es (List (List Int)) aB__4 aB__4h, Es (List (List Int)) aB__5 aB__5h, Es (List (List Int)) aB__6 aB__6h, Bx b66 [(.int .i64 y54_0), (.int .i64 y54_1), (.int .i64 y54_2), (h57).v, (h59).v, (h61).v, (h63).v], E (List (List Int)) y54_3 h57, E (List (List Int)) y54_4 h59, E (List (List Int)) y54_5 h61, E (List (List Int)) y54_6 h63, Bx b81 [(.int .i64 y69_0), (.int .i64 y69_1), (.int .i64 y69_2), (h72).v, (h74).v, (h76).v, (h78).v], E (List (List Int)) y69_3 h72, E (List (List Int)) y69_4 h74, E (List (List Int)) y69_5 h76, E (List (List Int)) y69_6 h78, Gl 0 [.int .i64 2, .int .i64 3, .int .i64 5, .int .i64 7]])
          replace hX := hX.trans0 hx; clear hx
          refine hold hX ?_
          obtain ⟨y120, e, hF121⟩ := bindS hF110; clear hF110
          have ey120 := e; clear e
          refine callFx (laws_eqStateSpace_c y54_0 y54_1 y54_2 y54_3 h57 y54_4 h59 y54_5 h61 y54_6 h63 y109_0 y109_1 y109_2 y109_3 h112 y109_4 h114 y109_5 h116 y109_6 h118 y120 ey120) H ⟨Vw.own 15 rfl, Vw.own 16 rfl, Vw.own 17 rfl, Vw.own 18 rfl, Vw.own 0 rfl, Vw.own 1 rfl, Vw.own 2 rfl, Vw.own 3 rfl, trivial⟩ ?_; clear H ey120
          rintro _ _ w122 ⟨rfl, rfl⟩ hx (H : Cx w0 fp0 S0 w122 [E (List (List Int)) y109_3 h112, E (List (List Int)) y109_4 h114, E (List (List Int)) y109_5 h116, E (List (List Int)) y109_6 h118, Bx b11 [(.int .i64 aA__0), (.int .i64 aA__1), (.int .i64 aA__2), (aA__3h).v, (aA__4h).v, (aA__5h).v, (aA__6h).v], Es (List (List Int)) aA__3 aA__3h, Es (List (List Int)) aA__4 aA__4h, Es (List (List Int)) aA__5 aA__5h, Es (List (List Int)) aA__6 aA__6h, Bx b14 [(.int .i64 aB__0), (.int .i64 aB__1), (.int .i64 aB__2), (aB__3h).v, (aB__4h).v, (aB__5h).v, (aB__6h).v], Es (List (List Int)) aB__3 aB__3h, Es (List (List Int)) aB__4 aB__4h, Es (List (List Int)) aB__5 aB__5h, Es (List (List Int)) aB__6 aB__6h, Bx b66 [(.int .i64 y54_0), (.int .i64 y54_1), (.int .i64 y54_2), (h57).v, (h59).v, (h61).v, (h63).v], E (List (List Int)) y54_3 h57, E (List (List Int)) y54_4 h59, E (List (List Int)) y54_5 h61, E (List (List Int)) y54_6 h63, Bx b81 [(.int .i64 y69_0), (.int .i64 y69_1), (.int .i64 y69_2), (h72).v, (h74).v, (h76).v, (h78).v], E (List (List Int)) y69_3 h72, E (List (List Int)) y69_4 h74, E (List (List Int)) y69_5 h76, E (List (List Int)) y69_6 h78, Gl 0 [.int .i64 2, .int .i64 3, .int .i64 5, .int .i64 7]])
          replace hX := hX.trans0 hx; clear hx
          refine hold hX ?_
          obtain ⟨a123, e, hF124⟩ := bindS hF121; clear hF121
          refine boolO e ?_; clear e
          cases a123
          · have hF125 := condF hF124; clear hF124
            refine sq ?_
            refine heldX H [] (.fst 0 (.fst 1 (.act 2 (.act 3 (.fst 4 .done))))) mixed (by kernel_rfl) ?_; clear H; intro w126 H
            have hX : Ext w126 w126 := Upd.refl _ _
            have H0 := H
            refine loadNX [(.int .i64 y69_0), (.int .i64 y69_1), (.int .i64 y69_2), (h72).v, (h74).v, (h76).v, (h78).v] rfl (fun j u hj => H.bx 19 rfl hj) ?_
            refine loadNX [(.int .i64 aB__0), (.int .i64 aB__1), (.int .i64 aB__2), (aB__3h).v, (aB__4h).v, (aB__5h).v, (aB__6h).v] rfl (fun j u hj => H.bx 9 rfl hj) ?_
            obtain ⟨y127, e, hF128⟩ := bindS hF125; clear hF125
            obtain ⟨y127_0, y127_1, y127_2, y127_3, y127_4, y127_5, y127_6⟩ := y127
            have ey127 := e; clear e
            refine callFx (laws_toStateSpace_c aB__0 aB__1 aB__2 aB__3 aB__3h aB__4 aB__4h aB__5 aB__5h aB__6 aB__6h y127_0 y127_1 y127_2 y127_3 y127_4 y127_5 y127_6 ey127) H ⟨Vw.sh 10 rfl, Vw.sh 11 rfl, Vw.sh 12 rfl, Vw.sh 13 rfl, trivial⟩ ?_; clear H ey127
            rintro _ _ w129 ⟨h130, h132, h134, h136, rfl, rfl⟩ hx (H : Cx w0 fp0 S0 w129 [E (List (List Int)) y127_3 h130, E (List (List Int)) y127_4 h132, E (List (List Int)) y127_5 h134, E (List (List Int)) y127_6 h136, E (List (List Int)) y109_3 h112, E (List (List Int)) y109_4 h114, E (List (List Int)) y109_5 h116, E (List (List Int)) y109_6 h118, Bx b11 [(.int .i64 aA__0), (.int .i64 aA__1), (.int .i64 aA__2), (aA__3h).v, (aA__4h).v, (aA__5h).v, (aA__6h).v], Es (List (List Int)) aA__3 aA__3h, Es (List (List Int)) aA__4 aA__4h, Es (List (List Int)) aA__5 aA__5h, Es (List (List Int)) aA__6 aA__6h, Bx b14 [(.int .i64 aB__0), (.int .i64 aB__1), (.int .i64 aB__2), (aB__3h).v, (aB__4h).v, (aB__5h).v, (aB__6h).v], Es (List (List Int)) aB__3 aB__3h, Es (List (List Int)) aB__4 aB__4h, Es (List (List Int)) aB__5 aB__5h, Es (List (List Int)) aB__6 aB__6h, Bx b66 [(.int .i64 y54_0), (.int .i64 y54_1), (.int .i64 y54_2), (h57).v, (h59).v, (h61).v, (h63).v], E (List (List Int)) y54_3 h57, E (List (List Int)) y54_4 h59, E (List (List Int)) y54_5 h61, E (List (List Int)) y54_6 h63, Bx b81 [(.int .i64 y69_0), (.int .i64 y69_1), (.int .i64 y69_2), (h72).v, (h74).v, (h76).v, (h78).v], E (List (List Int)) y69_3 h72, E (List (List Int)) y69_4 h74, E (List (List Int)) y69_5 h76, E (List (List Int)) y69_6 h78, Gl 0 [.int .i64 2, .int .i64 3, .int .i64 5, .int .i64 7]])
            replace hX := hX.trans0 hx; clear hx
            refine hold hX ?_
            obtain ⟨y138, e, hF139⟩ := bindS hF128; clear hF128
            have ey138 := e; clear e
            refine callFx (laws_eqStateSpace_c y69_0 y69_1 y69_2 y69_3 h72 y69_4 h74 y69_5 h76 y69_6 h78 y127_0 y127_1 y127_2 y127_3 h130 y127_4 h132 y127_5 h134 y127_6 h136 y138 ey138) H ⟨Vw.own 24 rfl, Vw.own 25 rfl, Vw.own 26 rfl, Vw.own 27 rfl, Vw.own 0 rfl, Vw.own 1 rfl, Vw.own 2 rfl, Vw.own 3 rfl, trivial⟩ ?_; clear H ey138
            rintro _ _ w140 ⟨rfl, rfl⟩ hx (H : Cx w0 fp0 S0 w140 [E (List (List Int)) y127_3 h130, E (List (List Int)) y127_4 h132, E (List (List Int)) y127_5 h134, E (List (List Int)) y127_6 h136, E (List (List Int)) y109_3 h112, E (List (List Int)) y109_4 h114, E (List (List Int)) y109_5 h116, E (List (List Int)) y109_6 h118, Bx b11 [(.int .i64 aA__0), (.int .i64 aA__1), (.int .i64 aA__2), (aA__3h).v, (aA__4h).v, (aA__5h).v, (aA__6h).v], Es (List (List Int)) aA__3 aA__3h, Es (List (List Int)) aA__4 aA__4h, Es (List (List Int)) aA__5 aA__5h, Es (List (List Int)) aA__6 aA__6h, Bx b14 [(.int .i64 aB__0), (.int .i64 aB__1), (.int .i64 aB__2), (aB__3h).v, (aB__4h).v, (aB__5h).v, (aB__6h).v], Es (List (List Int)) aB__3 aB__3h, Es (List (List Int)) aB__4 aB__4h, Es (List (List Int)) aB__5 aB__5h, Es (List (List Int)) aB__6 aB__6h, Bx b66 [(.int .i64 y54_0), (.int .i64 y54_1), (.int .i64 y54_2), (h57).v, (h59).v, (h61).v, (h63).v], E (List (List Int)) y54_3 h57, E (List (List Int)) y54_4 h59, E (List (List Int)) y54_5 h61, E (List (List Int)) y54_6 h63, Bx b81 [(.int .i64 y69_0), (.int .i64 y69_1), (.int .i64 y69_2), (h72).v, (h74).v, (h76).v, (h78).v], E (List (List Int)) y69_3 h72, E (List (List Int)) y69_4 h74, E (List (List Int)) y69_5 h76, E (List (List Int)) y69_6 h78, Gl 0 [.int .i64 2, .int .i64 3, .int .i64 5, .int .i64 7]])
            replace hX := hX.trans0 hx; clear hx
            refine hold hX ?_
            obtain ⟨a141, e, hF142⟩ := bindS hF139; clear hF139
            refine boolO e ?_; clear e
            cases a141
            · have hF143 := condF hF142; clear hF142
              cases hF143
              exact ⟨_, _, rfl, ⟨rfl, rfl⟩, (H.sel [] rfl).close trivial⟩
            · have hF144 := condT hF142; clear hF142
              cases hF144
              exact ⟨_, _, rfl, ⟨rfl, rfl⟩, (H.sel [] rfl).close trivial⟩
          · have hF145 := condT hF124; clear hF124
            cases hF145
            exact ⟨_, _, rfl, ⟨rfl, rfl⟩, (H.sel [] rfl).close trivial⟩
        · have hF146 := condT hF96; clear hF96
          cases hF146
          exact ⟨_, _, rfl, ⟨rfl, rfl⟩, (H.sel [] rfl).close trivial⟩
    · have hF147 := condT hF26; clear hF26
      cases hF147
      exact ⟨_, _, rfl, ⟨rfl, rfl⟩, (H.sel [] rfl).close trivial⟩
  · have hF148 := condT hF20; clear hF20
    cases hF148
    exact ⟨_, _, rfl, ⟨rfl, rfl⟩, (H.sel [] rfl).close trivial⟩
end Go.Proofs.YtnlbhdepagkjgaaDoor
