/-
  Contracts, printed by a program (wip/y/gen.py): each function of Go computes its partial function. Condition of each: its partial function yields a value.
-/
import Derived.Test.YtaiddnddgmkfnaaZEng
import Derived.Test.YtaiddnddgmkfnaaZFn
namespace Go.Proofs.Ytaiddnddgmkfnaa
open Go Go.Proofs.Ytaiddnddgmkfnaa.RW
set_option maxRecDepth 100000
set_option linter.unusedVariables false

theorem laws_szNode_c (a__0 : Int) (a__1 : Int) (a__2 : ByteArray) (left_ : Int) (y : Int) (hF : F_laws_szNode (a__0, a__1, a__2) left_ = some y) :
    ConF Try.prog 32 #[(.agg #[(.int .i64 a__0), (.int .i64 a__1), (.string a__2)]), (.int .i64 left_)] [] [] (fun v Γ' => v = (.int .i64 y) ∧ Γ' = []) := by
  intro w0 S0 fp0 hI hS
  have H : Cx w0 fp0 S0 w0 [] := Cx.start hI hS
  clear hI hS
  refine enterC (args := [_, _]) gok Try.func32 rfl _ rfl rfl rfl ?_
  refine box_ H ?_; clear H; intro b2 w1 hx H
  clear hx
  replace H : Cx w0 fp0 S0 w1 [Bx b2 [(.int .i64 a__0), (.int .i64 a__1), (.string a__2)]] := H
  refine fld gok rfl rfl rfl rfl ?_
  refine load1 (H.bx 0 rfl (j := 2) rfl) ?_
  refine lenE (m := a__2.size) rfl ?_
  obtain ⟨a4, e, hF5⟩ := bindS hF; clear hF
  refine arO e ?_; clear e
  refine sq ?_
  obtain ⟨a6, e, hF7⟩ := bindS hF5; clear hF5
  refine boolO e ?_; clear e
  cases a6
  · have hF8 := condF hF7; clear hF7
    cases hF8
    exact ⟨_, _, rfl, ⟨rfl, rfl⟩, (H.sel [] rfl).close trivial⟩
  · have hF9 := condT hF7; clear hF7
    cases hF9
    exact ⟨_, _, rfl, ⟨rfl, rfl⟩, (H.sel [] rfl).close trivial⟩

theorem laws_szNodeS_c (a_ : List (Int × Int × ByteArray)) (a_h : Hd) (left_ : Int) (y : Int) (hF : F_laws_szNodeS a_ left_ = some y) :
    ConF Try.prog 23 #[(a_h).v, (.int .i64 left_)] [Es (List (Int × Int × ByteArray)) a_ a_h] [] (fun v Γ' => v = (.int .i64 y) ∧ Γ' = []) := by
  intro w0 S0 fp0 hI hS
  have H : Cx w0 fp0 S0 w0 [Es (List (Int × Int × ByteArray)) a_ a_h] := Cx.start hI hS
  clear hI hS
  refine enterC (args := [_, _]) gok Try.func23 rfl _ rfl rfl rfl ?_
  refine lenE (H.rs (α := List (Int × Int × ByteArray)) 0 rfl).len ?_
  obtain ⟨a2, e, hF3⟩ := bindS hF; clear hF
  refine arO e ?_; clear e
  refine sq ?_
  obtain ⟨a4, e, hF5⟩ := bindS hF3; clear hF3
  refine boolO e ?_; clear e
  cases a4
  · have hF6 := condF hF5; clear hF5
    obtain ⟨r93, hF95, hF94⟩ := bindS hF6; clear hF6
    refine cut (fun (q96 : Int) => [(1, (.int .i64 q96))]) (fun (q96 : Int) w' => .inl q96 = r93 ∧ Cx w0 fp0 S0 w' []) ?_ ?_
    · skip
      refine loopW _ (fun (s147 : Int × Int) (_ : Unit) => [(0, (a_h).v), (1, (.int .i64 s147.1)), (5, (.int .i64 s147.2))]) (fun (s147 : Int × Int) (_ : Unit) w' => Cx w0 fp0 S0 w' [Es (List (Int × Int × ByteArray)) a_ a_h]) (a2, 0) () hF95 ⟨rfl, rfl, rfl, trivial⟩ (H.sel [0] rfl) ?_
      · clear H
        rintro T153 ⟨s147_0, s147_1⟩ _ w152 o154 (H : Cx w0 fp0 S0 w152 [Es (List (Int × Int × ByteArray)) a_ a_h]) hrt hF155
        refine sq ?_
        refine lenE (H.rs (α := List (Int × Int × ByteArray)) 0 rfl).len ?_
        obtain ⟨a156, e, hF157⟩ := bindS hF155; clear hF155
        refine boolO e ?_; clear e
        cases a156
        · have hF158 := condF hF157; clear hF157
          have hs := Option.some.inj hF158; subst hs; clear hF158
          have hF159 : some _ = some _ := congrArg some (hrt _ rfl).symm
          exact ⟨s147_0, ⟨rfl, trivial⟩, Option.some.inj hF159, H.sel [] rfl⟩
        · have hF160 := condT hF157; clear hF157
          refine sq ?_
          obtain ⟨a167, e, hF168⟩ := bindS hF160; clear hF160
          have HH := H; clear H; obtain ⟨p165, m166, g169, c161, c162, c163, c164, H⟩ := HH.el (α := Int × Int × ByteArray) 0 rfl e; clear HH
          clear e
          obtain ⟨a167_0, a167_1, a167_2⟩ := a167
          obtain ⟨_, _, _⟩ := g169
          replace H := H.sel [1] rfl
          refine idxE c161 c162 c163 ?_; clear c161 c162 c163
          refine loadN [(.int .i64 a167_0), (.int .i64 a167_1), (.string a167_2)] rfl c164 ?_; clear c164
          obtain ⟨y171, e, hF172⟩ := bindS hF168; clear hF168
          have ey171 := e; clear e
          refine callF (laws_szNode_c a167_0 a167_1 a167_2 s147_0 y171 ey171) (Γi := []) H trivial ?_; clear H ey171
          rintro _ _ w173 ⟨rfl, rfl⟩ (H : Cx w0 fp0 S0 w173 [Es (List (Int × Int × ByteArray)) a_ a_h])
          obtain ⟨a174, e, hF175⟩ := bindS hF172; clear hF172
          refine boolO e ?_; clear e
          cases a174
          · have hF176 := condF hF175; clear hF175
            obtain ⟨a177, e, hF178⟩ := bindS hF176; clear hF176
            refine arO e ?_; clear e
            have hs := Option.some.inj hF178; subst hs; clear hF178
            exact ⟨(y171, a177), (), rfl, ⟨rfl, rfl, rfl, trivial⟩, H.sel [0] rfl⟩
          · have hF179 := condT hF175; clear hF175
            have hs := Option.some.inj hF179; subst hs; clear hF179
            have hF180 : some _ = some _ := congrArg some (hrt _ rfl).symm
            have hs := Option.some.inj hF180; subst hs; clear hF180
            have hF181 : some _ = some _ := hF94; clear hF94
            cases hF181
            exact ⟨_, _, rfl, ⟨rfl, rfl⟩, (H.sel [] rfl).close trivial⟩
    · clear hF95 H
      rintro T183 s91 w182 ⟨hr, (H : Cx w0 fp0 S0 w182 [])⟩
      subst hr
      cases hF94
      exact ⟨_, _, rfl, ⟨rfl, rfl⟩, (H.sel [] rfl).close trivial⟩
  · have hF184 := condT hF5; clear hF5
    cases hF184
    exact ⟨_, _, rfl, ⟨rfl, rfl⟩, (H.sel [] rfl).close trivial⟩

theorem laws_szTerm_c (a__0 : List (Int × Int × ByteArray)) (a__0h : Hd) (left_ : Int) (y : Int) (hF : F_laws_szTerm a__0 left_ = some y) :
    ConF Try.prog 14 #[(.agg #[(a__0h).v]), (.int .i64 left_)] [Es (List (Int × Int × ByteArray)) a__0 a__0h] [] (fun v Γ' => v = (.int .i64 y) ∧ Γ' = []) := by
  intro w0 S0 fp0 hI hS
  have H : Cx w0 fp0 S0 w0 [Es (List (Int × Int × ByteArray)) a__0 a__0h] := Cx.start hI hS
  clear hI hS
  refine enterC (args := [_, _]) gok Try.func14 rfl _ rfl rfl rfl ?_
  refine box_ H ?_; clear H; intro b3 w2 hx H
  clear hx
  replace H : Cx w0 fp0 S0 w2 [Bx b3 [(a__0h).v], Es (List (Int × Int × ByteArray)) a__0 a__0h] := H
  refine fld gok rfl rfl rfl rfl ?_
  refine load1 (H.bx 0 rfl (j := 0) rfl) ?_
  obtain ⟨y5, e, hF6⟩ := bindS hF; clear hF
  have ey5 := e; clear e
  refine callF (laws_szNodeS_c a__0 a__0h left_ y5 ey5) (Γi := []) H ⟨Vw.sh 1 rfl, trivial⟩ ?_; clear H ey5
  rintro _ _ w7 ⟨rfl, rfl⟩ (H : Cx w0 fp0 S0 w7 [Bx b3 [(a__0h).v], Es (List (Int × Int × ByteArray)) a__0 a__0h])
  refine sq ?_
  obtain ⟨a8, e, hF9⟩ := bindS hF6; clear hF6
  refine boolO e ?_; clear e
  cases a8
  · have hF10 := condF hF9; clear hF9
    cases hF10
    exact ⟨_, _, rfl, ⟨rfl, rfl⟩, (H.sel [] rfl).close trivial⟩
  · have hF11 := condT hF9; clear hF9
    cases hF11
    exact ⟨_, _, rfl, ⟨rfl, rfl⟩, (H.sel [] rfl).close trivial⟩

theorem laws_szRule_c (a__0 : ByteArray) (a__1_0 : List (Int × Int × ByteArray)) (a__1_0h : Hd) (a__2_0 : List (Int × Int × ByteArray)) (a__2_0h : Hd) (left_ : Int) (y : Int) (hF : F_laws_szRule (a__0, a__1_0, a__2_0) left_ = some y) :
    ConF Try.prog 9 #[(.agg #[(.string a__0), (a__1_0h).v, (a__2_0h).v]), (.int .i64 left_)] [Es (List (Int × Int × ByteArray)) a__1_0 a__1_0h, Es (List (Int × Int × ByteArray)) a__2_0 a__2_0h] [] (fun v Γ' => v = (.int .i64 y) ∧ Γ' = []) := by
  intro w0 S0 fp0 hI hS
  have H : Cx w0 fp0 S0 w0 [Es (List (Int × Int × ByteArray)) a__1_0 a__1_0h, Es (List (Int × Int × ByteArray)) a__2_0 a__2_0h] := Cx.start hI hS
  clear hI hS
  refine enterC (args := [_, _]) gok Try.func9 rfl _ rfl rfl rfl ?_
  refine box_ H ?_; clear H; intro b4 w3 hx H
  clear hx
  replace H : Cx w0 fp0 S0 w3 [Bx b4 [(.string a__0), (a__1_0h).v, (a__2_0h).v], Es (List (Int × Int × ByteArray)) a__1_0 a__1_0h, Es (List (Int × Int × ByteArray)) a__2_0 a__2_0h] := H
  refine fld gok rfl rfl rfl rfl ?_
  refine load1 (H.bx 0 rfl (j := 0) rfl) ?_
  refine lenE (m := a__0.size) rfl ?_
  obtain ⟨a6, e, hF7⟩ := bindS hF; clear hF
  refine arO e ?_; clear e
  refine sq ?_
  obtain ⟨a8, e, hF9⟩ := bindS hF7; clear hF7
  refine boolO e ?_; clear e
  cases a8
  · have hF10 := condF hF9; clear hF9
    refine fld gok rfl rfl rfl rfl ?_
    refine loadN [(a__1_0h).v] rfl (H.bxs 0 rfl 1 rfl) ?_
    obtain ⟨y11, e, hF12⟩ := bindS hF10; clear hF10
    have ey11 := e; clear e
    refine callF (laws_szTerm_c a__1_0 a__1_0h a6 y11 ey11) (Γi := []) H ⟨Vw.sh 1 rfl, trivial⟩ ?_; clear H ey11
    rintro _ _ w13 ⟨rfl, rfl⟩ (H : Cx w0 fp0 S0 w13 [Bx b4 [(.string a__0), (a__1_0h).v, (a__2_0h).v], Es (List (Int × Int × ByteArray)) a__1_0 a__1_0h, Es (List (Int × Int × ByteArray)) a__2_0 a__2_0h])
    refine sq ?_
    obtain ⟨a14, e, hF15⟩ := bindS hF12; clear hF12
    refine boolO e ?_; clear e
    cases a14
    · have hF16 := condF hF15; clear hF15
      refine fld gok rfl rfl rfl rfl ?_
      refine loadN [(a__2_0h).v] rfl (H.bxs 0 rfl 2 rfl) ?_
      obtain ⟨y17, e, hF18⟩ := bindS hF16; clear hF16
      have ey17 := e; clear e
      refine callF (laws_szTerm_c a__2_0 a__2_0h y11 y17 ey17) (Γi := []) H ⟨Vw.sh 2 rfl, trivial⟩ ?_; clear H ey17
      rintro _ _ w19 ⟨rfl, rfl⟩ (H : Cx w0 fp0 S0 w19 [Bx b4 [(.string a__0), (a__1_0h).v, (a__2_0h).v], Es (List (Int × Int × ByteArray)) a__1_0 a__1_0h, Es (List (Int × Int × ByteArray)) a__2_0 a__2_0h])
      refine sq ?_
      obtain ⟨a20, e, hF21⟩ := bindS hF18; clear hF18
      refine boolO e ?_; clear e
      cases a20
      · have hF22 := condF hF21; clear hF21
        cases hF22
        exact ⟨_, _, rfl, ⟨rfl, rfl⟩, (H.sel [] rfl).close trivial⟩
      · have hF23 := condT hF21; clear hF21
        cases hF23
        exact ⟨_, _, rfl, ⟨rfl, rfl⟩, (H.sel [] rfl).close trivial⟩
    · have hF24 := condT hF15; clear hF15
      cases hF24
      exact ⟨_, _, rfl, ⟨rfl, rfl⟩, (H.sel [] rfl).close trivial⟩
  · have hF25 := condT hF9; clear hF9
    cases hF25
    exact ⟨_, _, rfl, ⟨rfl, rfl⟩, (H.sel [] rfl).close trivial⟩

theorem laws_szRuleS_c (a_ : List (ByteArray × (List (Int × Int × ByteArray)) × (List (Int × Int × ByteArray)))) (a_h : Hd) (left_ : Int) (y : Int) (hF : F_laws_szRuleS a_ left_ = some y) :
    ConF Try.prog 4 #[(a_h).v, (.int .i64 left_)] [Es (List (ByteArray × (List (Int × Int × ByteArray)) × (List (Int × Int × ByteArray)))) a_ a_h] [] (fun v Γ' => v = (.int .i64 y) ∧ Γ' = []) := by
  intro w0 S0 fp0 hI hS
  have H : Cx w0 fp0 S0 w0 [Es (List (ByteArray × (List (Int × Int × ByteArray)) × (List (Int × Int × ByteArray)))) a_ a_h] := Cx.start hI hS
  clear hI hS
  refine enterC (args := [_, _]) gok Try.func4 rfl _ rfl rfl rfl ?_
  refine lenE (H.rs (α := List (ByteArray × (List (Int × Int × ByteArray)) × (List (Int × Int × ByteArray)))) 0 rfl).len ?_
  obtain ⟨a2, e, hF3⟩ := bindS hF; clear hF
  refine arO e ?_; clear e
  refine sq ?_
  obtain ⟨a4, e, hF5⟩ := bindS hF3; clear hF3
  refine boolO e ?_; clear e
  cases a4
  · have hF6 := condF hF5; clear hF5
    obtain ⟨r105, hF107, hF106⟩ := bindS hF6; clear hF6
    refine cut (fun (q108 : Int) => [(1, (.int .i64 q108))]) (fun (q108 : Int) w' => .inl q108 = r105 ∧ Cx w0 fp0 S0 w' []) ?_ ?_
    · skip
      refine loopW _ (fun (s167 : Int × Int) (_ : Unit) => [(0, (a_h).v), (1, (.int .i64 s167.1)), (5, (.int .i64 s167.2))]) (fun (s167 : Int × Int) (_ : Unit) w' => Cx w0 fp0 S0 w' [Es (List (ByteArray × (List (Int × Int × ByteArray)) × (List (Int × Int × ByteArray)))) a_ a_h]) (a2, 0) () hF107 ⟨rfl, rfl, rfl, trivial⟩ (H.sel [0] rfl) ?_
      · clear H
        rintro T173 ⟨s167_0, s167_1⟩ _ w172 o174 (H : Cx w0 fp0 S0 w172 [Es (List (ByteArray × (List (Int × Int × ByteArray)) × (List (Int × Int × ByteArray)))) a_ a_h]) hrt hF175
        refine sq ?_
        refine lenE (H.rs (α := List (ByteArray × (List (Int × Int × ByteArray)) × (List (Int × Int × ByteArray)))) 0 rfl).len ?_
        obtain ⟨a176, e, hF177⟩ := bindS hF175; clear hF175
        refine boolO e ?_; clear e
        cases a176
        · have hF178 := condF hF177; clear hF177
          have hs := Option.some.inj hF178; subst hs; clear hF178
          have hF179 : some _ = some _ := congrArg some (hrt _ rfl).symm
          exact ⟨s167_0, ⟨rfl, trivial⟩, Option.some.inj hF179, H.sel [] rfl⟩
        · have hF180 := condT hF177; clear hF177
          refine sq ?_
          obtain ⟨a187, e, hF188⟩ := bindS hF180; clear hF180
          have HH := H; clear H; obtain ⟨p185, m186, g189, c181, c182, c183, c184, H⟩ := HH.el (α := ByteArray × (List (Int × Int × ByteArray)) × (List (Int × Int × ByteArray))) 0 rfl e; clear HH
          clear e
          obtain ⟨a187_0, a187_1_0, a187_2_0⟩ := a187
          obtain ⟨_, h191, h192⟩ := g189
          replace H := H.part (β := List (Int × Int × ByteArray)) a187_1_0 (h191 : Hd) 0 rfl (fun S h => (And.left (And.right h)))
          replace H := H.part (β := List (Int × Int × ByteArray)) a187_2_0 (h192 : Hd) 1 rfl (fun S h => (And.right (And.right h)))
          replace H := H.sel [0, 1, 3] rfl
          refine idxE c181 c182 c183 ?_; clear c181 c182 c183
          refine loadN [(.string a187_0), (h191).v, (h192).v] rfl c184 ?_; clear c184
          obtain ⟨y195, e, hF196⟩ := bindS hF188; clear hF188
          have ey195 := e; clear e
          refine callF (laws_szRule_c a187_0 a187_1_0 h191 a187_2_0 h192 s167_0 y195 ey195) (Γi := []) H ⟨Vw.sh 1 rfl, Vw.sh 0 rfl, trivial⟩ ?_; clear H ey195
          rintro _ _ w197 ⟨rfl, rfl⟩ (H : Cx w0 fp0 S0 w197 [Es (List (Int × Int × ByteArray)) a187_2_0 h192, Es (List (Int × Int × ByteArray)) a187_1_0 h191, Es (List (ByteArray × (List (Int × Int × ByteArray)) × (List (Int × Int × ByteArray)))) a_ a_h])
          obtain ⟨a198, e, hF199⟩ := bindS hF196; clear hF196
          refine boolO e ?_; clear e
          cases a198
          · have hF200 := condF hF199; clear hF199
            obtain ⟨a201, e, hF202⟩ := bindS hF200; clear hF200
            refine arO e ?_; clear e
            have hs := Option.some.inj hF202; subst hs; clear hF202
            exact ⟨(y195, a201), (), rfl, ⟨rfl, rfl, rfl, trivial⟩, H.sel [2] rfl⟩
          · have hF203 := condT hF199; clear hF199
            have hs := Option.some.inj hF203; subst hs; clear hF203
            have hF204 : some _ = some _ := congrArg some (hrt _ rfl).symm
            have hs := Option.some.inj hF204; subst hs; clear hF204
            have hF205 : some _ = some _ := hF106; clear hF106
            cases hF205
            exact ⟨_, _, rfl, ⟨rfl, rfl⟩, (H.sel [] rfl).close trivial⟩
    · clear hF107 H
      rintro T207 s103 w206 ⟨hr, (H : Cx w0 fp0 S0 w206 [])⟩
      subst hr
      cases hF106
      exact ⟨_, _, rfl, ⟨rfl, rfl⟩, (H.sel [] rfl).close trivial⟩
  · have hF208 := condT hF5; clear hF5
    cases hF208
    exact ⟨_, _, rfl, ⟨rfl, rfl⟩, (H.sel [] rfl).close trivial⟩

theorem laws_toNode_c (a__0 : Int) (a__1 : Int) (a__2 : ByteArray) (y_0 : Int) (y_1 : Int) (y_2 : ByteArray) (hF : F_laws_toNode (a__0, a__1, a__2) = some (y_0, y_1, y_2)) :
    ConF Try.prog 43 #[(.agg #[(.int .i64 a__0), (.int .i64 a__1), (.string a__2)])] [] [] (fun v Γ' => v = (.agg #[(.int .i64 y_0), (.int .i64 y_1), (.string y_2)]) ∧ Γ' = []) := by
  intro w0 S0 fp0 hI hS
  have H : Cx w0 fp0 S0 w0 [] := Cx.start hI hS
  clear hI hS
  refine enterC (args := [_]) gok Try.func43 rfl _ rfl rfl rfl ?_
  refine box_ H ?_; clear H; intro b2 w1 hx H
  clear hx
  replace H : Cx w0 fp0 S0 w1 [Bx b2 [(.int .i64 a__0), (.int .i64 a__1), (.string a__2)]] := H
  refine alloc_ gok rfl H ?_; clear H; intro b5 w4 hx H
  clear hx
  replace H : Cx w0 fp0 S0 w4 [Bx b5 [(.int .i64 0), (.int .i64 0), (.string .empty)], Bx b2 [(.int .i64 a__0), (.int .i64 a__1), (.string a__2)]] := H
  refine alloc_ gok rfl H ?_; clear H; intro b8 w7 hx H
  clear hx
  replace H : Cx w0 fp0 S0 w7 [Bx b8 [(.int .i64 0), (.int .i64 0), (.string .empty)], Bx b5 [(.int .i64 0), (.int .i64 0), (.string .empty)], Bx b2 [(.int .i64 a__0), (.int .i64 a__1), (.string a__2)]] := H
  refine fld gok rfl rfl rfl rfl ?_
  refine load1 (H.bx 2 rfl (j := 0) rfl) ?_
  refine fld gok rfl rfl rfl rfl ?_
  refine stB (j := 0) H rfl rfl ?_; clear H; intro w10 H
  replace H : Cx w0 fp0 S0 w10 [Bx b8 [(.int .i64 a__0), (.int .i64 0), (.string .empty)], Bx b5 [(.int .i64 0), (.int .i64 0), (.string .empty)], Bx b2 [(.int .i64 a__0), (.int .i64 a__1), (.string a__2)]] := H
  refine fld gok rfl rfl rfl rfl ?_
  refine load1 (H.bx 2 rfl (j := 1) rfl) ?_
  refine fld gok rfl rfl rfl rfl ?_
  refine stB (j := 1) H rfl rfl ?_; clear H; intro w11 H
  replace H : Cx w0 fp0 S0 w11 [Bx b8 [(.int .i64 a__0), (.int .i64 a__1), (.string .empty)], Bx b5 [(.int .i64 0), (.int .i64 0), (.string .empty)], Bx b2 [(.int .i64 a__0), (.int .i64 a__1), (.string a__2)]] := H
  refine fld gok rfl rfl rfl rfl ?_
  refine load1 (H.bx 2 rfl (j := 2) rfl) ?_
  refine fld gok rfl rfl rfl rfl ?_
  refine stB (j := 2) H rfl rfl ?_; clear H; intro w12 H
  replace H : Cx w0 fp0 S0 w12 [Bx b8 [(.int .i64 a__0), (.int .i64 a__1), (.string a__2)], Bx b5 [(.int .i64 0), (.int .i64 0), (.string .empty)], Bx b2 [(.int .i64 a__0), (.int .i64 a__1), (.string a__2)]] := H
  refine loadN [(.int .i64 a__0), (.int .i64 a__1), (.string a__2)] rfl (fun j u hj => H.bx 0 rfl hj) ?_
  replace H := H.sel [1, 0, 2] rfl
  refine stA gok [(.int .i64 a__0), (.int .i64 a__1), (.string a__2)] rfl H rfl rfl rfl ?_; clear H; intro w13 H
  replace H : Cx w0 fp0 S0 w13 [Bx b5 [(.int .i64 a__0), (.int .i64 a__1), (.string a__2)], Bx b8 [(.int .i64 a__0), (.int .i64 a__1), (.string a__2)], Bx b2 [(.int .i64 a__0), (.int .i64 a__1), (.string a__2)]] := H
  refine loadN [(.int .i64 a__0), (.int .i64 a__1), (.string a__2)] rfl (fun j u hj => H.bx 0 rfl hj) ?_
  cases hF
  exact ⟨_, _, rfl, ⟨rfl, rfl⟩, (H.sel [] rfl).close trivial⟩

theorem laws_toNodeS_c (a_ : List (Int × Int × ByteArray)) (a_h : Hd) (y : List (Int × Int × ByteArray)) (hF : F_laws_toNodeS a_ = some y) :
    ConF Try.prog 27 #[(a_h).v] [Es (List (Int × Int × ByteArray)) a_ a_h] [] (fun v Γ' => ∃ z0 : Hd, v = (z0).v ∧ Γ' = [E (List (Int × Int × ByteArray)) y z0]) := by
  intro w0 S0 fp0 hI hS
  have H : Cx w0 fp0 S0 w0 [Es (List (Int × Int × ByteArray)) a_ a_h] := Cx.start hI hS
  clear hI hS
  refine enterC (args := [_]) gok Try.func27 rfl _ rfl rfl rfl ?_
  refine lenE (H.rs (α := List (Int × Int × ByteArray)) 0 rfl).len ?_
  obtain ⟨a2, e, hF3⟩ := bindS hF; clear hF
  refine make_ (α := Int × Int × ByteArray) gok rfl rfl rfl rfl (makeCO_of e) H ?_; clear e H; intro h5 w4 hx H
  clear hx
  obtain ⟨r122, hF124, hF123⟩ := bindS hF3; clear hF3
  refine cut (fun (q125 : List (Int × Int × ByteArray)) => [(3, (h5).v)]) (fun (q125 : List (Int × Int × ByteArray)) w' => q125 = r122 ∧ Cx w0 fp0 S0 w' [E (List (Int × Int × ByteArray)) q125 h5]) ?_ ?_
  · skip
    refine loopW _ (fun (s196 : (List (Int × Int × ByteArray)) × Int) (_ : Unit) => [(0, (a_h).v), (3, (h5).v), (4, (.int .i64 s196.2))]) (fun (s196 : (List (Int × Int × ByteArray)) × Int) (_ : Unit) w' => Cx w0 fp0 S0 w' [Es (List (Int × Int × ByteArray)) a_ a_h, E (List (Int × Int × ByteArray)) s196.1 h5]) (a2, 0) () hF124 ⟨rfl, rfl, rfl, trivial⟩ (H.sel [1, 0] rfl) ?_
    · clear H
      rintro T202 ⟨s196_0, s196_1⟩ _ w201 o203 (H : Cx w0 fp0 S0 w201 [Es (List (Int × Int × ByteArray)) a_ a_h, E (List (Int × Int × ByteArray)) s196_0 h5]) hrt hF204
      refine sq ?_
      refine lenE (H.rs (α := List (Int × Int × ByteArray)) 0 rfl).len ?_
      obtain ⟨a205, e, hF206⟩ := bindS hF204; clear hF204
      refine boolO e ?_; clear e
      cases a205
      · have hF207 := condF hF206; clear hF206
        have hs := Option.some.inj hF207; subst hs; clear hF207
        have hF208 : some _ = some _ := congrArg some (hrt _ rfl).symm
        exact ⟨s196_0, ⟨rfl, trivial⟩, Option.some.inj hF208, H.sel [1] rfl⟩
      · have hF209 := condT hF206; clear hF206
        refine sq ?_
        obtain ⟨a216, e, hF217⟩ := bindS hF209; clear hF209
        have HH := H; clear H; obtain ⟨p214, m215, g218, c210, c211, c212, c213, H⟩ := HH.el (α := Int × Int × ByteArray) 0 rfl e; clear HH
        clear e
        obtain ⟨a216_0, a216_1, a216_2⟩ := a216
        obtain ⟨_, _, _⟩ := g218
        replace H := H.sel [1, 2] rfl
        refine idxE c210 c211 c212 ?_; clear c210 c211 c212
        refine loadN [(.int .i64 a216_0), (.int .i64 a216_1), (.string a216_2)] rfl c213 ?_; clear c213
        obtain ⟨y220, e, hF221⟩ := bindS hF217; clear hF217
        obtain ⟨y220_0, y220_1, y220_2⟩ := y220
        have ey220 := e; clear e
        refine callF (laws_toNode_c a216_0 a216_1 a216_2 y220_0 y220_1 y220_2 ey220) (Γi := []) H trivial ?_; clear H ey220
        rintro _ _ w222 ⟨rfl, rfl⟩ (H : Cx w0 fp0 S0 w222 [Es (List (Int × Int × ByteArray)) a_ a_h, E (List (Int × Int × ByteArray)) s196_0 h5])
        replace H := H.sc (α := ByteArray) y220_2
        replace H := H.sc (α := Int) y220_1
        replace H := H.join (α := Int) (β := ByteArray)
        replace H := H.sc (α := Int) y220_0
        replace H := H.join (α := Int) (β := Int × ByteArray)
        obtain ⟨a234, e, hF235⟩ := bindS hF221; clear hF221
        have ea234 := e; clear e
        replace H := H.sel [2, 0, 1] rfl
        have HH := H; clear H; obtain ⟨p227, m228, c226, c223, c224, c225, H⟩ := HH.hole (α := Int × Int × ByteArray) ea234; clear HH
        refine idxE c223 c224 c225 ?_
        refine stXA (α := Int × Int × ByteArray) gok [(.int .i64 y220_0), (.int .i64 y220_1), (.string y220_2)] rfl rfl H c223 rfl rfl ?_; clear H; intro w236 H
        replace H := H.sel [1, 0, 2] rfl
        replace H := H.put c224 ea234; clear c223 c224 c225 ea234
        obtain ⟨a237, e, hF238⟩ := bindS hF235; clear hF235
        refine arO e ?_; clear e
        have hs := Option.some.inj hF238; subst hs; clear hF238
        exact ⟨(a234, a237), (), rfl, ⟨rfl, rfl, rfl, trivial⟩, H.sel [1, 0] rfl⟩
  · clear hF124 H
    rintro T240 s120 w239 ⟨hr, (H : Cx w0 fp0 S0 w239 [E (List (Int × Int × ByteArray)) s120 h5])⟩
    subst hr
    cases hF123
    exact ⟨_, _, rfl, ⟨h5, rfl, rfl⟩, (H.sel [0] rfl).close ⟨cloE, trivial⟩⟩

theorem laws_toTerm_c (a__0 : List (Int × Int × ByteArray)) (a__0h : Hd) (y_0 : List (Int × Int × ByteArray)) (hF : F_laws_toTerm a__0 = some y_0) :
    ConF Try.prog 17 #[(.agg #[(a__0h).v])] [Es (List (Int × Int × ByteArray)) a__0 a__0h] [] (fun v Γ' => ∃ z0 : Hd, v = (.agg #[(z0).v]) ∧ Γ' = [E (List (Int × Int × ByteArray)) y_0 z0]) := by
  intro w0 S0 fp0 hI hS
  have H : Cx w0 fp0 S0 w0 [Es (List (Int × Int × ByteArray)) a__0 a__0h] := Cx.start hI hS
  clear hI hS
  refine enterC (args := [_]) gok Try.func17 rfl _ rfl rfl rfl ?_
  refine box_ H ?_; clear H; intro b3 w2 hx H
  clear hx
  replace H : Cx w0 fp0 S0 w2 [Bx b3 [(a__0h).v], Es (List (Int × Int × ByteArray)) a__0 a__0h] := H
  refine alloc_ gok rfl H ?_; clear H; intro b6 w5 hx H
  clear hx
  replace H : Cx w0 fp0 S0 w5 [Bx b6 [(.slice none 0 0)], Bx b3 [(a__0h).v], Es (List (Int × Int × ByteArray)) a__0 a__0h] := H
  refine alloc_ gok rfl H ?_; clear H; intro b9 w8 hx H
  clear hx
  replace H : Cx w0 fp0 S0 w8 [Bx b9 [(.slice none 0 0)], Bx b6 [(.slice none 0 0)], Bx b3 [(a__0h).v], Es (List (Int × Int × ByteArray)) a__0 a__0h] := H
  refine fld gok rfl rfl rfl rfl ?_
  refine load1 (H.bx 2 rfl (j := 0) rfl) ?_
  obtain ⟨y11, e, hF12⟩ := bindS hF; clear hF
  have ey11 := e; clear e
  refine callF (laws_toNodeS_c a__0 a__0h y11 ey11) (Γi := []) H ⟨Vw.sh 3 rfl, trivial⟩ ?_; clear H ey11
  rintro _ _ w13 ⟨h14, rfl, rfl⟩ (H : Cx w0 fp0 S0 w13 [E (List (Int × Int × ByteArray)) y11 h14, Bx b9 [(.slice none 0 0)], Bx b6 [(.slice none 0 0)], Bx b3 [(a__0h).v], Es (List (Int × Int × ByteArray)) a__0 a__0h])
  refine fld gok rfl rfl rfl rfl ?_
  replace H := H.sel [1, 0, 2, 3, 4] rfl
  refine stB (j := 0) H rfl rfl ?_; clear H; intro w16 H
  replace H : Cx w0 fp0 S0 w16 [Bx b9 [(h14).v], E (List (Int × Int × ByteArray)) y11 h14, Bx b6 [(.slice none 0 0)], Bx b3 [(a__0h).v], Es (List (Int × Int × ByteArray)) a__0 a__0h] := H
  refine loadN [(h14).v] rfl (fun j u hj => H.bx 0 rfl hj) ?_
  replace H := H.sel [2, 0, 1, 3, 4] rfl
  refine stA gok [(h14).v] rfl H rfl rfl rfl ?_; clear H; intro w17 H
  replace H : Cx w0 fp0 S0 w17 [Bx b6 [(h14).v], Bx b9 [(h14).v], E (List (Int × Int × ByteArray)) y11 h14, Bx b3 [(a__0h).v], Es (List (Int × Int × ByteArray)) a__0 a__0h] := H
  refine loadN [(h14).v] rfl (fun j u hj => H.bx 0 rfl hj) ?_
  cases hF12
  exact ⟨_, _, rfl, ⟨h14, rfl, rfl⟩, (H.sel [2] rfl).close ⟨cloE, trivial⟩⟩

theorem laws_toRule_c (a__0 : ByteArray) (a__1_0 : List (Int × Int × ByteArray)) (a__1_0h : Hd) (a__2_0 : List (Int × Int × ByteArray)) (a__2_0h : Hd) (y_0 : ByteArray) (y_1_0 : List (Int × Int × ByteArray)) (y_2_0 : List (Int × Int × ByteArray)) (hF : F_laws_toRule (a__0, a__1_0, a__2_0) = some (y_0, y_1_0, y_2_0)) :
    ConF Try.prog 11 #[(.agg #[(.string a__0), (a__1_0h).v, (a__2_0h).v])] [Es (List (Int × Int × ByteArray)) a__1_0 a__1_0h, Es (List (Int × Int × ByteArray)) a__2_0 a__2_0h] [] (fun v Γ' => ∃ z0 z1 : Hd, v = (.agg #[(.string y_0), (z0).v, (z1).v]) ∧ Γ' = [E (List (Int × Int × ByteArray)) y_1_0 z0, E (List (Int × Int × ByteArray)) y_2_0 z1]) := by
  intro w0 S0 fp0 hI hS
  have H : Cx w0 fp0 S0 w0 [Es (List (Int × Int × ByteArray)) a__1_0 a__1_0h, Es (List (Int × Int × ByteArray)) a__2_0 a__2_0h] := Cx.start hI hS
  clear hI hS
  refine enterC (args := [_]) gok Try.func11 rfl _ rfl rfl rfl ?_
  refine box_ H ?_; clear H; intro b4 w3 hx H
  clear hx
  replace H : Cx w0 fp0 S0 w3 [Bx b4 [(.string a__0), (a__1_0h).v, (a__2_0h).v], Es (List (Int × Int × ByteArray)) a__1_0 a__1_0h, Es (List (Int × Int × ByteArray)) a__2_0 a__2_0h] := H
  refine alloc_ gok rfl H ?_; clear H; intro b7 w6 hx H
  clear hx
  replace H : Cx w0 fp0 S0 w6 [Bx b7 [(.string .empty), (.slice none 0 0), (.slice none 0 0)], Bx b4 [(.string a__0), (a__1_0h).v, (a__2_0h).v], Es (List (Int × Int × ByteArray)) a__1_0 a__1_0h, Es (List (Int × Int × ByteArray)) a__2_0 a__2_0h] := H
  refine alloc_ gok rfl H ?_; clear H; intro b10 w9 hx H
  clear hx
  replace H : Cx w0 fp0 S0 w9 [Bx b10 [(.string .empty), (.slice none 0 0), (.slice none 0 0)], Bx b7 [(.string .empty), (.slice none 0 0), (.slice none 0 0)], Bx b4 [(.string a__0), (a__1_0h).v, (a__2_0h).v], Es (List (Int × Int × ByteArray)) a__1_0 a__1_0h, Es (List (Int × Int × ByteArray)) a__2_0 a__2_0h] := H
  refine fld gok rfl rfl rfl rfl ?_
  refine load1 (H.bx 2 rfl (j := 0) rfl) ?_
  refine fld gok rfl rfl rfl rfl ?_
  refine stB (j := 0) H rfl rfl ?_; clear H; intro w12 H
  replace H : Cx w0 fp0 S0 w12 [Bx b10 [(.string a__0), (.slice none 0 0), (.slice none 0 0)], Bx b7 [(.string .empty), (.slice none 0 0), (.slice none 0 0)], Bx b4 [(.string a__0), (a__1_0h).v, (a__2_0h).v], Es (List (Int × Int × ByteArray)) a__1_0 a__1_0h, Es (List (Int × Int × ByteArray)) a__2_0 a__2_0h] := H
  refine fld gok rfl rfl rfl rfl ?_
  refine loadN [(a__1_0h).v] rfl (H.bxs 2 rfl 1 rfl) ?_
  obtain ⟨y13, e, hF14⟩ := bindS hF; clear hF
  obtain ⟨y13_0, rfl⟩ : ∃ z, z = y13 := ⟨_, rfl⟩
  have ey13 := e; clear e
  refine callF (laws_toTerm_c a__1_0 a__1_0h y13_0 ey13) (Γi := []) H ⟨Vw.sh 3 rfl, trivial⟩ ?_; clear H ey13
  rintro _ _ w15 ⟨h16, rfl, rfl⟩ (H : Cx w0 fp0 S0 w15 [E (List (Int × Int × ByteArray)) y13_0 h16, Bx b10 [(.string a__0), (.slice none 0 0), (.slice none 0 0)], Bx b7 [(.string .empty), (.slice none 0 0), (.slice none 0 0)], Bx b4 [(.string a__0), (a__1_0h).v, (a__2_0h).v], Es (List (Int × Int × ByteArray)) a__1_0 a__1_0h, Es (List (Int × Int × ByteArray)) a__2_0 a__2_0h])
  refine fld gok rfl rfl rfl rfl ?_
  replace H := H.sel [1, 0, 2, 3, 4, 5] rfl
  refine stAp gok 1 [(h16).v] rfl H rfl rfl rfl ?_; clear H; intro w18 H
  replace H : Cx w0 fp0 S0 w18 [Bx b10 [(.string a__0), (h16).v, (.slice none 0 0)], E (List (Int × Int × ByteArray)) y13_0 h16, Bx b7 [(.string .empty), (.slice none 0 0), (.slice none 0 0)], Bx b4 [(.string a__0), (a__1_0h).v, (a__2_0h).v], Es (List (Int × Int × ByteArray)) a__1_0 a__1_0h, Es (List (Int × Int × ByteArray)) a__2_0 a__2_0h] := H
  refine fld gok rfl rfl rfl rfl ?_
  refine loadN [(a__2_0h).v] rfl (H.bxs 3 rfl 2 rfl) ?_
  obtain ⟨y19, e, hF20⟩ := bindS hF14; clear hF14
  obtain ⟨y19_0, rfl⟩ : ∃ z, z = y19 := ⟨_, rfl⟩
  have ey19 := e; clear e
  refine callF (laws_toTerm_c a__2_0 a__2_0h y19_0 ey19) (Γi := []) H ⟨Vw.sh 5 rfl, trivial⟩ ?_; clear H ey19
  rintro _ _ w21 ⟨h22, rfl, rfl⟩ (H : Cx w0 fp0 S0 w21 [E (List (Int × Int × ByteArray)) y19_0 h22, Bx b10 [(.string a__0), (h16).v, (.slice none 0 0)], E (List (Int × Int × ByteArray)) y13_0 h16, Bx b7 [(.string .empty), (.slice none 0 0), (.slice none 0 0)], Bx b4 [(.string a__0), (a__1_0h).v, (a__2_0h).v], Es (List (Int × Int × ByteArray)) a__1_0 a__1_0h, Es (List (Int × Int × ByteArray)) a__2_0 a__2_0h])
  refine fld gok rfl rfl rfl rfl ?_
  replace H := H.sel [1, 0, 2, 3, 4, 5, 6] rfl
  refine stAp gok 2 [(h22).v] rfl H rfl rfl rfl ?_; clear H; intro w24 H
  replace H : Cx w0 fp0 S0 w24 [Bx b10 [(.string a__0), (h16).v, (h22).v], E (List (Int × Int × ByteArray)) y19_0 h22, E (List (Int × Int × ByteArray)) y13_0 h16, Bx b7 [(.string .empty), (.slice none 0 0), (.slice none 0 0)], Bx b4 [(.string a__0), (a__1_0h).v, (a__2_0h).v], Es (List (Int × Int × ByteArray)) a__1_0 a__1_0h, Es (List (Int × Int × ByteArray)) a__2_0 a__2_0h] := H
  refine loadN [(.string a__0), (h16).v, (h22).v] rfl (fun j u hj => H.bx 0 rfl hj) ?_
  replace H := H.sel [3, 0, 1, 2, 4, 5, 6] rfl
  refine stA gok [(.string a__0), (h16).v, (h22).v] rfl H rfl rfl rfl ?_; clear H; intro w25 H
  replace H : Cx w0 fp0 S0 w25 [Bx b7 [(.string a__0), (h16).v, (h22).v], Bx b10 [(.string a__0), (h16).v, (h22).v], E (List (Int × Int × ByteArray)) y19_0 h22, E (List (Int × Int × ByteArray)) y13_0 h16, Bx b4 [(.string a__0), (a__1_0h).v, (a__2_0h).v], Es (List (Int × Int × ByteArray)) a__1_0 a__1_0h, Es (List (Int × Int × ByteArray)) a__2_0 a__2_0h] := H
  refine loadN [(.string a__0), (h16).v, (h22).v] rfl (fun j u hj => H.bx 0 rfl hj) ?_
  cases hF20
  exact ⟨_, _, rfl, ⟨h16, h22, rfl, rfl⟩, (H.sel [3, 2] rfl).close ⟨cloE, cloE, trivial⟩⟩

theorem laws_toRuleS_c (a_ : List (ByteArray × (List (Int × Int × ByteArray)) × (List (Int × Int × ByteArray)))) (a_h : Hd) (y : List (ByteArray × (List (Int × Int × ByteArray)) × (List (Int × Int × ByteArray)))) (hF : F_laws_toRuleS a_ = some y) :
    ConF Try.prog 6 #[(a_h).v] [Es (List (ByteArray × (List (Int × Int × ByteArray)) × (List (Int × Int × ByteArray)))) a_ a_h] [] (fun v Γ' => ∃ z0 : Hd, v = (z0).v ∧ Γ' = [E (List (ByteArray × (List (Int × Int × ByteArray)) × (List (Int × Int × ByteArray)))) y z0]) := by
  intro w0 S0 fp0 hI hS
  have H : Cx w0 fp0 S0 w0 [Es (List (ByteArray × (List (Int × Int × ByteArray)) × (List (Int × Int × ByteArray)))) a_ a_h] := Cx.start hI hS
  clear hI hS
  refine enterC (args := [_]) gok Try.func6 rfl _ rfl rfl rfl ?_
  refine lenE (H.rs (α := List (ByteArray × (List (Int × Int × ByteArray)) × (List (Int × Int × ByteArray)))) 0 rfl).len ?_
  obtain ⟨a2, e, hF3⟩ := bindS hF; clear hF
  refine make_ (α := ByteArray × (List (Int × Int × ByteArray)) × (List (Int × Int × ByteArray))) gok rfl rfl rfl rfl (makeCO_of e) H ?_; clear e H; intro h5 w4 hx H
  clear hx
  obtain ⟨r140, hF142, hF141⟩ := bindS hF3; clear hF3
  refine cut (fun (q143 : List (ByteArray × (List (Int × Int × ByteArray)) × (List (Int × Int × ByteArray)))) => [(3, (h5).v)]) (fun (q143 : List (ByteArray × (List (Int × Int × ByteArray)) × (List (Int × Int × ByteArray)))) w' => q143 = r140 ∧ Cx w0 fp0 S0 w' [E (List (ByteArray × (List (Int × Int × ByteArray)) × (List (Int × Int × ByteArray)))) q143 h5]) ?_ ?_
  · skip
    refine loopW _ (fun (s226 : (List (ByteArray × (List (Int × Int × ByteArray)) × (List (Int × Int × ByteArray)))) × Int) (_ : Unit) => [(0, (a_h).v), (3, (h5).v), (4, (.int .i64 s226.2))]) (fun (s226 : (List (ByteArray × (List (Int × Int × ByteArray)) × (List (Int × Int × ByteArray)))) × Int) (_ : Unit) w' => Cx w0 fp0 S0 w' [Es (List (ByteArray × (List (Int × Int × ByteArray)) × (List (Int × Int × ByteArray)))) a_ a_h, E (List (ByteArray × (List (Int × Int × ByteArray)) × (List (Int × Int × ByteArray)))) s226.1 h5]) (a2, 0) () hF142 ⟨rfl, rfl, rfl, trivial⟩ (H.sel [1, 0] rfl) ?_
    · clear H
      rintro T232 ⟨s226_0, s226_1⟩ _ w231 o233 (H : Cx w0 fp0 S0 w231 [Es (List (ByteArray × (List (Int × Int × ByteArray)) × (List (Int × Int × ByteArray)))) a_ a_h, E (List (ByteArray × (List (Int × Int × ByteArray)) × (List (Int × Int × ByteArray)))) s226_0 h5]) hrt hF234
      refine sq ?_
      refine lenE (H.rs (α := List (ByteArray × (List (Int × Int × ByteArray)) × (List (Int × Int × ByteArray)))) 0 rfl).len ?_
      obtain ⟨a235, e, hF236⟩ := bindS hF234; clear hF234
      refine boolO e ?_; clear e
      cases a235
      · have hF237 := condF hF236; clear hF236
        have hs := Option.some.inj hF237; subst hs; clear hF237
        have hF238 : some _ = some _ := congrArg some (hrt _ rfl).symm
        exact ⟨s226_0, ⟨rfl, trivial⟩, Option.some.inj hF238, H.sel [1] rfl⟩
      · have hF239 := condT hF236; clear hF236
        refine sq ?_
        obtain ⟨a246, e, hF247⟩ := bindS hF239; clear hF239
        have HH := H; clear H; obtain ⟨p244, m245, g248, c240, c241, c242, c243, H⟩ := HH.el (α := ByteArray × (List (Int × Int × ByteArray)) × (List (Int × Int × ByteArray))) 0 rfl e; clear HH
        clear e
        obtain ⟨a246_0, a246_1_0, a246_2_0⟩ := a246
        obtain ⟨_, h250, h251⟩ := g248
        replace H := H.part (β := List (Int × Int × ByteArray)) a246_1_0 (h250 : Hd) 0 rfl (fun S h => (And.left (And.right h)))
        replace H := H.part (β := List (Int × Int × ByteArray)) a246_2_0 (h251 : Hd) 1 rfl (fun S h => (And.right (And.right h)))
        replace H := H.sel [0, 1, 3, 4] rfl
        refine idxE c240 c241 c242 ?_; clear c240 c241 c242
        refine loadN [(.string a246_0), (h250).v, (h251).v] rfl c243 ?_; clear c243
        obtain ⟨y254, e, hF255⟩ := bindS hF247; clear hF247
        obtain ⟨y254_0, y254_1_0, y254_2_0⟩ := y254
        have ey254 := e; clear e
        refine callF (laws_toRule_c a246_0 a246_1_0 h250 a246_2_0 h251 y254_0 y254_1_0 y254_2_0 ey254) (Γi := []) H ⟨Vw.sh 1 rfl, Vw.sh 0 rfl, trivial⟩ ?_; clear H ey254
        rintro _ _ w256 ⟨h257, h259, rfl, rfl⟩ (H : Cx w0 fp0 S0 w256 [E (List (Int × Int × ByteArray)) y254_1_0 h257, E (List (Int × Int × ByteArray)) y254_2_0 h259, Es (List (Int × Int × ByteArray)) a246_2_0 h251, Es (List (Int × Int × ByteArray)) a246_1_0 h250, Es (List (ByteArray × (List (Int × Int × ByteArray)) × (List (Int × Int × ByteArray)))) a_ a_h, E (List (ByteArray × (List (Int × Int × ByteArray)) × (List (Int × Int × ByteArray)))) s226_0 h5])
        replace H := H.join (α := List (Int × Int × ByteArray)) (β := List (Int × Int × ByteArray))
        replace H := H.sc (α := ByteArray) y254_0
        replace H := H.join (α := ByteArray) (β := (List (Int × Int × ByteArray)) × (List (Int × Int × ByteArray)))
        obtain ⟨a270, e, hF271⟩ := bindS hF255; clear hF255
        have ea270 := e; clear e
        replace H := H.sel [4, 0, 1, 2, 3] rfl
        have HH := H; clear H; obtain ⟨p265, m266, c264, c261, c262, c263, H⟩ := HH.hole (α := ByteArray × (List (Int × Int × ByteArray)) × (List (Int × Int × ByteArray))) ea270; clear HH
        refine idxE c261 c262 c263 ?_
        refine stXA (α := ByteArray × (List (Int × Int × ByteArray)) × (List (Int × Int × ByteArray))) gok [(.string y254_0), (h257).v, (h259).v] rfl rfl H c261 rfl rfl ?_; clear H; intro w272 H
        replace H := H.sel [1, 0, 2, 3, 4] rfl
        replace H := H.put c262 ea270; clear c261 c262 c263 ea270
        obtain ⟨a273, e, hF274⟩ := bindS hF271; clear hF271
        refine arO e ?_; clear e
        have hs := Option.some.inj hF274; subst hs; clear hF274
        exact ⟨(a270, a273), (), rfl, ⟨rfl, rfl, rfl, trivial⟩, H.sel [3, 0] rfl⟩
  · clear hF142 H
    rintro T276 s138 w275 ⟨hr, (H : Cx w0 fp0 S0 w275 [E (List (ByteArray × (List (Int × Int × ByteArray)) × (List (Int × Int × ByteArray)))) s138 h5])⟩
    subst hr
    cases hF141
    exact ⟨_, _, rfl, ⟨h5, rfl, rfl⟩, (H.sel [0] rfl).close ⟨cloE, trivial⟩⟩

theorem spec_l1In_c (n_ : Int) (lo_ : Int) (hi_ : Int) (y : Bool) (hF : F_spec_l1In n_ lo_ hi_ = some y) :
    ConF Try.prog 16 #[(.int .i64 n_), (.int .i64 lo_), (.int .i64 hi_)] [] [] (fun v Γ' => v = (.bool y) ∧ Γ' = []) := by
  intro w0 S0 fp0 hI hS
  have H : Cx w0 fp0 S0 w0 [] := Cx.start hI hS
  clear hI hS
  refine enterC (args := [_, _, _]) gok Try.func16 rfl _ rfl rfl rfl ?_
  obtain ⟨r9, hF11, hF10⟩ := bindS hF; clear hF
  refine cut (fun (q12 : Bool) => [(6, (.bool q12))]) (fun (q12 : Bool) w' => q12 = r9 ∧ Cx w0 fp0 S0 w' []) ?_ ?_
  · skip
    obtain ⟨a13, e, hF14⟩ := bindS hF11; clear hF11
    refine boolO e ?_; clear e
    cases a13
    · have hF15 := condF hF14; clear hF14
      exact ⟨false, ⟨rfl, trivial⟩, Option.some.inj hF15, H.sel [] rfl⟩
    · have hF16 := condT hF14; clear hF14
      obtain ⟨a17, e, hF18⟩ := bindS hF16; clear hF16
      refine boolO e ?_; clear e
      exact ⟨a17, ⟨rfl, trivial⟩, Option.some.inj hF18, H.sel [] rfl⟩
  · clear hF11 H
    rintro T20 s7 w19 ⟨hr, (H : Cx w0 fp0 S0 w19 [])⟩
    subst hr
    cases hF10
    exact ⟨_, _, rfl, ⟨rfl, rfl⟩, (H.sel [] rfl).close trivial⟩

theorem spec_tmLeaf_c (n__0 : Int) (n__1 : Int) (n__2 : ByteArray) (y : Bool) (hF : F_spec_tmLeaf (n__0, n__1, n__2) = some y) :
    ConF Try.prog 78 #[(.agg #[(.int .i64 n__0), (.int .i64 n__1), (.string n__2)])] [] [] (fun v Γ' => v = (.bool y) ∧ Γ' = []) := by
  intro w0 S0 fp0 hI hS
  have H : Cx w0 fp0 S0 w0 [] := Cx.start hI hS
  clear hI hS
  refine enterC (args := [_]) gok Try.func78 rfl _ rfl rfl rfl ?_
  refine box_ H ?_; clear H; intro b2 w1 hx H
  clear hx
  replace H : Cx w0 fp0 S0 w1 [Bx b2 [(.int .i64 n__0), (.int .i64 n__1), (.string n__2)]] := H
  refine sq ?_
  obtain ⟨r15, hF17, hF16⟩ := bindS hF; clear hF
  refine cut (fun (q18 : Bool) => [(1, (.pointer (some ⟨b2, 0, none⟩))), (11, (.bool q18))]) (fun (q18 : Bool) w' => q18 = r15 ∧ Cx w0 fp0 S0 w' [Bx b2 [(.int .i64 n__0), (.int .i64 n__1), (.string n__2)]]) ?_ ?_
  · skip
    refine fld gok rfl rfl rfl rfl ?_
    refine load1 (H.bx 0 rfl (j := 2) rfl) ?_
    obtain ⟨a19, e, hF20⟩ := bindS hF17; clear hF17
    refine neqZ e ?_; clear e
    cases a19
    · have hF21 := condF hF20; clear hF20
      refine fld gok rfl rfl rfl rfl ?_
      refine load1 (H.bx 0 rfl (j := 0) rfl) ?_
      obtain ⟨y22, e, hF23⟩ := bindS hF21; clear hF21
      have ey22 := e; clear e
      refine callF (spec_l1In_c n__0 1 14 y22 ey22) (Γi := []) H trivial ?_; clear H ey22
      rintro _ _ w24 ⟨rfl, rfl⟩ (H : Cx w0 fp0 S0 w24 [Bx b2 [(.int .i64 n__0), (.int .i64 n__1), (.string n__2)]])
      obtain ⟨a25, e, hF26⟩ := bindS hF23; clear hF23
      refine boolO e ?_; clear e
      exact ⟨a25, ⟨rfl, rfl, trivial⟩, Option.some.inj hF26, H.sel [0] rfl⟩
    · have hF27 := condT hF20; clear hF20
      exact ⟨true, ⟨rfl, rfl, trivial⟩, Option.some.inj hF27, H.sel [0] rfl⟩
  · clear hF17 H
    rintro T29 s13 w28 ⟨hr, (H : Cx w0 fp0 S0 w28 [Bx b2 [(.int .i64 n__0), (.int .i64 n__1), (.string n__2)]])⟩
    subst hr
    cases s13
    · have hF30 := condF hF16; clear hF16
      refine sq ?_
      refine fld gok rfl rfl rfl rfl ?_
      refine load1 (H.bx 0 rfl (j := 0) rfl) ?_
      obtain ⟨a31, e, hF32⟩ := bindS hF30; clear hF30
      refine boolO e ?_; clear e
      cases a31
      · have hF33 := condF hF32; clear hF32
        obtain ⟨r42, hF44, hF43⟩ := bindS hF33; clear hF33
        refine cut (fun (q45 : Bool) => [(1, (.pointer (some ⟨b2, 0, none⟩))), (19, (.bool q45))]) (fun (q45 : Bool) w' => q45 = r42 ∧ Cx w0 fp0 S0 w' [Bx b2 [(.int .i64 n__0), (.int .i64 n__1), (.string n__2)]]) ?_ ?_
        · skip
          obtain ⟨a46, e, hF47⟩ := bindS hF44; clear hF44
          refine boolO e ?_; clear e
          cases a46
          · have hF48 := condF hF47; clear hF47
            obtain ⟨a49, e, hF50⟩ := bindS hF48; clear hF48
            refine boolO e ?_; clear e
            exact ⟨a49, ⟨rfl, rfl, trivial⟩, Option.some.inj hF50, H.sel [0] rfl⟩
          · have hF51 := condT hF47; clear hF47
            exact ⟨true, ⟨rfl, rfl, trivial⟩, Option.some.inj hF51, H.sel [0] rfl⟩
        · clear hF44 H
          rintro T53 s40 w52 ⟨hr, (H : Cx w0 fp0 S0 w52 [Bx b2 [(.int .i64 n__0), (.int .i64 n__1), (.string n__2)]])⟩
          subst hr
          cases s40
          · have hF54 := condF hF43; clear hF43
            refine fld gok rfl rfl rfl rfl ?_
            refine load1 (H.bx 0 rfl (j := 1) rfl) ?_
            obtain ⟨a55, e, hF56⟩ := bindS hF54; clear hF54
            refine boolO e ?_; clear e
            cases hF56
            exact ⟨_, _, rfl, ⟨rfl, rfl⟩, (H.sel [] rfl).close trivial⟩
          · have hF57 := condT hF43; clear hF43
            refine fld gok rfl rfl rfl rfl ?_
            refine load1 (H.bx 0 rfl (j := 1) rfl) ?_
            obtain ⟨y58, e, hF59⟩ := bindS hF57; clear hF57
            have ey58 := e; clear e
            refine callF (spec_l1In_c n__1 0 96 y58 ey58) (Γi := []) H trivial ?_; clear H ey58
            rintro _ _ w60 ⟨rfl, rfl⟩ (H : Cx w0 fp0 S0 w60 [Bx b2 [(.int .i64 n__0), (.int .i64 n__1), (.string n__2)]])
            cases hF59
            exact ⟨_, _, rfl, ⟨rfl, rfl⟩, (H.sel [] rfl).close trivial⟩
      · have hF61 := condT hF32; clear hF32
        refine fld gok rfl rfl rfl rfl ?_
        refine load1 (H.bx 0 rfl (j := 1) rfl) ?_
        obtain ⟨y62, e, hF63⟩ := bindS hF61; clear hF61
        have ey62 := e; clear e
        refine callF (spec_l1In_c n__1 0 12 y62 ey62) (Γi := []) H trivial ?_; clear H ey62
        rintro _ _ w64 ⟨rfl, rfl⟩ (H : Cx w0 fp0 S0 w64 [Bx b2 [(.int .i64 n__0), (.int .i64 n__1), (.string n__2)]])
        cases hF63
        exact ⟨_, _, rfl, ⟨rfl, rfl⟩, (H.sel [] rfl).close trivial⟩
    · have hF65 := condT hF16; clear hF16
      cases hF65
      exact ⟨_, _, rfl, ⟨rfl, rfl⟩, (H.sel [] rfl).close trivial⟩

theorem spec_tmKind_c (kind_ : Int) (y0 : Int) (y1 : Int) (hF : F_spec_tmKind kind_ = some (y0, y1)) :
    ConF Try.prog 56 #[(.int .i64 kind_)] [] [] (fun v Γ' => v = (.tuple #[(.int .i64 y0), (.int .i64 y1)]) ∧ Γ' = []) := by
  intro w0 S0 fp0 hI hS
  have H : Cx w0 fp0 S0 w0 [] := Cx.start hI hS
  clear hI hS
  refine enterC (args := [_]) gok Try.func56 rfl _ rfl rfl rfl ?_
  refine sq ?_
  obtain ⟨a1, e, hF2⟩ := bindS hF; clear hF
  refine boolO e ?_; clear e
  cases a1
  · have hF3 := condF hF2; clear hF2
    obtain ⟨r12, hF14, hF13⟩ := bindS hF3; clear hF3
    refine cut (fun (q15 : Bool) => [(4, (.int .i64 kind_)), (7, (.bool q15))]) (fun (q15 : Bool) w' => q15 = r12 ∧ Cx w0 fp0 S0 w' []) ?_ ?_
    · skip
      obtain ⟨a16, e, hF17⟩ := bindS hF14; clear hF14
      refine boolO e ?_; clear e
      cases a16
      · have hF18 := condF hF17; clear hF17
        obtain ⟨a19, e, hF20⟩ := bindS hF18; clear hF18
        refine boolO e ?_; clear e
        exact ⟨a19, ⟨rfl, rfl, trivial⟩, Option.some.inj hF20, H.sel [] rfl⟩
      · have hF21 := condT hF17; clear hF17
        exact ⟨true, ⟨rfl, rfl, trivial⟩, Option.some.inj hF21, H.sel [] rfl⟩
    · clear hF14 H
      rintro T23 s10 w22 ⟨hr, (H : Cx w0 fp0 S0 w22 [])⟩
      subst hr
      cases s10
      · have hF24 := condF hF13; clear hF13
        obtain ⟨r33, hF35, hF34⟩ := bindS hF24; clear hF24
        refine cut (fun (q36 : Bool) => [(4, (.int .i64 kind_)), (10, (.bool q36))]) (fun (q36 : Bool) w' => q36 = r33 ∧ Cx w0 fp0 S0 w' []) ?_ ?_
        · skip
          obtain ⟨a37, e, hF38⟩ := bindS hF35; clear hF35
          refine boolO e ?_; clear e
          cases a37
          · have hF39 := condF hF38; clear hF38
            obtain ⟨a40, e, hF41⟩ := bindS hF39; clear hF39
            refine boolO e ?_; clear e
            exact ⟨a40, ⟨rfl, rfl, trivial⟩, Option.some.inj hF41, H.sel [] rfl⟩
          · have hF42 := condT hF38; clear hF38
            exact ⟨true, ⟨rfl, rfl, trivial⟩, Option.some.inj hF42, H.sel [] rfl⟩
        · clear hF35 H
          rintro T44 s31 w43 ⟨hr, (H : Cx w0 fp0 S0 w43 [])⟩
          subst hr
          cases s31
          · have hF45 := condF hF34; clear hF34
            obtain ⟨r54, hF56, hF55⟩ := bindS hF45; clear hF45
            refine cut (fun (q57 : Bool) => [(4, (.int .i64 kind_)), (13, (.bool q57))]) (fun (q57 : Bool) w' => q57 = r54 ∧ Cx w0 fp0 S0 w' []) ?_ ?_
            · skip
              obtain ⟨a58, e, hF59⟩ := bindS hF56; clear hF56
              refine boolO e ?_; clear e
              cases a58
              · have hF60 := condF hF59; clear hF59
                obtain ⟨a61, e, hF62⟩ := bindS hF60; clear hF60
                refine boolO e ?_; clear e
                exact ⟨a61, ⟨rfl, rfl, trivial⟩, Option.some.inj hF62, H.sel [] rfl⟩
              · have hF63 := condT hF59; clear hF59
                exact ⟨true, ⟨rfl, rfl, trivial⟩, Option.some.inj hF63, H.sel [] rfl⟩
            · clear hF56 H
              rintro T65 s52 w64 ⟨hr, (H : Cx w0 fp0 S0 w64 [])⟩
              subst hr
              cases s52
              · have hF66 := condF hF55; clear hF55
                obtain ⟨r75, hF77, hF76⟩ := bindS hF66; clear hF66
                refine cut (fun (q78 : Bool) => [(16, (.bool q78))]) (fun (q78 : Bool) w' => q78 = r75 ∧ Cx w0 fp0 S0 w' []) ?_ ?_
                · skip
                  obtain ⟨a79, e, hF80⟩ := bindS hF77; clear hF77
                  refine boolO e ?_; clear e
                  cases a79
                  · have hF81 := condF hF80; clear hF80
                    obtain ⟨a82, e, hF83⟩ := bindS hF81; clear hF81
                    refine boolO e ?_; clear e
                    exact ⟨a82, ⟨rfl, trivial⟩, Option.some.inj hF83, H.sel [] rfl⟩
                  · have hF84 := condT hF80; clear hF80
                    exact ⟨true, ⟨rfl, trivial⟩, Option.some.inj hF84, H.sel [] rfl⟩
                · clear hF77 H
                  rintro T86 s73 w85 ⟨hr, (H : Cx w0 fp0 S0 w85 [])⟩
                  subst hr
                  cases s73
                  · have hF87 := condF hF76; clear hF76
                    cases hF87
                    exact ⟨_, _, rfl, ⟨rfl, rfl⟩, (H.sel [] rfl).close trivial⟩
                  · have hF88 := condT hF76; clear hF76
                    cases hF88
                    exact ⟨_, _, rfl, ⟨rfl, rfl⟩, (H.sel [] rfl).close trivial⟩
              · have hF89 := condT hF55; clear hF55
                cases hF89
                exact ⟨_, _, rfl, ⟨rfl, rfl⟩, (H.sel [] rfl).close trivial⟩
          · have hF90 := condT hF34; clear hF34
            cases hF90
            exact ⟨_, _, rfl, ⟨rfl, rfl⟩, (H.sel [] rfl).close trivial⟩
      · have hF91 := condT hF13; clear hF13
        cases hF91
        exact ⟨_, _, rfl, ⟨rfl, rfl⟩, (H.sel [] rfl).close trivial⟩
  · have hF92 := condT hF2; clear hF2
    cases hF92
    exact ⟨_, _, rfl, ⟨rfl, rfl⟩, (H.sel [] rfl).close trivial⟩

theorem spec_tmArity_c (n__0 : Int) (n__1 : Int) (n__2 : ByteArray) (y0 : Int) (y1 : Int) (hF : F_spec_tmArity (n__0, n__1, n__2) = some (y0, y1)) :
    ConF Try.prog 79 #[(.agg #[(.int .i64 n__0), (.int .i64 n__1), (.string n__2)])] [] [] (fun v Γ' => v = (.tuple #[(.int .i64 y0), (.int .i64 y1)]) ∧ Γ' = []) := by
  intro w0 S0 fp0 hI hS
  have H : Cx w0 fp0 S0 w0 [] := Cx.start hI hS
  clear hI hS
  refine enterC (args := [_]) gok Try.func79 rfl _ rfl rfl rfl ?_
  refine box_ H ?_; clear H; intro b2 w1 hx H
  clear hx
  replace H : Cx w0 fp0 S0 w1 [Bx b2 [(.int .i64 n__0), (.int .i64 n__1), (.string n__2)]] := H
  refine sq ?_
  refine fld gok rfl rfl rfl rfl ?_
  refine load1 (H.bx 0 rfl (j := 0) rfl) ?_
  obtain ⟨a4, e, hF5⟩ := bindS hF; clear hF
  refine boolO e ?_; clear e
  cases a4
  · have hF6 := condF hF5; clear hF5
    refine fld gok rfl rfl rfl rfl ?_
    refine load1 (H.bx 0 rfl (j := 0) rfl) ?_
    obtain ⟨y7, e, hF8⟩ := bindS hF6; clear hF6
    obtain ⟨y7_0, y7_1⟩ := y7
    have ey7 := e; clear e
    refine callF (spec_tmKind_c n__0 y7_0 y7_1 ey7) (Γi := []) H trivial ?_; clear H ey7
    rintro _ _ w9 ⟨rfl, rfl⟩ (H : Cx w0 fp0 S0 w9 [Bx b2 [(.int .i64 n__0), (.int .i64 n__1), (.string n__2)]])
    cases hF8
    exact ⟨_, _, rfl, ⟨rfl, rfl⟩, (H.sel [] rfl).close trivial⟩
  · have hF10 := condT hF5; clear hF5
    refine heldX H [] (.fst 0 (.fst 2 (.fst 1 (.fst 4 (.fst 3 (.fst 5 .done)))))) mixed [] trivial (by kernel_rfl) ?_
    clear H; intro w11 H
    have hX : Ext w11 w11 := Upd.refl _ _
    have H0 := H
    refine anyH (fun _ => fld gok rfl rfl rfl rfl ⟨rfl, rfl⟩) ?_
    refine anyH (fun _ => fld gok rfl rfl rfl rfl ⟨rfl, rfl⟩) ?_
    refine load1X (H.bx 0 rfl (j := 1) rfl) ?_
    refine load1X (H.bx 0 rfl (j := 1) rfl) ?_
    cases hF10
    exact ⟨_, _, rfl, ⟨rfl, rfl⟩, (H.sel [] rfl).close trivial⟩

theorem spec_lbFind_c (lib_ : List (ByteArray × Int × Int × (List (Int × Int × ByteArray)))) (lib_h : Hd) (name_ : ByteArray) (y : Int) (hF : F_spec_lbFind lib_ name_ = some y) :
    ConF Try.prog 80 #[(lib_h).v, (.string name_)] [Es (List (ByteArray × Int × Int × (List (Int × Int × ByteArray)))) lib_ lib_h] [] (fun v Γ' => v = (.int .i64 y) ∧ Γ' = []) := by
  intro w0 S0 fp0 hI hS
  have H : Cx w0 fp0 S0 w0 [Es (List (ByteArray × Int × Int × (List (Int × Int × ByteArray)))) lib_ lib_h] := Cx.start hI hS
  clear hI hS
  refine enterC (args := [_, _]) gok Try.func80 rfl _ rfl rfl rfl ?_
  refine sq ?_
  refine lenE (H.rs (α := List (ByteArray × Int × Int × (List (Int × Int × ByteArray)))) 0 rfl).len ?_
  have hmx27 := (H.rs (α := List (ByteArray × Int × Int × (List (Int × Int × ByteArray)))) 0 rfl).max
  obtain ⟨r28, e, hF29⟩ := bindS hF; clear hF
  refine loopO _ lib_.length (fun (k2 : Nat) (_ : Unit) (_ : Unit) => [(1, (.string name_)), (7, (lib_h).v), (8, (.int .i64 ((lib_.length : Nat) : Int))), (9, (.int .i64 ((k2 : Nat) : Int)))]) (fun _ (_ : Unit) (_ : Unit) w' => Cx w0 fp0 S0 w' [Es (List (ByteArray × Int × Int × (List (Int × Int × ByteArray)))) lib_ lib_h]) () () e ⟨rfl, rfl, rfl, rfl, trivial⟩ (H.sel [0] rfl) ?_ ?_
  · clear H e
    rintro T31 k2 _ _ w30 o32 hk (H : Cx w0 fp0 S0 w30 [Es (List (ByteArray × Int × Int × (List (Int × Int × ByteArray)))) lib_ lib_h]) hrt hF33
    refine boolE (z := true) (ltLen hk) ?_
    refine sq ?_
    refine sq ?_
    obtain ⟨a40, e, hF41⟩ := bindS hF33; clear hF33
    have HH := H; clear H; obtain ⟨p38, m39, g42, c34, c35, c36, c37, H⟩ := HH.el (α := ByteArray × Int × Int × (List (Int × Int × ByteArray))) 0 rfl e; clear HH
    clear e
    obtain ⟨a40_0, a40_1, a40_2, a40_3_0⟩ := a40
    obtain ⟨_, _, _, h44⟩ := g42
    replace H := H.part (β := List (Int × Int × ByteArray)) a40_3_0 (h44 : Hd) 0 rfl (fun S h => (And.right (And.right (And.right h))))
    replace H := H.sel [0, 2] rfl
    refine idxE c34 c35 c36 ?_; clear c34 c35 c36
    refine loadN [(.string a40_0), (.int .i64 a40_1), (.int .i64 a40_2), (h44).v] rfl c37 ?_; clear c37
    refine alloc_ gok rfl H ?_; clear H; intro b47 w46 hx H
    clear hx
    replace H : Cx w0 fp0 S0 w46 [Bx b47 [(.string .empty), (.int .i64 0), (.int .i64 0), (.slice none 0 0)], Es (List (Int × Int × ByteArray)) a40_3_0 h44, Es (List (ByteArray × Int × Int × (List (Int × Int × ByteArray)))) lib_ lib_h] := H
    refine stA gok [(.string a40_0), (.int .i64 a40_1), (.int .i64 a40_2), (h44).v] rfl H rfl rfl rfl ?_; clear H; intro w49 H
    replace H : Cx w0 fp0 S0 w49 [Bx b47 [(.string a40_0), (.int .i64 a40_1), (.int .i64 a40_2), (h44).v], Es (List (Int × Int × ByteArray)) a40_3_0 h44, Es (List (ByteArray × Int × Int × (List (Int × Int × ByteArray)))) lib_ lib_h] := H
    refine fld gok rfl rfl rfl rfl ?_
    refine load1 (H.bx 0 rfl (j := 0) rfl) ?_
    obtain ⟨a50, e, hF51⟩ := bindS hF41; clear hF41
    refine eqZ e ?_; clear e
    cases a50
    · have hF52 := condF hF51; clear hF51
      refine arK hk hmx27 ?_
      have hs := Option.some.inj hF52; subst hs; clear hF52
      exact ⟨(), (), rfl, ⟨rfl, rfl, rfl, rfl, trivial⟩, H.sel [2] rfl⟩
    · have hF53 := condT hF51; clear hF51
      have hs := Option.some.inj hF53; subst hs; clear hF53
      have hr := hrt _ rfl; subst hr
      have hF54 : some _ = some _ := hF29
      cases hF54
      exact ⟨_, _, rfl, ⟨rfl, rfl⟩, (H.sel [] rfl).close trivial⟩
  · clear H e
    rintro T56 _ _ w55 hr (H : Cx w0 fp0 S0 w55 [Es (List (ByteArray × Int × Int × (List (Int × Int × ByteArray)))) lib_ lib_h])
    subst hr
    refine boolE (z := false) geLen ?_
    refine sq ?_
    cases hF29
    exact ⟨_, _, rfl, ⟨rfl, rfl⟩, (H.sel [] rfl).close trivial⟩

theorem spec_lbScan_c (lib_ : List (ByteArray × Int × Int × (List (Int × Int × ByteArray)))) (lib_h : Hd) (t__0 : List (Int × Int × ByteArray)) (t__0h : Hd) (y0_0 : List Int) (y0_1 : List Int) (y0_2 : List Int) (y1 : Bool) (hF : F_spec_lbScan lib_ t__0 = some ((y0_0, y0_1, y0_2), y1)) :
    ConF Try.prog 54 #[(lib_h).v, (.agg #[(t__0h).v])] [Es (List (ByteArray × Int × Int × (List (Int × Int × ByteArray)))) lib_ lib_h, Es (List (Int × Int × ByteArray)) t__0 t__0h] [] (fun v Γ' => ∃ z0 z1 z2 : Hd, v = (.tuple #[(.agg #[(z0).v, (z1).v, (z2).v]), (.bool y1)]) ∧ Γ' = [E (List Int) y0_0 z0, E (List Int) y0_1 z1, E (List Int) y0_2 z2]) := by
  intro w0 S0 fp0 hI hS
  have H : Cx w0 fp0 S0 w0 [Es (List (ByteArray × Int × Int × (List (Int × Int × ByteArray)))) lib_ lib_h, Es (List (Int × Int × ByteArray)) t__0 t__0h] := Cx.start hI hS
  clear hI hS
  refine enterC (args := [_, _]) gok Try.func54 rfl _ rfl rfl rfl ?_
  refine box_ H ?_; clear H; intro b4 w3 hx H
  clear hx
  replace H : Cx w0 fp0 S0 w3 [Bx b4 [(t__0h).v], Es (List (ByteArray × Int × Int × (List (Int × Int × ByteArray)))) lib_ lib_h, Es (List (Int × Int × ByteArray)) t__0 t__0h] := H
  refine alloc_ gok rfl H ?_; clear H; intro b7 w6 hx H
  clear hx
  replace H : Cx w0 fp0 S0 w6 [Bx b7 [(.slice none 0 0), (.slice none 0 0), (.slice none 0 0)], Bx b4 [(t__0h).v], Es (List (ByteArray × Int × Int × (List (Int × Int × ByteArray)))) lib_ lib_h, Es (List (Int × Int × ByteArray)) t__0 t__0h] := H
  refine alloc_ gok rfl H ?_; clear H; intro b10 w9 hx H
  clear hx
  replace H : Cx w0 fp0 S0 w9 [Bx b10 [(.slice none 0 0), (.slice none 0 0), (.slice none 0 0)], Bx b7 [(.slice none 0 0), (.slice none 0 0), (.slice none 0 0)], Bx b4 [(t__0h).v], Es (List (ByteArray × Int × Int × (List (Int × Int × ByteArray)))) lib_ lib_h, Es (List (Int × Int × ByteArray)) t__0 t__0h] := H
  refine sq ?_
  refine fld gok rfl rfl rfl rfl ?_
  refine load1 (H.bx 2 rfl (j := 0) rfl) ?_
  refine lenE (H.rs (α := List (Int × Int × ByteArray)) 4 rfl).len ?_
  obtain ⟨y12, e, hF13⟩ := bindS hF; clear hF
  have ey12 := e; clear e
  refine callF (spec_l1In_c ((t__0.length : Nat) : Int) 1 400 y12 ey12) (Γi := []) H trivial ?_; clear H ey12
  rintro _ _ w14 ⟨rfl, rfl⟩ (H : Cx w0 fp0 S0 w14 [Bx b10 [(.slice none 0 0), (.slice none 0 0), (.slice none 0 0)], Bx b7 [(.slice none 0 0), (.slice none 0 0), (.slice none 0 0)], Bx b4 [(t__0h).v], Es (List (ByteArray × Int × Int × (List (Int × Int × ByteArray)))) lib_ lib_h, Es (List (Int × Int × ByteArray)) t__0 t__0h])
  obtain ⟨a15, e, hF16⟩ := bindS hF13; clear hF13
  refine boolO e ?_; clear e
  cases a15
  · have hF17 := condF hF16; clear hF16
    refine sq ?_
    refine fld gok rfl rfl rfl rfl ?_
    refine load1 (H.bx 2 rfl (j := 0) rfl) ?_
    refine lenE (H.rs (α := List (Int × Int × ByteArray)) 4 rfl).len ?_
    have hmx2161 := (H.rs (α := List (Int × Int × ByteArray)) 4 rfl).max
    obtain ⟨r2162, e, hF2163⟩ := bindS hF17; clear hF17
    replace H := H.nil (α := Int)
    replace H := H.nil (α := Int)
    replace H := H.nil (α := Int)
    refine loopO _ t__0.length (fun (k18 : Nat) (s2156 : List Int × List Int × List Int) (g2157 : Hd × Hd × Hd) => [(0, (lib_h).v), (3, (.pointer (some ⟨b4, 0, none⟩))), (4, (.pointer (some ⟨b7, 0, none⟩))), (6, (.pointer (some ⟨b10, 0, none⟩))), (23, (t__0h).v), (24, (.int .i64 ((t__0.length : Nat) : Int))), (25, (.int .i64 ((k18 : Nat) : Int)))]) (fun _ (s2156 : List Int × List Int × List Int) (g2157 : Hd × Hd × Hd) w' => Cx w0 fp0 S0 w' [Es (List (ByteArray × Int × Int × (List (Int × Int × ByteArray)))) lib_ lib_h, Bx b4 [(t__0h).v], Es (List (Int × Int × ByteArray)) t__0 t__0h, Bx b7 [(.slice none 0 0), (.slice none 0 0), (.slice none 0 0)], Bx b10 [(g2157.1).v, (g2157.2.1).v, (g2157.2.2).v], E (List Int) s2156.1 g2157.1, E (List Int) s2156.2.1 g2157.2.1, E (List Int) s2156.2.2 g2157.2.2]) ([], [], []) (nilH, nilH, nilH) e ⟨rfl, rfl, rfl, rfl, rfl, rfl, rfl, trivial⟩ (H.sel [6, 5, 7, 4, 3, 2, 1, 0] rfl) ?_ ?_
    · clear H e
      rintro T2168 k18 ⟨s2156_0, s2156_1, s2156_2⟩ ⟨g2157_0, g2157_1, g2157_2⟩ w2167 o2169 hk (H : Cx w0 fp0 S0 w2167 [Es (List (ByteArray × Int × Int × (List (Int × Int × ByteArray)))) lib_ lib_h, Bx b4 [(t__0h).v], Es (List (Int × Int × ByteArray)) t__0 t__0h, Bx b7 [(.slice none 0 0), (.slice none 0 0), (.slice none 0 0)], Bx b10 [(g2157_0).v, (g2157_1).v, (g2157_2).v], E (List Int) s2156_0 g2157_0, E (List Int) s2156_1 g2157_1, E (List Int) s2156_2 g2157_2]) hrt hF2170
      refine boolE (z := true) (ltLen hk) ?_
      refine sq ?_
      obtain ⟨r2689, hF2691, hF2690⟩ := bindS hF2170; clear hF2170
      refine cut (fun (q2692 : (List Int × List Int × List Int) × (Hd × Hd × Hd)) => [(0, (lib_h).v), (3, (.pointer (some ⟨b4, 0, none⟩))), (4, (.pointer (some ⟨b7, 0, none⟩))), (6, (.pointer (some ⟨b10, 0, none⟩))), (23, (t__0h).v), (24, (.int .i64 ((t__0.length : Nat) : Int))), (25, (.int .i64 ((k18 : Nat) : Int)))]) (fun (q2692 : (List Int × List Int × List Int) × (Hd × Hd × Hd)) w' => .inl (q2692.1.1, q2692.1.2.1, q2692.1.2.2) = r2689 ∧ Cx w0 fp0 S0 w' [Es (List (ByteArray × Int × Int × (List (Int × Int × ByteArray)))) lib_ lib_h, Bx b4 [(t__0h).v], Es (List (Int × Int × ByteArray)) t__0 t__0h, Bx b7 [(.slice none 0 0), (.slice none 0 0), (.slice none 0 0)], Bx b10 [(q2692.2.1).v, (q2692.2.2.1).v, (q2692.2.2.2).v], E (List Int) q2692.1.1 q2692.2.1, E (List Int) q2692.1.2.1 q2692.2.2.1, E (List Int) q2692.1.2.2 q2692.2.2.2]) ?_ ?_
      · skip
        obtain ⟨a2699, e, hF2700⟩ := bindS hF2691; clear hF2691
        have HH := H; clear H; obtain ⟨p2697, m2698, g2701, c2693, c2694, c2695, c2696, H⟩ := HH.el (α := Int × Int × ByteArray) 2 rfl e; clear HH
        clear e
        obtain ⟨a2699_0, a2699_1, a2699_2⟩ := a2699
        obtain ⟨_, _, _⟩ := g2701
        replace H := H.sel [1, 2, 3, 4, 5, 6, 7, 8] rfl
        refine idxE c2693 c2694 c2695 ?_; clear c2693 c2694 c2695
        refine loadN [(.int .i64 a2699_0), (.int .i64 a2699_1), (.string a2699_2)] rfl c2696 ?_; clear c2696
        refine alloc_ gok rfl H ?_; clear H; intro b2704 w2703 hx H
        clear hx
        replace H : Cx w0 fp0 S0 w2703 [Bx b2704 [(.int .i64 0), (.int .i64 0), (.string .empty)], Es (List (ByteArray × Int × Int × (List (Int × Int × ByteArray)))) lib_ lib_h, Bx b4 [(t__0h).v], Es (List (Int × Int × ByteArray)) t__0 t__0h, Bx b7 [(.slice none 0 0), (.slice none 0 0), (.slice none 0 0)], Bx b10 [(g2157_0).v, (g2157_1).v, (g2157_2).v], E (List Int) s2156_0 g2157_0, E (List Int) s2156_1 g2157_1, E (List Int) s2156_2 g2157_2] := H
        refine stA gok [(.int .i64 a2699_0), (.int .i64 a2699_1), (.string a2699_2)] rfl H rfl rfl rfl ?_; clear H; intro w2706 H
        replace H : Cx w0 fp0 S0 w2706 [Bx b2704 [(.int .i64 a2699_0), (.int .i64 a2699_1), (.string a2699_2)], Es (List (ByteArray × Int × Int × (List (Int × Int × ByteArray)))) lib_ lib_h, Bx b4 [(t__0h).v], Es (List (Int × Int × ByteArray)) t__0 t__0h, Bx b7 [(.slice none 0 0), (.slice none 0 0), (.slice none 0 0)], Bx b10 [(g2157_0).v, (g2157_1).v, (g2157_2).v], E (List Int) s2156_0 g2157_0, E (List Int) s2156_1 g2157_1, E (List Int) s2156_2 g2157_2] := H
        refine sq ?_
        obtain ⟨r2716, hF2718, hF2717⟩ := bindS hF2700; clear hF2700
        refine cut (fun (q2719 : Bool) => [(0, (lib_h).v), (3, (.pointer (some ⟨b4, 0, none⟩))), (4, (.pointer (some ⟨b7, 0, none⟩))), (6, (.pointer (some ⟨b10, 0, none⟩))), (7, (.int .i64 ((k18 : Nat) : Int))), (8, (.pointer (some ⟨b2704, 0, none⟩))), (23, (t__0h).v), (24, (.int .i64 ((t__0.length : Nat) : Int))), (25, (.int .i64 ((k18 : Nat) : Int))), (36, (.bool q2719))]) (fun (q2719 : Bool) w' => q2719 = r2716 ∧ Cx w0 fp0 S0 w' [Es (List (ByteArray × Int × Int × (List (Int × Int × ByteArray)))) lib_ lib_h, Bx b4 [(t__0h).v], Es (List (Int × Int × ByteArray)) t__0 t__0h, Bx b7 [(.slice none 0 0), (.slice none 0 0), (.slice none 0 0)], Bx b10 [(g2157_0).v, (g2157_1).v, (g2157_2).v], E (List Int) s2156_0 g2157_0, E (List Int) s2156_1 g2157_1, E (List Int) s2156_2 g2157_2, Bx b2704 [(.int .i64 a2699_0), (.int .i64 a2699_1), (.string a2699_2)]]) ?_ ?_
        · skip
          refine loadN [(.int .i64 a2699_0), (.int .i64 a2699_1), (.string a2699_2)] rfl (fun j u hj => H.bx 0 rfl hj) ?_
          obtain ⟨y2720, e, hF2721⟩ := bindS hF2718; clear hF2718
          have ey2720 := e; clear e
          refine callF (spec_tmLeaf_c a2699_0 a2699_1 a2699_2 y2720 ey2720) (Γi := []) H trivial ?_; clear H ey2720
          rintro _ _ w2722 ⟨rfl, rfl⟩ (H : Cx w0 fp0 S0 w2722 [Bx b2704 [(.int .i64 a2699_0), (.int .i64 a2699_1), (.string a2699_2)], Es (List (ByteArray × Int × Int × (List (Int × Int × ByteArray)))) lib_ lib_h, Bx b4 [(t__0h).v], Es (List (Int × Int × ByteArray)) t__0 t__0h, Bx b7 [(.slice none 0 0), (.slice none 0 0), (.slice none 0 0)], Bx b10 [(g2157_0).v, (g2157_1).v, (g2157_2).v], E (List Int) s2156_0 g2157_0, E (List Int) s2156_1 g2157_1, E (List Int) s2156_2 g2157_2])
          cases y2720
          · have hF2723 := condF hF2721; clear hF2721
            refine fld gok rfl rfl rfl rfl ?_
            refine load1 (H.bx 0 rfl (j := 0) rfl) ?_
            obtain ⟨a2724, e, hF2725⟩ := bindS hF2723; clear hF2723
            refine boolO e ?_; clear e
            exact ⟨a2724, ⟨rfl, rfl, rfl, rfl, rfl, rfl, rfl, rfl, rfl, rfl, trivial⟩, Option.some.inj hF2725, H.sel [1, 2, 3, 4, 5, 6, 7, 8, 0] rfl⟩
          · have hF2726 := condT hF2721; clear hF2721
            exact ⟨true, ⟨rfl, rfl, rfl, rfl, rfl, rfl, rfl, rfl, rfl, rfl, trivial⟩, Option.some.inj hF2726, H.sel [1, 2, 3, 4, 5, 6, 7, 8, 0] rfl⟩
        · clear hF2718 H
          rintro T2728 s2714 w2727 ⟨hr, (H : Cx w0 fp0 S0 w2727 [Es (List (ByteArray × Int × Int × (List (Int × Int × ByteArray)))) lib_ lib_h, Bx b4 [(t__0h).v], Es (List (Int × Int × ByteArray)) t__0 t__0h, Bx b7 [(.slice none 0 0), (.slice none 0 0), (.slice none 0 0)], Bx b10 [(g2157_0).v, (g2157_1).v, (g2157_2).v], E (List Int) s2156_0 g2157_0, E (List Int) s2156_1 g2157_1, E (List Int) s2156_2 g2157_2, Bx b2704 [(.int .i64 a2699_0), (.int .i64 a2699_1), (.string a2699_2)]])⟩
          subst hr
          cases s2714
          · have hF2729 := condF hF2717; clear hF2717
            refine sq ?_
            obtain ⟨r2788, hF2790, hF2789⟩ := bindS hF2729; clear hF2729
            refine cut (fun (q2791 : Bool) => [(0, (lib_h).v), (3, (.pointer (some ⟨b4, 0, none⟩))), (4, (.pointer (some ⟨b7, 0, none⟩))), (6, (.pointer (some ⟨b10, 0, none⟩))), (7, (.int .i64 ((k18 : Nat) : Int))), (8, (.pointer (some ⟨b2704, 0, none⟩))), (23, (t__0h).v), (24, (.int .i64 ((t__0.length : Nat) : Int))), (25, (.int .i64 ((k18 : Nat) : Int))), (115, (.bool q2791))]) (fun (q2791 : Bool) w' => q2791 = r2788 ∧ Cx w0 fp0 S0 w' [Es (List (ByteArray × Int × Int × (List (Int × Int × ByteArray)))) lib_ lib_h, Bx b4 [(t__0h).v], Es (List (Int × Int × ByteArray)) t__0 t__0h, Bx b7 [(.slice none 0 0), (.slice none 0 0), (.slice none 0 0)], Bx b10 [(g2157_0).v, (g2157_1).v, (g2157_2).v], E (List Int) s2156_0 g2157_0, E (List Int) s2156_1 g2157_1, E (List Int) s2156_2 g2157_2, Bx b2704 [(.int .i64 a2699_0), (.int .i64 a2699_1), (.string a2699_2)]]) ?_ ?_
            · skip
              refine fld gok rfl rfl rfl rfl ?_
              refine load1 (H.bx 8 rfl (j := 0) rfl) ?_
              obtain ⟨a2792, e, hF2793⟩ := bindS hF2790; clear hF2790
              refine boolO e ?_; clear e
              cases a2792
              · have hF2794 := condF hF2793; clear hF2793
                refine fld gok rfl rfl rfl rfl ?_
                refine load1 (H.bx 8 rfl (j := 2) rfl) ?_
                obtain ⟨a2795, e, hF2796⟩ := bindS hF2794; clear hF2794
                refine neqZ e ?_; clear e
                cases a2795
                · have hF2797 := condF hF2796; clear hF2796
                  refine fld gok rfl rfl rfl rfl ?_
                  refine load1 (H.bx 8 rfl (j := 1) rfl) ?_
                  obtain ⟨a2798, e, hF2799⟩ := bindS hF2797; clear hF2797
                  refine boolO e ?_; clear e
                  cases a2798
                  · have hF2800 := condF hF2799; clear hF2799
                    obtain ⟨a2801, e, hF2802⟩ := bindS hF2800; clear hF2800
                    refine boolO e ?_; clear e
                    cases a2801
                    · have hF2803 := condF hF2802; clear hF2802
                      refine fld gok rfl rfl rfl rfl ?_
                      refine load1 (H.bx 4 rfl (j := 0) rfl) ?_
                      obtain ⟨a2804, e, hF2805⟩ := bindS hF2803; clear hF2803
                      refine arO e ?_; clear e
                      obtain ⟨a2812, e, hF2813⟩ := bindS hF2805; clear hF2805
                      obtain ⟨p2810, m2811, c2806, c2807, c2808, c2809⟩ := (H.ro (α := List Int) 5 rfl).at1 e; clear e
                      refine idxE c2806 c2807 c2808 ?_; clear c2806 c2807 c2808
                      refine load1 c2809 ?_; clear c2809
                      obtain ⟨a2814, e, hF2815⟩ := bindS hF2813; clear hF2813
                      refine boolO e ?_; clear e
                      exact ⟨a2814, ⟨rfl, rfl, rfl, rfl, rfl, rfl, rfl, rfl, rfl, rfl, trivial⟩, Option.some.inj hF2815, H.sel [0, 1, 2, 3, 4, 5, 6, 7, 8] rfl⟩
                    · have hF2816 := condT hF2802; clear hF2802
                      exact ⟨true, ⟨rfl, rfl, rfl, rfl, rfl, rfl, rfl, rfl, rfl, rfl, trivial⟩, Option.some.inj hF2816, H.sel [0, 1, 2, 3, 4, 5, 6, 7, 8] rfl⟩
                  · have hF2817 := condT hF2799; clear hF2799
                    exact ⟨true, ⟨rfl, rfl, rfl, rfl, rfl, rfl, rfl, rfl, rfl, rfl, trivial⟩, Option.some.inj hF2817, H.sel [0, 1, 2, 3, 4, 5, 6, 7, 8] rfl⟩
                · have hF2818 := condT hF2796; clear hF2796
                  exact ⟨true, ⟨rfl, rfl, rfl, rfl, rfl, rfl, rfl, rfl, rfl, rfl, trivial⟩, Option.some.inj hF2818, H.sel [0, 1, 2, 3, 4, 5, 6, 7, 8] rfl⟩
              · have hF2819 := condT hF2793; clear hF2793
                refine fld gok rfl rfl rfl rfl ?_
                refine load1 (H.bx 8 rfl (j := 0) rfl) ?_
                obtain ⟨a2820, e, hF2821⟩ := bindS hF2819; clear hF2819
                refine boolO e ?_; clear e
                cases a2820
                · have hF2822 := condF hF2821; clear hF2821
                  refine fld gok rfl rfl rfl rfl ?_
                  refine load1 (H.bx 8 rfl (j := 2) rfl) ?_
                  obtain ⟨a2823, e, hF2824⟩ := bindS hF2822; clear hF2822
                  refine neqZ e ?_; clear e
                  cases a2823
                  · have hF2825 := condF hF2824; clear hF2824
                    refine fld gok rfl rfl rfl rfl ?_
                    refine load1 (H.bx 8 rfl (j := 1) rfl) ?_
                    obtain ⟨a2826, e, hF2827⟩ := bindS hF2825; clear hF2825
                    refine boolO e ?_; clear e
                    cases a2826
                    · have hF2828 := condF hF2827; clear hF2827
                      obtain ⟨a2829, e, hF2830⟩ := bindS hF2828; clear hF2828
                      refine boolO e ?_; clear e
                      cases a2829
                      · have hF2831 := condF hF2830; clear hF2830
                        refine fld gok rfl rfl rfl rfl ?_
                        refine load1 (H.bx 4 rfl (j := 0) rfl) ?_
                        obtain ⟨a2832, e, hF2833⟩ := bindS hF2831; clear hF2831
                        refine arO e ?_; clear e
                        obtain ⟨a2840, e, hF2841⟩ := bindS hF2833; clear hF2833
                        obtain ⟨p2838, m2839, c2834, c2835, c2836, c2837⟩ := (H.ro (α := List Int) 5 rfl).at1 e; clear e
                        refine idxE c2834 c2835 c2836 ?_; clear c2834 c2835 c2836
                        refine load1 c2837 ?_; clear c2837
                        obtain ⟨a2842, e, hF2843⟩ := bindS hF2841; clear hF2841
                        refine boolO e ?_; clear e
                        exact ⟨a2842, ⟨rfl, rfl, rfl, rfl, rfl, rfl, rfl, rfl, rfl, rfl, trivial⟩, Option.some.inj hF2843, H.sel [0, 1, 2, 3, 4, 5, 6, 7, 8] rfl⟩
                      · have hF2844 := condT hF2830; clear hF2830
                        exact ⟨true, ⟨rfl, rfl, rfl, rfl, rfl, rfl, rfl, rfl, rfl, rfl, trivial⟩, Option.some.inj hF2844, H.sel [0, 1, 2, 3, 4, 5, 6, 7, 8] rfl⟩
                    · have hF2845 := condT hF2827; clear hF2827
                      exact ⟨true, ⟨rfl, rfl, rfl, rfl, rfl, rfl, rfl, rfl, rfl, rfl, trivial⟩, Option.some.inj hF2845, H.sel [0, 1, 2, 3, 4, 5, 6, 7, 8] rfl⟩
                  · have hF2846 := condT hF2824; clear hF2824
                    exact ⟨true, ⟨rfl, rfl, rfl, rfl, rfl, rfl, rfl, rfl, rfl, rfl, trivial⟩, Option.some.inj hF2846, H.sel [0, 1, 2, 3, 4, 5, 6, 7, 8] rfl⟩
                · have hF2847 := condT hF2821; clear hF2821
                  exact ⟨true, ⟨rfl, rfl, rfl, rfl, rfl, rfl, rfl, rfl, rfl, rfl, trivial⟩, Option.some.inj hF2847, H.sel [0, 1, 2, 3, 4, 5, 6, 7, 8] rfl⟩
            · clear hF2790 H
              rintro T2849 s2786 w2848 ⟨hr, (H : Cx w0 fp0 S0 w2848 [Es (List (ByteArray × Int × Int × (List (Int × Int × ByteArray)))) lib_ lib_h, Bx b4 [(t__0h).v], Es (List (Int × Int × ByteArray)) t__0 t__0h, Bx b7 [(.slice none 0 0), (.slice none 0 0), (.slice none 0 0)], Bx b10 [(g2157_0).v, (g2157_1).v, (g2157_2).v], E (List Int) s2156_0 g2157_0, E (List Int) s2156_1 g2157_1, E (List Int) s2156_2 g2157_2, Bx b2704 [(.int .i64 a2699_0), (.int .i64 a2699_1), (.string a2699_2)]])⟩
              subst hr
              cases s2786
              · have hF2850 := condF hF2789; clear hF2789
                obtain ⟨a2851, e, hF2852⟩ := bindS hF2850; clear hF2850
                refine arO e ?_; clear e
                refine fld gok rfl rfl rfl rfl ?_
                refine load1 (H.bx 4 rfl (j := 0) rfl) ?_
                obtain ⟨a2859, e, hF2860⟩ := bindS hF2852; clear hF2852
                obtain ⟨p2857, m2858, c2853, c2854, c2855, c2856⟩ := (H.ro (α := List Int) 5 rfl).at1 e; clear e
                refine idxE c2853 c2854 c2855 ?_; clear c2853 c2854 c2855
                refine load1 c2856 ?_; clear c2856
                obtain ⟨a2861, e, hF2862⟩ := bindS hF2860; clear hF2860
                refine arO e ?_; clear e
                refine heldX H [] (.fst 0 (.fst 2 (.fst 5 (.fst 7 (.fst 11 (.fst 13 (.fst 16 (.fst 18 (.fst 1 (.fst 3 (.fst 4 (.fst 6 (.fst 8 (.fst 9 (.fst 10 (.fst 22 (.fst 12 (.fst 14 (.fst 15 (.fst 17 (.fst 19 (.fst 20 (.fst 21 (.fst 23 .done)))))))))))))))))))))))) mixed [] trivial (by kernel_rfl) ?_
                clear H; intro w2863 H
                have hX : Ext w2863 w2863 := Upd.refl _ _
                have H0 := H
                refine anyH (fun _ => fld gok rfl rfl rfl rfl ⟨rfl, rfl⟩) ?_
                refine anyH (fun _ => fld gok rfl rfl rfl rfl ⟨rfl, rfl⟩) ?_
                refine anyH (fun _ => fld gok rfl rfl rfl rfl ⟨rfl, rfl⟩) ?_
                refine anyH (fun _ => fld gok rfl rfl rfl rfl ⟨rfl, rfl⟩) ?_
                refine load1X (H.bx 4 rfl (j := 1) rfl) ?_
                obtain ⟨a2870, e, hF2871⟩ := bindS hF2862; clear hF2862
                obtain ⟨p2868, m2869, c2864, c2865, c2866, c2867⟩ := (H.ro (α := List Int) 6 rfl).at1 e; clear e
                refine idxE c2864 c2865 c2866 ?_; clear c2864 c2865 c2866
                refine load1X c2867 ?_; clear c2867
                refine load1X (H.bx 4 rfl (j := 1) rfl) ?_
                obtain ⟨a2878, e, hF2879⟩ := bindS hF2871; clear hF2871
                obtain ⟨p2876, m2877, c2872, c2873, c2874, c2875⟩ := (H.ro (α := List Int) 6 rfl).at1 e; clear e
                refine idxE c2872 c2873 c2874 ?_; clear c2872 c2873 c2874
                refine load1X c2875 ?_; clear c2875
                obtain ⟨a2880, e, hF2881⟩ := bindS hF2879; clear hF2879
                refine arO e ?_; clear e
                refine load1X (H.bx 4 rfl (j := 2) rfl) ?_
                obtain ⟨a2888, e, hF2889⟩ := bindS hF2881; clear hF2881
                obtain ⟨p2886, m2887, c2882, c2883, c2884, c2885⟩ := (H.ro (α := List Int) 7 rfl).at1 e; clear e
                refine idxE c2882 c2883 c2884 ?_; clear c2882 c2883 c2884
                refine load1X c2885 ?_; clear c2885
                refine load1X (H.bx 4 rfl (j := 2) rfl) ?_
                obtain ⟨a2896, e, hF2897⟩ := bindS hF2889; clear hF2889
                obtain ⟨p2894, m2895, c2890, c2891, c2892, c2893⟩ := (H.ro (α := List Int) 7 rfl).at1 e; clear e
                refine idxE c2890 c2891 c2892 ?_; clear c2890 c2891 c2892
                refine load1X c2893 ?_; clear c2893
                obtain ⟨a2898, e, hF2899⟩ := bindS hF2897; clear hF2897
                refine arO e ?_; clear e
                obtain ⟨r2945, hF2947, hF2946⟩ := bindS hF2899; clear hF2899
                refine cut (fun (q2948 : Int × Int) => [(0, (lib_h).v), (3, (.pointer (some ⟨b4, 0, none⟩))), (4, (.pointer (some ⟨b7, 0, none⟩))), (6, (.pointer (some ⟨b10, 0, none⟩))), (13, (.int .i64 a2861)), (14, (.int .i64 q2948.1)), (15, (.int .i64 q2948.2)), (23, (t__0h).v), (24, (.int .i64 ((t__0.length : Nat) : Int))), (25, (.int .i64 ((k18 : Nat) : Int)))]) (fun (q2948 : Int × Int) w' => .inl (q2948.1, q2948.2) = r2945 ∧ Cx w0 fp0 S0 w' [Es (List (ByteArray × Int × Int × (List (Int × Int × ByteArray)))) lib_ lib_h, Bx b4 [(t__0h).v], Es (List (Int × Int × ByteArray)) t__0 t__0h, Bx b7 [(.slice none 0 0), (.slice none 0 0), (.slice none 0 0)], Bx b10 [(g2157_0).v, (g2157_1).v, (g2157_2).v], E (List Int) s2156_0 g2157_0, E (List Int) s2156_1 g2157_1, E (List Int) s2156_2 g2157_2]) ?_ ?_
                · skip
                  refine fld gok rfl rfl rfl rfl ?_
                  refine load1 (H.bx 8 rfl (j := 0) rfl) ?_
                  obtain ⟨a2949, e, hF2950⟩ := bindS hF2947; clear hF2947
                  refine boolO e ?_; clear e
                  cases a2949
                  · have hF2951 := condF hF2950; clear hF2950
                    exact ⟨(a2880, a2898), ⟨rfl, rfl, rfl, rfl, rfl, rfl, rfl, rfl, rfl, rfl, trivial⟩, Option.some.inj hF2951, H.sel [0, 1, 2, 3, 4, 5, 6, 7] rfl⟩
                  · have hF2952 := condT hF2950; clear hF2950
                    refine sq ?_
                    refine heldX H [] (.fst 0 (.fst 2 (.fst 5 (.fst 7 (.fst 1 (.fst 3 (.fst 4 (.fst 6 (.fst 8 (.fst 9 (.fst 10 .done))))))))))) mixed [] trivial (by kernel_rfl) ?_
                    clear H; intro w2953 H
                    have hX : Ext w2953 w2953 := Upd.refl _ _
                    have H0 := H
                    refine anyH (fun _ => fld gok rfl rfl rfl rfl ⟨rfl, rfl⟩) ?_
                    refine anyH (fun _ => fld gok rfl rfl rfl rfl ⟨rfl, rfl⟩) ?_
                    refine load1X (H.bx 4 rfl (j := 2) rfl) ?_
                    obtain ⟨a2960, e, hF2961⟩ := bindS hF2952; clear hF2952
                    obtain ⟨p2958, m2959, c2954, c2955, c2956, c2957⟩ := (H.ro (α := List Int) 7 rfl).at1 e; clear e
                    refine idxE c2954 c2955 c2956 ?_; clear c2954 c2955 c2956
                    refine load1X c2957 ?_; clear c2957
                    refine load1X (H.bx 4 rfl (j := 1) rfl) ?_
                    obtain ⟨a2968, e, hF2969⟩ := bindS hF2961; clear hF2961
                    obtain ⟨p2966, m2967, c2962, c2963, c2964, c2965⟩ := (H.ro (α := List Int) 6 rfl).at1 e; clear e
                    refine idxE c2962 c2963 c2964 ?_; clear c2962 c2963 c2964
                    refine load1X c2965 ?_; clear c2965
                    obtain ⟨a2970, e, hF2971⟩ := bindS hF2969; clear hF2969
                    refine boolO e ?_; clear e
                    cases a2970
                    · have hF2972 := condF hF2971; clear hF2971
                      refine heldX H [] (.fst 0 (.fst 2 (.fst 5 (.fst 7 (.fst 1 (.fst 3 (.fst 4 (.fst 10 (.fst 6 (.fst 8 (.fst 9 (.fst 11 .done)))))))))))) mixed [] trivial (by kernel_rfl) ?_
                      clear H; intro w2973 H
                      have hX : Ext w2973 w2973 := Upd.refl _ _
                      have H0 := H
                      refine anyH (fun _ => fld gok rfl rfl rfl rfl ⟨rfl, rfl⟩) ?_
                      refine anyH (fun _ => fld gok rfl rfl rfl rfl ⟨rfl, rfl⟩) ?_
                      refine load1X (H.bx 4 rfl (j := 1) rfl) ?_
                      obtain ⟨a2980, e, hF2981⟩ := bindS hF2972; clear hF2972
                      obtain ⟨p2978, m2979, c2974, c2975, c2976, c2977⟩ := (H.ro (α := List Int) 6 rfl).at1 e; clear e
                      refine idxE c2974 c2975 c2976 ?_; clear c2974 c2975 c2976
                      refine load1X c2977 ?_; clear c2977
                      refine load1X (H.bx 4 rfl (j := 2) rfl) ?_
                      obtain ⟨a2988, e, hF2989⟩ := bindS hF2981; clear hF2981
                      obtain ⟨p2986, m2987, c2982, c2983, c2984, c2985⟩ := (H.ro (α := List Int) 7 rfl).at1 e; clear e
                      refine idxE c2982 c2983 c2984 ?_; clear c2982 c2983 c2984
                      refine load1X c2985 ?_; clear c2985
                      exact ⟨(a2980, a2988), ⟨rfl, rfl, rfl, rfl, rfl, rfl, rfl, rfl, rfl, rfl, trivial⟩, Option.some.inj hF2989, H.sel [0, 1, 2, 3, 4, 5, 6, 7] rfl⟩
                    · have hF2990 := condT hF2971; clear hF2971
                      refine loadN [(g2157_0).v, (g2157_1).v, (g2157_2).v] rfl (fun j u hj => H.bx 4 rfl hj) ?_
                      replace H := H.sel [3, 0, 1, 2, 4, 5, 6, 7, 8] rfl
                      refine stA gok [(g2157_0).v, (g2157_1).v, (g2157_2).v] rfl H rfl rfl rfl ?_; clear H; intro w2991 H
                      replace H : Cx w0 fp0 S0 w2991 [Bx b7 [(g2157_0).v, (g2157_1).v, (g2157_2).v], Es (List (ByteArray × Int × Int × (List (Int × Int × ByteArray)))) lib_ lib_h, Bx b4 [(t__0h).v], Es (List (Int × Int × ByteArray)) t__0 t__0h, Bx b10 [(g2157_0).v, (g2157_1).v, (g2157_2).v], E (List Int) s2156_0 g2157_0, E (List Int) s2156_1 g2157_1, E (List Int) s2156_2 g2157_2, Bx b2704 [(.int .i64 a2699_0), (.int .i64 a2699_1), (.string a2699_2)]] := H
                      have hs := Option.some.inj hF2990; subst hs; clear hF2990
                      have hF2992 : some _ = some _ := hF2946; clear hF2946
                      have hs := Option.some.inj hF2992; subst hs; clear hF2992
                      have hF2993 : some _ = some _ := hF2690; clear hF2690
                      have hs := Option.some.inj hF2993; subst hs; clear hF2993
                      have hr := hrt _ rfl; subst hr
                      have hF2994 : some _ = some _ := hF2163
                      refine loadN [(g2157_0).v, (g2157_1).v, (g2157_2).v] rfl (fun j u hj => H.bx 0 rfl hj) ?_
                      cases hF2994
                      exact ⟨_, _, rfl, ⟨g2157_0, g2157_1, g2157_2, rfl, rfl⟩, (H.sel [5, 6, 7] rfl).close ⟨cloE, cloE, cloE, trivial⟩⟩
                · clear hF2947 H
                  rintro T2996 ⟨s2943_0, s2943_1⟩ w2995 ⟨hr, (H : Cx w0 fp0 S0 w2995 [Es (List (ByteArray × Int × Int × (List (Int × Int × ByteArray)))) lib_ lib_h, Bx b4 [(t__0h).v], Es (List (Int × Int × ByteArray)) t__0 t__0h, Bx b7 [(.slice none 0 0), (.slice none 0 0), (.slice none 0 0)], Bx b10 [(g2157_0).v, (g2157_1).v, (g2157_2).v], E (List Int) s2156_0 g2157_0, E (List Int) s2156_1 g2157_1, E (List Int) s2156_2 g2157_2])⟩
                  subst hr
                  refine sq ?_
                  obtain ⟨r3005, hF3007, hF3006⟩ := bindS hF2946; clear hF2946
                  refine cut (fun (q3008 : Bool) => [(0, (lib_h).v), (3, (.pointer (some ⟨b4, 0, none⟩))), (4, (.pointer (some ⟨b7, 0, none⟩))), (6, (.pointer (some ⟨b10, 0, none⟩))), (13, (.int .i64 a2861)), (14, (.int .i64 s2943_0)), (15, (.int .i64 s2943_1)), (23, (t__0h).v), (24, (.int .i64 ((t__0.length : Nat) : Int))), (25, (.int .i64 ((k18 : Nat) : Int))), (177, (.bool q3008))]) (fun (q3008 : Bool) w' => q3008 = r3005 ∧ Cx w0 fp0 S0 w' [Es (List (ByteArray × Int × Int × (List (Int × Int × ByteArray)))) lib_ lib_h, Bx b4 [(t__0h).v], Es (List (Int × Int × ByteArray)) t__0 t__0h, Bx b7 [(.slice none 0 0), (.slice none 0 0), (.slice none 0 0)], Bx b10 [(g2157_0).v, (g2157_1).v, (g2157_2).v], E (List Int) s2156_0 g2157_0, E (List Int) s2156_1 g2157_1, E (List Int) s2156_2 g2157_2]) ?_ ?_
                  · skip
                    obtain ⟨a3009, e, hF3010⟩ := bindS hF3007; clear hF3007
                    refine boolO e ?_; clear e
                    cases a3009
                    · have hF3011 := condF hF3010; clear hF3010
                      obtain ⟨a3012, e, hF3013⟩ := bindS hF3011; clear hF3011
                      refine boolO e ?_; clear e
                      exact ⟨a3012, ⟨rfl, rfl, rfl, rfl, rfl, rfl, rfl, rfl, rfl, rfl, rfl, trivial⟩, Option.some.inj hF3013, H.sel [0, 1, 2, 3, 4, 5, 6, 7] rfl⟩
                    · have hF3014 := condT hF3010; clear hF3010
                      exact ⟨true, ⟨rfl, rfl, rfl, rfl, rfl, rfl, rfl, rfl, rfl, rfl, rfl, trivial⟩, Option.some.inj hF3014, H.sel [0, 1, 2, 3, 4, 5, 6, 7] rfl⟩
                  · clear hF3007 H
                    rintro T3016 s3003 w3015 ⟨hr, (H : Cx w0 fp0 S0 w3015 [Es (List (ByteArray × Int × Int × (List (Int × Int × ByteArray)))) lib_ lib_h, Bx b4 [(t__0h).v], Es (List (Int × Int × ByteArray)) t__0 t__0h, Bx b7 [(.slice none 0 0), (.slice none 0 0), (.slice none 0 0)], Bx b10 [(g2157_0).v, (g2157_1).v, (g2157_2).v], E (List Int) s2156_0 g2157_0, E (List Int) s2156_1 g2157_1, E (List Int) s2156_2 g2157_2])⟩
                    subst hr
                    cases s3003
                    · have hF3017 := condF hF3006; clear hF3006
                      refine heldX H [8, 10, 9] (.fst 0 (.fst 2 (.fst 4 (.fst 1 (.fst 3 (.fst 5 (.fst 6 (.act 7 (.act 8 (.act 9 (.act 10 .done))))))))))) mixed [] trivial (by kernel_rfl) ?_
                      clear H; intro w3018 H
                      have hX : Ext w3018 w3018 := Upd.refl _ _
                      have H0 := H
                      refine anyH (fun _ => fld gok rfl rfl rfl rfl ⟨rfl, rfl⟩) ?_
                      refine anyH (fun _ => fld gok rfl rfl rfl rfl ⟨rfl, rfl⟩) ?_
                      refine load1X (H.bx 4 rfl (j := 0) rfl) ?_
                      refine load1X (H.bx 4 rfl (j := 0) rfl) ?_
                      obtain ⟨a3025, e, hF3026⟩ := bindS hF3017; clear hF3017
                      obtain ⟨p3023, m3024, c3019, c3020, c3021, c3022⟩ := (H.ro (α := List Int) 5 rfl).at1 e; clear e
                      refine idxE c3019 c3020 c3021 ?_; clear c3019 c3020 c3021
                      refine load1X c3022 ?_; clear c3022
                      refine lit1S (α := Int) gok rfl rfl rfl rfl H ?_; clear H; intro h3028 w3027 hx H
                      replace hX := hX.trans0 hx; clear hx
                      refine hold hX ?_
                      obtain ⟨a3030, e, hF3031⟩ := bindS hF3026; clear hF3026
                      replace H := H.sel [6, 0, 1, 2, 3, 4, 5, 7, 8] rfl
                      refine append_ (α := Int) gok rfl rfl rfl rfl H e ?_; clear e H; intro h3033 w3032 H
                      refine hold trivial ?_
                      refine fld gok rfl rfl rfl rfl ?_
                      refine hold trivial ?_
                      replace H := H.sel [5, 0, 1, 2, 3, 4, 6, 7] rfl
                      refine stB (j := 0) H rfl rfl ?_; clear H; intro w3035 H
                      replace H : Cx w0 fp0 S0 w3035 [Bx b10 [(h3033).v, (g2157_1).v, (g2157_2).v], E (List Int) a3030 h3033, Es (List (ByteArray × Int × Int × (List (Int × Int × ByteArray)))) lib_ lib_h, Bx b4 [(t__0h).v], Es (List (Int × Int × ByteArray)) t__0 t__0h, Bx b7 [(.slice none 0 0), (.slice none 0 0), (.slice none 0 0)], E (List Int) s2156_1 g2157_1, E (List Int) s2156_2 g2157_2] := H
                      refine hold trivial ?_
                      refine fld gok rfl rfl rfl rfl ?_
                      refine load1 (H.bx 0 rfl (j := 1) rfl) ?_
                      refine lit1S (α := Int) gok rfl rfl rfl rfl H ?_; clear H; intro h3037 w3036 hx H
                      clear hx
                      obtain ⟨a3039, e, hF3040⟩ := bindS hF3031; clear hF3031
                      replace H := H.sel [7, 0, 1, 2, 3, 4, 5, 6, 8] rfl
                      refine append_ (α := Int) gok rfl rfl rfl rfl H e ?_; clear e H; intro h3042 w3041 H
                      refine fld gok rfl rfl rfl rfl ?_
                      replace H := H.sel [1, 0, 2, 3, 4, 5, 6, 7] rfl
                      refine stB (j := 1) H rfl rfl ?_; clear H; intro w3044 H
                      replace H : Cx w0 fp0 S0 w3044 [Bx b10 [(h3033).v, (h3042).v, (g2157_2).v], E (List Int) a3039 h3042, E (List Int) a3030 h3033, Es (List (ByteArray × Int × Int × (List (Int × Int × ByteArray)))) lib_ lib_h, Bx b4 [(t__0h).v], Es (List (Int × Int × ByteArray)) t__0 t__0h, Bx b7 [(.slice none 0 0), (.slice none 0 0), (.slice none 0 0)], E (List Int) s2156_2 g2157_2] := H
                      refine fld gok rfl rfl rfl rfl ?_
                      refine load1 (H.bx 0 rfl (j := 2) rfl) ?_
                      refine lit1S (α := Int) gok rfl rfl rfl rfl H ?_; clear H; intro h3046 w3045 hx H
                      clear hx
                      obtain ⟨a3048, e, hF3049⟩ := bindS hF3040; clear hF3040
                      replace H := H.sel [8, 0, 1, 2, 3, 4, 5, 6, 7] rfl
                      refine append_ (α := Int) gok rfl rfl rfl rfl H e ?_; clear e H; intro h3051 w3050 H
                      refine fld gok rfl rfl rfl rfl ?_
                      replace H := H.sel [1, 0, 2, 3, 4, 5, 6, 7] rfl
                      refine stB (j := 2) H rfl rfl ?_; clear H; intro w3053 H
                      replace H : Cx w0 fp0 S0 w3053 [Bx b10 [(h3033).v, (h3042).v, (h3051).v], E (List Int) a3048 h3051, E (List Int) a3039 h3042, E (List Int) a3030 h3033, Es (List (ByteArray × Int × Int × (List (Int × Int × ByteArray)))) lib_ lib_h, Bx b4 [(t__0h).v], Es (List (Int × Int × ByteArray)) t__0 t__0h, Bx b7 [(.slice none 0 0), (.slice none 0 0), (.slice none 0 0)]] := H
                      exact ⟨((a3030, a3039, a3048), (h3033, h3042, h3051)), ⟨rfl, rfl, rfl, rfl, rfl, rfl, rfl, trivial⟩, Option.some.inj hF3049, H.sel [4, 5, 6, 7, 0, 3, 2, 1] rfl⟩
                    · have hF3054 := condT hF3006; clear hF3006
                      refine loadN [(g2157_0).v, (g2157_1).v, (g2157_2).v] rfl (fun j u hj => H.bx 4 rfl hj) ?_
                      replace H := H.sel [3, 0, 1, 2, 4, 5, 6, 7] rfl
                      refine stA gok [(g2157_0).v, (g2157_1).v, (g2157_2).v] rfl H rfl rfl rfl ?_; clear H; intro w3055 H
                      replace H : Cx w0 fp0 S0 w3055 [Bx b7 [(g2157_0).v, (g2157_1).v, (g2157_2).v], Es (List (ByteArray × Int × Int × (List (Int × Int × ByteArray)))) lib_ lib_h, Bx b4 [(t__0h).v], Es (List (Int × Int × ByteArray)) t__0 t__0h, Bx b10 [(g2157_0).v, (g2157_1).v, (g2157_2).v], E (List Int) s2156_0 g2157_0, E (List Int) s2156_1 g2157_1, E (List Int) s2156_2 g2157_2] := H
                      have hs := Option.some.inj hF3054; subst hs; clear hF3054
                      have hF3056 : some _ = some _ := hF2690; clear hF2690
                      have hs := Option.some.inj hF3056; subst hs; clear hF3056
                      have hr := hrt _ rfl; subst hr
                      have hF3057 : some _ = some _ := hF2163
                      refine loadN [(g2157_0).v, (g2157_1).v, (g2157_2).v] rfl (fun j u hj => H.bx 0 rfl hj) ?_
                      cases hF3057
                      exact ⟨_, _, rfl, ⟨g2157_0, g2157_1, g2157_2, rfl, rfl⟩, (H.sel [5, 6, 7] rfl).close ⟨cloE, cloE, cloE, trivial⟩⟩
              · have hF3058 := condT hF2789; clear hF2789
                refine loadN [(g2157_0).v, (g2157_1).v, (g2157_2).v] rfl (fun j u hj => H.bx 4 rfl hj) ?_
                replace H := H.sel [3, 0, 1, 2, 4, 5, 6, 7, 8] rfl
                refine stA gok [(g2157_0).v, (g2157_1).v, (g2157_2).v] rfl H rfl rfl rfl ?_; clear H; intro w3059 H
                replace H : Cx w0 fp0 S0 w3059 [Bx b7 [(g2157_0).v, (g2157_1).v, (g2157_2).v], Es (List (ByteArray × Int × Int × (List (Int × Int × ByteArray)))) lib_ lib_h, Bx b4 [(t__0h).v], Es (List (Int × Int × ByteArray)) t__0 t__0h, Bx b10 [(g2157_0).v, (g2157_1).v, (g2157_2).v], E (List Int) s2156_0 g2157_0, E (List Int) s2156_1 g2157_1, E (List Int) s2156_2 g2157_2, Bx b2704 [(.int .i64 a2699_0), (.int .i64 a2699_1), (.string a2699_2)]] := H
                have hs := Option.some.inj hF3058; subst hs; clear hF3058
                have hF3060 : some _ = some _ := hF2690; clear hF2690
                have hs := Option.some.inj hF3060; subst hs; clear hF3060
                have hr := hrt _ rfl; subst hr
                have hF3061 : some _ = some _ := hF2163
                refine loadN [(g2157_0).v, (g2157_1).v, (g2157_2).v] rfl (fun j u hj => H.bx 0 rfl hj) ?_
                cases hF3061
                exact ⟨_, _, rfl, ⟨g2157_0, g2157_1, g2157_2, rfl, rfl⟩, (H.sel [5, 6, 7] rfl).close ⟨cloE, cloE, cloE, trivial⟩⟩
          · have hF3062 := condT hF2717; clear hF2717
            refine loadN [(.int .i64 a2699_0), (.int .i64 a2699_1), (.string a2699_2)] rfl (fun j u hj => H.bx 8 rfl hj) ?_
            obtain ⟨y3063, e, hF3064⟩ := bindS hF3062; clear hF3062
            obtain ⟨y3063_0, y3063_1⟩ := y3063
            have ey3063 := e; clear e
            refine callF (spec_tmArity_c a2699_0 a2699_1 a2699_2 y3063_0 y3063_1 ey3063) (Γi := []) H trivial ?_; clear H ey3063
            rintro _ _ w3065 ⟨rfl, rfl⟩ (H : Cx w0 fp0 S0 w3065 [Es (List (ByteArray × Int × Int × (List (Int × Int × ByteArray)))) lib_ lib_h, Bx b4 [(t__0h).v], Es (List (Int × Int × ByteArray)) t__0 t__0h, Bx b7 [(.slice none 0 0), (.slice none 0 0), (.slice none 0 0)], Bx b10 [(g2157_0).v, (g2157_1).v, (g2157_2).v], E (List Int) s2156_0 g2157_0, E (List Int) s2156_1 g2157_1, E (List Int) s2156_2 g2157_2, Bx b2704 [(.int .i64 a2699_0), (.int .i64 a2699_1), (.string a2699_2)]])
            obtain ⟨r3123, hF3125, hF3124⟩ := bindS hF3064; clear hF3064
            refine cut (fun (q3126 : Int × Int) => [(0, (lib_h).v), (3, (.pointer (some ⟨b4, 0, none⟩))), (4, (.pointer (some ⟨b7, 0, none⟩))), (6, (.pointer (some ⟨b10, 0, none⟩))), (7, (.int .i64 ((k18 : Nat) : Int))), (9, (.int .i64 q3126.2)), (10, (.int .i64 q3126.1)), (23, (t__0h).v), (24, (.int .i64 ((t__0.length : Nat) : Int))), (25, (.int .i64 ((k18 : Nat) : Int)))]) (fun (q3126 : Int × Int) w' => .inl (q3126.1, q3126.2) = r3123 ∧ Cx w0 fp0 S0 w' [Es (List (ByteArray × Int × Int × (List (Int × Int × ByteArray)))) lib_ lib_h, Bx b4 [(t__0h).v], Es (List (Int × Int × ByteArray)) t__0 t__0h, Bx b7 [(.slice none 0 0), (.slice none 0 0), (.slice none 0 0)], Bx b10 [(g2157_0).v, (g2157_1).v, (g2157_2).v], E (List Int) s2156_0 g2157_0, E (List Int) s2156_1 g2157_1, E (List Int) s2156_2 g2157_2]) ?_ ?_
            · skip
              refine fld gok rfl rfl rfl rfl ?_
              refine load1 (H.bx 8 rfl (j := 0) rfl) ?_
              obtain ⟨a3127, e, hF3128⟩ := bindS hF3125; clear hF3125
              refine boolO e ?_; clear e
              cases a3127
              · have hF3129 := condF hF3128; clear hF3128
                exact ⟨(y3063_1, y3063_0), ⟨rfl, rfl, rfl, rfl, rfl, rfl, rfl, rfl, rfl, rfl, trivial⟩, Option.some.inj hF3129, H.sel [0, 1, 2, 3, 4, 5, 6, 7] rfl⟩
              · have hF3130 := condT hF3128; clear hF3128
                refine fld gok rfl rfl rfl rfl ?_
                refine load1 (H.bx 8 rfl (j := 2) rfl) ?_
                obtain ⟨y3131, e, hF3132⟩ := bindS hF3130; clear hF3130
                have ey3131 := e; clear e
                refine callF (spec_lbFind_c lib_ lib_h a2699_2 y3131 ey3131) (Γi := []) H ⟨Vw.sh 0 rfl, trivial⟩ ?_; clear H ey3131
                rintro _ _ w3133 ⟨rfl, rfl⟩ (H : Cx w0 fp0 S0 w3133 [Es (List (ByteArray × Int × Int × (List (Int × Int × ByteArray)))) lib_ lib_h, Bx b4 [(t__0h).v], Es (List (Int × Int × ByteArray)) t__0 t__0h, Bx b7 [(.slice none 0 0), (.slice none 0 0), (.slice none 0 0)], Bx b10 [(g2157_0).v, (g2157_1).v, (g2157_2).v], E (List Int) s2156_0 g2157_0, E (List Int) s2156_1 g2157_1, E (List Int) s2156_2 g2157_2, Bx b2704 [(.int .i64 a2699_0), (.int .i64 a2699_1), (.string a2699_2)]])
                refine sq ?_
                obtain ⟨r3142, hF3144, hF3143⟩ := bindS hF3132; clear hF3132
                refine cut (fun (q3145 : Bool) => [(0, (lib_h).v), (3, (.pointer (some ⟨b4, 0, none⟩))), (4, (.pointer (some ⟨b7, 0, none⟩))), (6, (.pointer (some ⟨b10, 0, none⟩))), (7, (.int .i64 ((k18 : Nat) : Int))), (11, (.int .i64 y3131)), (23, (t__0h).v), (24, (.int .i64 ((t__0.length : Nat) : Int))), (25, (.int .i64 ((k18 : Nat) : Int))), (55, (.bool q3145))]) (fun (q3145 : Bool) w' => q3145 = r3142 ∧ Cx w0 fp0 S0 w' [Es (List (ByteArray × Int × Int × (List (Int × Int × ByteArray)))) lib_ lib_h, Bx b4 [(t__0h).v], Es (List (Int × Int × ByteArray)) t__0 t__0h, Bx b7 [(.slice none 0 0), (.slice none 0 0), (.slice none 0 0)], Bx b10 [(g2157_0).v, (g2157_1).v, (g2157_2).v], E (List Int) s2156_0 g2157_0, E (List Int) s2156_1 g2157_1, E (List Int) s2156_2 g2157_2]) ?_ ?_
                · skip
                  obtain ⟨a3146, e, hF3147⟩ := bindS hF3144; clear hF3144
                  refine boolO e ?_; clear e
                  cases a3146
                  · have hF3148 := condF hF3147; clear hF3147
                    refine fld gok rfl rfl rfl rfl ?_
                    refine load1 (H.bx 8 rfl (j := 1) rfl) ?_
                    obtain ⟨a3149, e, hF3150⟩ := bindS hF3148; clear hF3148
                    refine boolO e ?_; clear e
                    exact ⟨a3149, ⟨rfl, rfl, rfl, rfl, rfl, rfl, rfl, rfl, rfl, rfl, trivial⟩, Option.some.inj hF3150, H.sel [0, 1, 2, 3, 4, 5, 6, 7] rfl⟩
                  · have hF3151 := condT hF3147; clear hF3147
                    exact ⟨true, ⟨rfl, rfl, rfl, rfl, rfl, rfl, rfl, rfl, rfl, rfl, trivial⟩, Option.some.inj hF3151, H.sel [0, 1, 2, 3, 4, 5, 6, 7] rfl⟩
                · clear hF3144 H
                  rintro T3153 s3140 w3152 ⟨hr, (H : Cx w0 fp0 S0 w3152 [Es (List (ByteArray × Int × Int × (List (Int × Int × ByteArray)))) lib_ lib_h, Bx b4 [(t__0h).v], Es (List (Int × Int × ByteArray)) t__0 t__0h, Bx b7 [(.slice none 0 0), (.slice none 0 0), (.slice none 0 0)], Bx b10 [(g2157_0).v, (g2157_1).v, (g2157_2).v], E (List Int) s2156_0 g2157_0, E (List Int) s2156_1 g2157_1, E (List Int) s2156_2 g2157_2])⟩
                  subst hr
                  cases s3140
                  · have hF3154 := condF hF3143; clear hF3143
                    refine heldX H [] (.fst 0 (.fst 1 (.fst 2 (.fst 3 (.fst 5 (.fst 6 (.fst 7 (.fst 8 (.fst 4 (.fst 10 (.fst 9 (.fst 11 .done)))))))))))) mixed [] trivial (by kernel_rfl) ?_
                    clear H; intro w3155 H
                    have hX : Ext w3155 w3155 := Upd.refl _ _
                    have H0 := H
                    obtain ⟨a3162, e, hF3163⟩ := bindS hF3154; clear hF3154
                    have HH := H; clear H; obtain ⟨p3160, m3161, g3164, c3156, c3157, c3158, c3159, H⟩ := HH.el (α := ByteArray × Int × Int × (List (Int × Int × ByteArray))) 0 rfl e; clear HH
                    clear e
                    obtain ⟨a3162_0, a3162_1, a3162_2, a3162_3_0⟩ := a3162
                    obtain ⟨_, _, _, h3166⟩ := g3164
                    replace H := H.part (β := List (Int × Int × ByteArray)) a3162_3_0 (h3166 : Hd) 0 rfl (fun S h => (And.right (And.right (And.right h))))
                    replace H := H.sel [0, 2, 3, 4, 5, 6, 7, 8, 9] rfl
                    refine idxE c3156 c3157 c3158 ?_; clear c3156 c3157 c3158
                    refine anyH (fun _ => fld gok rfl rfl rfl rfl ⟨rfl, rfl⟩) ?_
                    obtain ⟨a3174, e, hF3175⟩ := bindS hF3163; clear hF3163
                    have HH := H; clear H; obtain ⟨p3172, m3173, g3176, c3168, c3169, c3170, c3171, H⟩ := HH.el (α := ByteArray × Int × Int × (List (Int × Int × ByteArray))) 1 rfl e; clear HH
                    clear e
                    obtain ⟨a3174_0, a3174_1, a3174_2, a3174_3_0⟩ := a3174
                    obtain ⟨_, _, _, h3178⟩ := g3176
                    replace H := H.part (β := List (Int × Int × ByteArray)) a3174_3_0 (h3178 : Hd) 0 rfl (fun S h => (And.right (And.right (And.right h))))
                    replace H := H.sel [0, 2, 3, 4, 5, 6, 7, 8, 9, 10] rfl
                    refine idxE c3168 c3169 c3170 ?_; clear c3168 c3169 c3170
                    refine anyH (fun _ => fld gok rfl rfl rfl rfl ⟨rfl, rfl⟩) ?_
                    refine load1X (c3159 1 _ rfl) ?_
                    refine load1X (c3171 2 _ rfl) ?_
                    exact ⟨(a3174_2, a3162_1), ⟨rfl, rfl, rfl, rfl, rfl, rfl, rfl, rfl, rfl, rfl, trivial⟩, Option.some.inj hF3175, H.sel [2, 3, 4, 5, 6, 7, 8, 9] rfl⟩
                  · have hF3180 := condT hF3143; clear hF3143
                    refine loadN [(g2157_0).v, (g2157_1).v, (g2157_2).v] rfl (fun j u hj => H.bx 4 rfl hj) ?_
                    replace H := H.sel [3, 0, 1, 2, 4, 5, 6, 7] rfl
                    refine stA gok [(g2157_0).v, (g2157_1).v, (g2157_2).v] rfl H rfl rfl rfl ?_; clear H; intro w3181 H
                    replace H : Cx w0 fp0 S0 w3181 [Bx b7 [(g2157_0).v, (g2157_1).v, (g2157_2).v], Es (List (ByteArray × Int × Int × (List (Int × Int × ByteArray)))) lib_ lib_h, Bx b4 [(t__0h).v], Es (List (Int × Int × ByteArray)) t__0 t__0h, Bx b10 [(g2157_0).v, (g2157_1).v, (g2157_2).v], E (List Int) s2156_0 g2157_0, E (List Int) s2156_1 g2157_1, E (List Int) s2156_2 g2157_2] := H
                    have hs := Option.some.inj hF3180; subst hs; clear hF3180
                    have hF3182 : some _ = some _ := hF3124; clear hF3124
                    have hs := Option.some.inj hF3182; subst hs; clear hF3182
                    have hF3183 : some _ = some _ := hF2690; clear hF2690
                    have hs := Option.some.inj hF3183; subst hs; clear hF3183
                    have hr := hrt _ rfl; subst hr
                    have hF3184 : some _ = some _ := hF2163
                    refine loadN [(g2157_0).v, (g2157_1).v, (g2157_2).v] rfl (fun j u hj => H.bx 0 rfl hj) ?_
                    cases hF3184
                    exact ⟨_, _, rfl, ⟨g2157_0, g2157_1, g2157_2, rfl, rfl⟩, (H.sel [5, 6, 7] rfl).close ⟨cloE, cloE, cloE, trivial⟩⟩
            · clear hF3125 H
              rintro T3186 ⟨s3121_0, s3121_1⟩ w3185 ⟨hr, (H : Cx w0 fp0 S0 w3185 [Es (List (ByteArray × Int × Int × (List (Int × Int × ByteArray)))) lib_ lib_h, Bx b4 [(t__0h).v], Es (List (Int × Int × ByteArray)) t__0 t__0h, Bx b7 [(.slice none 0 0), (.slice none 0 0), (.slice none 0 0)], Bx b10 [(g2157_0).v, (g2157_1).v, (g2157_2).v], E (List Int) s2156_0 g2157_0, E (List Int) s2156_1 g2157_1, E (List Int) s2156_2 g2157_2])⟩
              subst hr
              refine fld gok rfl rfl rfl rfl ?_
              refine load1 (H.bx 4 rfl (j := 0) rfl) ?_
              refine lit1S (α := Int) gok rfl rfl rfl rfl H ?_; clear H; intro h3188 w3187 hx H
              clear hx
              obtain ⟨a3190, e, hF3191⟩ := bindS hF3124; clear hF3124
              replace H := H.sel [6, 0, 1, 2, 3, 4, 5, 7, 8] rfl
              refine append_ (α := Int) gok rfl rfl rfl rfl H e ?_; clear e H; intro h3193 w3192 H
              refine fld gok rfl rfl rfl rfl ?_
              replace H := H.sel [5, 0, 1, 2, 3, 4, 6, 7] rfl
              refine stB (j := 0) H rfl rfl ?_; clear H; intro w3195 H
              replace H : Cx w0 fp0 S0 w3195 [Bx b10 [(h3193).v, (g2157_1).v, (g2157_2).v], E (List Int) a3190 h3193, Es (List (ByteArray × Int × Int × (List (Int × Int × ByteArray)))) lib_ lib_h, Bx b4 [(t__0h).v], Es (List (Int × Int × ByteArray)) t__0 t__0h, Bx b7 [(.slice none 0 0), (.slice none 0 0), (.slice none 0 0)], E (List Int) s2156_1 g2157_1, E (List Int) s2156_2 g2157_2] := H
              refine fld gok rfl rfl rfl rfl ?_
              refine load1 (H.bx 0 rfl (j := 1) rfl) ?_
              refine lit1S (α := Int) gok rfl rfl rfl rfl H ?_; clear H; intro h3197 w3196 hx H
              clear hx
              obtain ⟨a3199, e, hF3200⟩ := bindS hF3191; clear hF3191
              replace H := H.sel [7, 0, 1, 2, 3, 4, 5, 6, 8] rfl
              refine append_ (α := Int) gok rfl rfl rfl rfl H e ?_; clear e H; intro h3202 w3201 H
              refine fld gok rfl rfl rfl rfl ?_
              replace H := H.sel [1, 0, 2, 3, 4, 5, 6, 7] rfl
              refine stB (j := 1) H rfl rfl ?_; clear H; intro w3204 H
              replace H : Cx w0 fp0 S0 w3204 [Bx b10 [(h3193).v, (h3202).v, (g2157_2).v], E (List Int) a3199 h3202, E (List Int) a3190 h3193, Es (List (ByteArray × Int × Int × (List (Int × Int × ByteArray)))) lib_ lib_h, Bx b4 [(t__0h).v], Es (List (Int × Int × ByteArray)) t__0 t__0h, Bx b7 [(.slice none 0 0), (.slice none 0 0), (.slice none 0 0)], E (List Int) s2156_2 g2157_2] := H
              refine fld gok rfl rfl rfl rfl ?_
              refine load1 (H.bx 0 rfl (j := 2) rfl) ?_
              refine lit1S (α := Int) gok rfl rfl rfl rfl H ?_; clear H; intro h3206 w3205 hx H
              clear hx
              obtain ⟨a3208, e, hF3209⟩ := bindS hF3200; clear hF3200
              replace H := H.sel [8, 0, 1, 2, 3, 4, 5, 6, 7] rfl
              refine append_ (α := Int) gok rfl rfl rfl rfl H e ?_; clear e H; intro h3211 w3210 H
              refine fld gok rfl rfl rfl rfl ?_
              replace H := H.sel [1, 0, 2, 3, 4, 5, 6, 7] rfl
              refine stB (j := 2) H rfl rfl ?_; clear H; intro w3213 H
              replace H : Cx w0 fp0 S0 w3213 [Bx b10 [(h3193).v, (h3202).v, (h3211).v], E (List Int) a3208 h3211, E (List Int) a3199 h3202, E (List Int) a3190 h3193, Es (List (ByteArray × Int × Int × (List (Int × Int × ByteArray)))) lib_ lib_h, Bx b4 [(t__0h).v], Es (List (Int × Int × ByteArray)) t__0 t__0h, Bx b7 [(.slice none 0 0), (.slice none 0 0), (.slice none 0 0)]] := H
              exact ⟨((a3190, a3199, a3208), (h3193, h3202, h3211)), ⟨rfl, rfl, rfl, rfl, rfl, rfl, rfl, trivial⟩, Option.some.inj hF3209, H.sel [4, 5, 6, 7, 0, 3, 2, 1] rfl⟩
      · clear hF2691 H
        rintro T3215 ⟨⟨s2684_0, s2684_1, s2684_2⟩, ⟨g2685_0, g2685_1, g2685_2⟩⟩ w3214 ⟨hr, (H : Cx w0 fp0 S0 w3214 [Es (List (ByteArray × Int × Int × (List (Int × Int × ByteArray)))) lib_ lib_h, Bx b4 [(t__0h).v], Es (List (Int × Int × ByteArray)) t__0 t__0h, Bx b7 [(.slice none 0 0), (.slice none 0 0), (.slice none 0 0)], Bx b10 [(g2685_0).v, (g2685_1).v, (g2685_2).v], E (List Int) s2684_0 g2685_0, E (List Int) s2684_1 g2685_1, E (List Int) s2684_2 g2685_2])⟩
        subst hr
        refine arK hk hmx2161 ?_
        have hs := Option.some.inj hF2690; subst hs; clear hF2690
        exact ⟨(s2684_0, s2684_1, s2684_2), (g2685_0, g2685_1, g2685_2), rfl, ⟨rfl, rfl, rfl, rfl, rfl, rfl, rfl, trivial⟩, H.sel [0, 1, 2, 3, 4, 5, 6, 7] rfl⟩
    · clear H e
      rintro T3217 ⟨s3218_0, s3218_1, s3218_2⟩ ⟨g3219_0, g3219_1, g3219_2⟩ w3216 hr (H : Cx w0 fp0 S0 w3216 [Es (List (ByteArray × Int × Int × (List (Int × Int × ByteArray)))) lib_ lib_h, Bx b4 [(t__0h).v], Es (List (Int × Int × ByteArray)) t__0 t__0h, Bx b7 [(.slice none 0 0), (.slice none 0 0), (.slice none 0 0)], Bx b10 [(g3219_0).v, (g3219_1).v, (g3219_2).v], E (List Int) s3218_0 g3219_0, E (List Int) s3218_1 g3219_1, E (List Int) s3218_2 g3219_2])
      subst hr
      refine boolE (z := false) geLen ?_
      refine sq ?_
      refine heldX H [10, 11, 8, 9, 7, 0, 1, 2, 3, 4, 5, 6] (.pure 0 (.pure 1 (.pure 2 (.pure 3 (.pure 4 (.pure 5 (.pure 6 (.alts (.alt 7 (.alts (.alt 8 (.pure 9 (.act 10 (.act 11 .done))) (.alt 10 (.act 8 (.act 9 (.act 11 .done))) .no))) (.alt 10 (.act 7 (.act 8 (.act 9 (.act 11 .done)))) .no)))))))))) mixed [((Addr.add ⟨b10, 0, none⟩ 0), (g3219_0).v), ((Addr.add ⟨b10, 0, none⟩ 1), (g3219_1).v), ((Addr.add ⟨b10, 0, none⟩ 2), (g3219_2).v), ((Addr.add ⟨b10, 0, none⟩ 0), (g3219_0).v), ((Addr.add ⟨b4, 0, none⟩ 0), (t__0h).v)] ⟨H.bx 4 rfl (j := 0) rfl, H.bx 4 rfl (j := 1) rfl, H.bx 4 rfl (j := 2) rfl, H.bx 4 rfl (j := 0) rfl, H.bx 1 rfl (j := 0) rfl, trivial⟩ (by kernel_rfl) ?_
      clear H; intro w3223 H
      have hX : Ext w3223 w3223 := Upd.refl _ _
      have H0 := H
      refine loadNW 0 [(g3219_0).v, (g3219_1).v, (g3219_2).v] rfl ⟨rfl, rfl, rfl, trivial⟩ ?_
      refine anyH (fun _ => fld gok rfl rfl rfl rfl ⟨rfl, rfl⟩) ?_
      refine load1W 3 rfl ?_
      refine anyH (fun _ => fld gok rfl rfl rfl rfl ⟨rfl, rfl⟩) ?_
      refine load1W 4 rfl ?_
      refine lenE (H.rs (α := List (Int × Int × ByteArray)) 2 rfl).len ?_
      obtain ⟨a3224, e, hF3225⟩ := bindS hF2163; clear hF2163
      refine arO e ?_; clear e
      refine both ?_ ?_
      · skip
        obtain ⟨a3244, e, hF3245⟩ := bindS hF3225; clear hF3225
        have ee3246 := e; clear e
        obtain ⟨p3242, m3243, c3238, c3239, c3240, c3241⟩ := (H.ro (α := List Int) 5 rfl).at1 ee3246; clear c3241
        refine idxE c3238 c3239 c3240 ?_; clear c3240
        refine hold ⟨H.bx 4 rfl (j := 0) rfl, H.bx 4 rfl (j := 1) rfl, H.bx 4 rfl (j := 2) rfl, H.bx 4 rfl (j := 0) rfl, H.bx 1 rfl (j := 0) rfl, trivial⟩ ?_
        refine both ?_ ?_
        · skip
          refine load1 ((H.ro (α := List Int) 5 rfl).at1' c3238 c3239 ee3246) ?_; clear c3238 c3239 ee3246
          refine hold ⟨H.bx 4 rfl (j := 0) rfl, H.bx 4 rfl (j := 1) rfl, H.bx 4 rfl (j := 2) rfl, H.bx 4 rfl (j := 0) rfl, H.bx 1 rfl (j := 0) rfl, trivial⟩ ?_
          obtain ⟨a3250, e, hF3251⟩ := bindS hF3245; clear hF3245
          refine boolO e ?_; clear e
          replace H := H.sel [3, 0, 1, 2, 4, 5, 6, 7] rfl
          refine stA gok [(g3219_0).v, (g3219_1).v, (g3219_2).v] rfl H rfl rfl rfl ?_; clear H; intro w3252 H
          replace H : Cx w0 fp0 S0 w3252 [Bx b7 [(g3219_0).v, (g3219_1).v, (g3219_2).v], Es (List (ByteArray × Int × Int × (List (Int × Int × ByteArray)))) lib_ lib_h, Bx b4 [(t__0h).v], Es (List (Int × Int × ByteArray)) t__0 t__0h, Bx b10 [(g3219_0).v, (g3219_1).v, (g3219_2).v], E (List Int) s3218_0 g3219_0, E (List Int) s3218_1 g3219_1, E (List Int) s3218_2 g3219_2] := H
          refine hold ⟨H.bx 4 rfl (j := 0) rfl, H.bx 4 rfl (j := 1) rfl, H.bx 4 rfl (j := 2) rfl, H.bx 4 rfl (j := 0) rfl, H.bx 2 rfl (j := 0) rfl, trivial⟩ ?_
          refine hold ⟨H.bx 4 rfl (j := 0) rfl, H.bx 4 rfl (j := 1) rfl, H.bx 4 rfl (j := 2) rfl, H.bx 4 rfl (j := 0) rfl, H.bx 2 rfl (j := 0) rfl, trivial⟩ ?_
          refine loadN [(g3219_0).v, (g3219_1).v, (g3219_2).v] rfl (fun j u hj => H.bx 0 rfl hj) ?_
          cases hF3251
          exact ⟨_, _, rfl, ⟨g3219_0, g3219_1, g3219_2, rfl, rfl⟩, (H.sel [5, 6, 7] rfl).close ⟨cloE, cloE, cloE, trivial⟩⟩
        · skip
          refine both ?_ ?_
          · skip
            obtain ⟨a3253, eq3254, hF3255⟩ := bindS hF3245; clear hF3245
            replace H := H.sel [3, 0, 1, 2, 4, 5, 6, 7] rfl
            refine stA gok [(g3219_0).v, (g3219_1).v, (g3219_2).v] rfl H rfl rfl rfl ?_; clear H; intro w3256 H
            replace H : Cx w0 fp0 S0 w3256 [Bx b7 [(g3219_0).v, (g3219_1).v, (g3219_2).v], Es (List (ByteArray × Int × Int × (List (Int × Int × ByteArray)))) lib_ lib_h, Bx b4 [(t__0h).v], Es (List (Int × Int × ByteArray)) t__0 t__0h, Bx b10 [(g3219_0).v, (g3219_1).v, (g3219_2).v], E (List Int) s3218_0 g3219_0, E (List Int) s3218_1 g3219_1, E (List Int) s3218_2 g3219_2] := H
            refine hold ⟨H.bx 4 rfl (j := 0) rfl, H.bx 4 rfl (j := 1) rfl, H.bx 4 rfl (j := 2) rfl, H.bx 4 rfl (j := 0) rfl, H.bx 2 rfl (j := 0) rfl, trivial⟩ ?_
            refine load1 ((H.ro (α := List Int) 5 rfl).at1' c3238 c3239 ee3246) ?_; clear c3238 c3239 ee3246
            refine hold ⟨H.bx 4 rfl (j := 0) rfl, H.bx 4 rfl (j := 1) rfl, H.bx 4 rfl (j := 2) rfl, H.bx 4 rfl (j := 0) rfl, H.bx 2 rfl (j := 0) rfl, trivial⟩ ?_
            have e := eq3254; clear eq3254
            refine boolO e ?_; clear e
            refine hold ⟨H.bx 4 rfl (j := 0) rfl, H.bx 4 rfl (j := 1) rfl, H.bx 4 rfl (j := 2) rfl, H.bx 4 rfl (j := 0) rfl, H.bx 2 rfl (j := 0) rfl, trivial⟩ ?_
            refine hold ⟨H.bx 4 rfl (j := 0) rfl, H.bx 4 rfl (j := 1) rfl, H.bx 4 rfl (j := 2) rfl, H.bx 4 rfl (j := 0) rfl, H.bx 2 rfl (j := 0) rfl, trivial⟩ ?_
            refine loadN [(g3219_0).v, (g3219_1).v, (g3219_2).v] rfl (fun j u hj => H.bx 0 rfl hj) ?_
            cases hF3255
            exact ⟨_, _, rfl, ⟨g3219_0, g3219_1, g3219_2, rfl, rfl⟩, (H.sel [5, 6, 7] rfl).close ⟨cloE, cloE, cloE, trivial⟩⟩
          · skip
            exact trivial
      · skip
        refine both ?_ ?_
        · skip
          obtain ⟨a3257, eq3258, hF3259⟩ := bindS hF3225; clear hF3225
          obtain ⟨a3260, eq3261, hF3262⟩ := bindS hF3259; clear hF3259
          replace H := H.sel [3, 0, 1, 2, 4, 5, 6, 7] rfl
          refine stA gok [(g3219_0).v, (g3219_1).v, (g3219_2).v] rfl H rfl rfl rfl ?_; clear H; intro w3263 H
          replace H : Cx w0 fp0 S0 w3263 [Bx b7 [(g3219_0).v, (g3219_1).v, (g3219_2).v], Es (List (ByteArray × Int × Int × (List (Int × Int × ByteArray)))) lib_ lib_h, Bx b4 [(t__0h).v], Es (List (Int × Int × ByteArray)) t__0 t__0h, Bx b10 [(g3219_0).v, (g3219_1).v, (g3219_2).v], E (List Int) s3218_0 g3219_0, E (List Int) s3218_1 g3219_1, E (List Int) s3218_2 g3219_2] := H
          refine hold ⟨H.bx 4 rfl (j := 0) rfl, H.bx 4 rfl (j := 1) rfl, H.bx 4 rfl (j := 2) rfl, H.bx 4 rfl (j := 0) rfl, H.bx 2 rfl (j := 0) rfl, trivial⟩ ?_
          have e := eq3258; clear eq3258
          have ee3270 := e; clear e
          obtain ⟨p3268, m3269, c3264, c3265, c3266, c3267⟩ := (H.ro (α := List Int) 5 rfl).at1 ee3270; clear c3267
          refine idxE c3264 c3265 c3266 ?_; clear c3266
          refine hold ⟨H.bx 4 rfl (j := 0) rfl, H.bx 4 rfl (j := 1) rfl, H.bx 4 rfl (j := 2) rfl, H.bx 4 rfl (j := 0) rfl, H.bx 2 rfl (j := 0) rfl, trivial⟩ ?_
          refine load1 ((H.ro (α := List Int) 5 rfl).at1' c3264 c3265 ee3270) ?_; clear c3264 c3265 ee3270
          refine hold ⟨H.bx 4 rfl (j := 0) rfl, H.bx 4 rfl (j := 1) rfl, H.bx 4 rfl (j := 2) rfl, H.bx 4 rfl (j := 0) rfl, H.bx 2 rfl (j := 0) rfl, trivial⟩ ?_
          have e := eq3261; clear eq3261
          refine boolO e ?_; clear e
          refine hold ⟨H.bx 4 rfl (j := 0) rfl, H.bx 4 rfl (j := 1) rfl, H.bx 4 rfl (j := 2) rfl, H.bx 4 rfl (j := 0) rfl, H.bx 2 rfl (j := 0) rfl, trivial⟩ ?_
          refine hold ⟨H.bx 4 rfl (j := 0) rfl, H.bx 4 rfl (j := 1) rfl, H.bx 4 rfl (j := 2) rfl, H.bx 4 rfl (j := 0) rfl, H.bx 2 rfl (j := 0) rfl, trivial⟩ ?_
          refine loadN [(g3219_0).v, (g3219_1).v, (g3219_2).v] rfl (fun j u hj => H.bx 0 rfl hj) ?_
          cases hF3262
          exact ⟨_, _, rfl, ⟨g3219_0, g3219_1, g3219_2, rfl, rfl⟩, (H.sel [5, 6, 7] rfl).close ⟨cloE, cloE, cloE, trivial⟩⟩
        · skip
          exact trivial
  · have hF3271 := condT hF16; clear hF16
    refine loadN [(.slice none 0 0), (.slice none 0 0), (.slice none 0 0)] rfl (fun j u hj => H.bx 0 rfl hj) ?_
    replace H := H.sel [1, 0, 2, 3, 4] rfl
    refine stA gok [(.slice none 0 0), (.slice none 0 0), (.slice none 0 0)] rfl H rfl rfl rfl ?_; clear H; intro w3272 H
    replace H : Cx w0 fp0 S0 w3272 [Bx b7 [(.slice none 0 0), (.slice none 0 0), (.slice none 0 0)], Bx b10 [(.slice none 0 0), (.slice none 0 0), (.slice none 0 0)], Bx b4 [(t__0h).v], Es (List (ByteArray × Int × Int × (List (Int × Int × ByteArray)))) lib_ lib_h, Es (List (Int × Int × ByteArray)) t__0 t__0h] := H
    refine loadN [(.slice none 0 0), (.slice none 0 0), (.slice none 0 0)] rfl (fun j u hj => H.bx 0 rfl hj) ?_
    replace H := H.nil (α := Int)
    replace H := H.nil (α := Int)
    replace H := H.nil (α := Int)
    cases hF3271
    exact ⟨_, _, rfl, ⟨nilH, nilH, nilH, rfl, rfl⟩, (H.sel [2, 1, 0] rfl).close ⟨cloE, cloE, cloE, trivial⟩⟩

theorem spec_tmScan_c (t__0 : List (Int × Int × ByteArray)) (t__0h : Hd) (y0_0 : List Int) (y0_1 : List Int) (y0_2 : List Int) (y1 : Bool) (hF : F_spec_tmScan t__0 = some ((y0_0, y0_1, y0_2), y1)) :
    ConF Try.prog 33 #[(.agg #[(t__0h).v])] [Es (List (Int × Int × ByteArray)) t__0 t__0h] [] (fun v Γ' => ∃ z0 z1 z2 : Hd, v = (.tuple #[(.agg #[(z0).v, (z1).v, (z2).v]), (.bool y1)]) ∧ Γ' = [E (List Int) y0_0 z0, E (List Int) y0_1 z1, E (List Int) y0_2 z2]) := by
  intro w0 S0 fp0 hI hS
  have H : Cx w0 fp0 S0 w0 [Es (List (Int × Int × ByteArray)) t__0 t__0h] := Cx.start hI hS
  clear hI hS
  refine enterC (args := [_]) gok Try.func33 rfl _ rfl rfl rfl ?_
  refine box_ H ?_; clear H; intro b3 w2 hx H
  clear hx
  replace H : Cx w0 fp0 S0 w2 [Bx b3 [(t__0h).v], Es (List (Int × Int × ByteArray)) t__0 t__0h] := H
  refine alloc_ gok rfl H ?_; clear H; intro b6 w5 hx H
  clear hx
  replace H : Cx w0 fp0 S0 w5 [Bx b6 [(.slice none 0 0), (.slice none 0 0), (.slice none 0 0)], Bx b3 [(t__0h).v], Es (List (Int × Int × ByteArray)) t__0 t__0h] := H
  refine loadN [(t__0h).v] rfl (fun j u hj => H.bx 1 rfl hj) ?_
  replace H := H.nil (α := ByteArray × Int × Int × (List (Int × Int × ByteArray)))
  obtain ⟨y9, e, hF10⟩ := bindS hF; clear hF
  obtain ⟨⟨y9_0_0, y9_0_1, y9_0_2⟩, y9_1⟩ := y9
  have ey9 := e; clear e
  refine callF (spec_lbScan_c [] nilH t__0 t__0h y9_0_0 y9_0_1 y9_0_2 y9_1 ey9) (Γi := []) H ⟨Vw.own 0 rfl, Vw.sh 3 rfl, trivial⟩ ?_; clear H ey9
  rintro _ _ w11 ⟨h12, h14, h16, rfl, rfl⟩ (H : Cx w0 fp0 S0 w11 [E (List Int) y9_0_0 h12, E (List Int) y9_0_1 h14, E (List Int) y9_0_2 h16, E (List (ByteArray × Int × Int × (List (Int × Int × ByteArray)))) [] nilH, Bx b6 [(.slice none 0 0), (.slice none 0 0), (.slice none 0 0)], Bx b3 [(t__0h).v], Es (List (Int × Int × ByteArray)) t__0 t__0h])
  replace H := H.sel [4, 0, 1, 2, 3, 5, 6] rfl
  refine stA gok [(h12).v, (h14).v, (h16).v] rfl H rfl rfl rfl ?_; clear H; intro w18 H
  replace H : Cx w0 fp0 S0 w18 [Bx b6 [(h12).v, (h14).v, (h16).v], E (List Int) y9_0_0 h12, E (List Int) y9_0_1 h14, E (List Int) y9_0_2 h16, E (List (ByteArray × Int × Int × (List (Int × Int × ByteArray)))) [] nilH, Bx b3 [(t__0h).v], Es (List (Int × Int × ByteArray)) t__0 t__0h] := H
  refine loadN [(h12).v, (h14).v, (h16).v] rfl (fun j u hj => H.bx 0 rfl hj) ?_
  cases hF10
  exact ⟨_, _, rfl, ⟨h12, h14, h16, rfl, rfl⟩, (H.sel [1, 2, 3] rfl).close ⟨cloE, cloE, cloE, trivial⟩⟩

theorem spec_tmType_c (t__0 : List (Int × Int × ByteArray)) (t__0h : Hd) (y0 : Int) (y1 : Int) (y2 : Bool) (hF : F_spec_tmType t__0 = some (y0, y1, y2)) :
    ConF Try.prog 24 #[(.agg #[(t__0h).v])] [Es (List (Int × Int × ByteArray)) t__0 t__0h] [] (fun v Γ' => v = (.tuple #[(.int .i64 y0), (.int .i64 y1), (.bool y2)]) ∧ Γ' = []) := by
  intro w0 S0 fp0 hI hS
  have H : Cx w0 fp0 S0 w0 [Es (List (Int × Int × ByteArray)) t__0 t__0h] := Cx.start hI hS
  clear hI hS
  refine enterC (args := [_]) gok Try.func24 rfl _ rfl rfl rfl ?_
  refine box_ H ?_; clear H; intro b3 w2 hx H
  clear hx
  replace H : Cx w0 fp0 S0 w2 [Bx b3 [(t__0h).v], Es (List (Int × Int × ByteArray)) t__0 t__0h] := H
  refine loadN [(t__0h).v] rfl (fun j u hj => H.bx 0 rfl hj) ?_
  obtain ⟨y5, e, hF6⟩ := bindS hF; clear hF
  obtain ⟨⟨y5_0_0, y5_0_1, y5_0_2⟩, y5_1⟩ := y5
  have ey5 := e; clear e
  refine callF (spec_tmScan_c t__0 t__0h y5_0_0 y5_0_1 y5_0_2 y5_1 ey5) (Γi := []) H ⟨Vw.sh 1 rfl, trivial⟩ ?_; clear H ey5
  rintro _ _ w7 ⟨h8, h10, h12, rfl, rfl⟩ (H : Cx w0 fp0 S0 w7 [E (List Int) y5_0_0 h8, E (List Int) y5_0_1 h10, E (List Int) y5_0_2 h12, Bx b3 [(t__0h).v], Es (List (Int × Int × ByteArray)) t__0 t__0h])
  refine alloc_ gok rfl H ?_; clear H; intro b15 w14 hx H
  clear hx
  replace H : Cx w0 fp0 S0 w14 [Bx b15 [(.slice none 0 0), (.slice none 0 0), (.slice none 0 0)], E (List Int) y5_0_0 h8, E (List Int) y5_0_1 h10, E (List Int) y5_0_2 h12, Bx b3 [(t__0h).v], Es (List (Int × Int × ByteArray)) t__0 t__0h] := H
  refine stA gok [(h8).v, (h10).v, (h12).v] rfl H rfl rfl rfl ?_; clear H; intro w17 H
  replace H : Cx w0 fp0 S0 w17 [Bx b15 [(h8).v, (h10).v, (h12).v], E (List Int) y5_0_0 h8, E (List Int) y5_0_1 h10, E (List Int) y5_0_2 h12, Bx b3 [(t__0h).v], Es (List (Int × Int × ByteArray)) t__0 t__0h] := H
  refine sq ?_
  obtain ⟨a18, e, hF19⟩ := bindS hF6; clear hF6
  refine boolO e ?_; clear e
  cases a18
  · have hF20 := condF hF19; clear hF19
    refine fld gok rfl rfl rfl rfl ?_
    refine load1 (H.bx 4 rfl (j := 0) rfl) ?_
    refine lenE (H.rs (α := List (Int × Int × ByteArray)) 5 rfl).len ?_
    obtain ⟨a21, e, hF22⟩ := bindS hF20; clear hF20
    refine arO e ?_; clear e
    refine heldX H [] (.fst 0 (.fst 2 (.fst 5 (.fst 7 (.fst 1 (.fst 3 (.fst 4 (.fst 10 (.fst 6 (.fst 8 (.fst 9 (.fst 11 (.fst 12 .done))))))))))))) mixed [] trivial (by kernel_rfl) ?_
    clear H; intro w23 H
    have hX : Ext w23 w23 := Upd.refl _ _
    have H0 := H
    refine anyH (fun _ => fld gok rfl rfl rfl rfl ⟨rfl, rfl⟩) ?_
    refine anyH (fun _ => fld gok rfl rfl rfl rfl ⟨rfl, rfl⟩) ?_
    refine load1X (H.bx 0 rfl (j := 1) rfl) ?_
    obtain ⟨a30, e, hF31⟩ := bindS hF22; clear hF22
    obtain ⟨p28, m29, c24, c25, c26, c27⟩ := (H.ro (α := List Int) 2 rfl).at1 e; clear e
    refine idxE c24 c25 c26 ?_; clear c24 c25 c26
    refine load1X c27 ?_; clear c27
    refine load1X (H.bx 0 rfl (j := 2) rfl) ?_
    obtain ⟨a38, e, hF39⟩ := bindS hF31; clear hF31
    obtain ⟨p36, m37, c32, c33, c34, c35⟩ := (H.ro (α := List Int) 3 rfl).at1 e; clear e
    refine idxE c32 c33 c34 ?_; clear c32 c33 c34
    refine load1X c35 ?_; clear c35
    cases hF39
    exact ⟨_, _, rfl, ⟨rfl, rfl⟩, (H.sel [] rfl).close trivial⟩
  · have hF40 := condT hF19; clear hF19
    cases hF40
    exact ⟨_, _, rfl, ⟨rfl, rfl⟩, (H.sel [] rfl).close trivial⟩

theorem spec_lbWord_c (s_ : ByteArray) (y : Bool) (hF : F_spec_lbWord s_ = some y) :
    ConF Try.prog 34 #[(.string s_)] [] [] (fun v Γ' => v = (.bool y) ∧ Γ' = []) := by
  intro w0 S0 fp0 hI hS
  have H : Cx w0 fp0 S0 w0 [] := Cx.start hI hS
  clear hI hS
  refine enterC (args := [_]) gok Try.func34 rfl _ rfl rfl rfl ?_
  refine sq ?_
  obtain ⟨r20, hF22, hF21⟩ := bindS hF; clear hF
  refine cut (fun (q23 : Bool) => [(0, (.string s_)), (17, (.bool q23))]) (fun (q23 : Bool) w' => q23 = r20 ∧ Cx w0 fp0 S0 w' []) ?_ ?_
  · skip
    refine lenE (m := s_.size) rfl ?_
    obtain ⟨y24, e, hF25⟩ := bindS hF22; clear hF22
    have ey24 := e; clear e
    refine callF (spec_l1In_c ((s_.size : Nat) : Int) 1 8 y24 ey24) (Γi := []) H trivial ?_; clear H ey24
    rintro _ _ w26 ⟨rfl, rfl⟩ (H : Cx w0 fp0 S0 w26 [])
    obtain ⟨a27, e, hF28⟩ := bindS hF25; clear hF25
    refine boolO e ?_; clear e
    cases a27
    · have hF29 := condF hF28; clear hF28
      obtain ⟨a30, e, hF31⟩ := bindS hF29; clear hF29
      refine indexZ gok rfl e ?_; clear e
      obtain ⟨a32, e, hF33⟩ := bindS hF31; clear hF31
      refine lssY e ?_; clear e
      cases a32
      · have hF34 := condF hF33; clear hF33
        obtain ⟨a35, e, hF36⟩ := bindS hF34; clear hF34
        refine indexZ gok rfl e ?_; clear e
        obtain ⟨a37, e, hF38⟩ := bindS hF36; clear hF36
        refine gtrY e ?_; clear e
        exact ⟨a37, ⟨rfl, rfl, trivial⟩, Option.some.inj hF38, H.sel [] rfl⟩
      · have hF39 := condT hF33; clear hF33
        exact ⟨true, ⟨rfl, rfl, trivial⟩, Option.some.inj hF39, H.sel [] rfl⟩
    · have hF40 := condT hF28; clear hF28
      exact ⟨true, ⟨rfl, rfl, trivial⟩, Option.some.inj hF40, H.sel [] rfl⟩
  · clear hF22 H
    rintro T42 s18 w41 ⟨hr, (H : Cx w0 fp0 S0 w41 [])⟩
    subst hr
    cases s18
    · have hF43 := condF hF21; clear hF21
      obtain ⟨r301, hF303, hF302⟩ := bindS hF43; clear hF43
      refine cut (fun (q304 : Unit) => []) (fun (q304 : Unit) w' => .inl () = r301 ∧ Cx w0 fp0 S0 w' []) ?_ ?_
      · skip
        refine loopW _ (fun (s469 : Int) (_ : Unit) => [(0, (.string s_)), (3, (.int .i64 s469))]) (fun (s469 : Int) (_ : Unit) w' => Cx w0 fp0 S0 w' []) 1 () hF303 ⟨rfl, rfl, trivial⟩ (H.sel [] rfl) ?_
        · clear H
          rintro T475 s469 _ w474 o476 (H : Cx w0 fp0 S0 w474 []) hrt hF477
          refine sq ?_
          refine lenE (m := s_.size) rfl ?_
          obtain ⟨a478, e, hF479⟩ := bindS hF477; clear hF477
          refine boolO e ?_; clear e
          cases a478
          · have hF480 := condF hF479; clear hF479
            have hs := Option.some.inj hF480; subst hs; clear hF480
            have hF481 : some _ = some _ := congrArg some (hrt _ rfl).symm
            exact ⟨(), trivial, Option.some.inj hF481, H.sel [] rfl⟩
          · have hF482 := condT hF479; clear hF479
            refine sq ?_
            obtain ⟨r517, hF519, hF518⟩ := bindS hF482; clear hF482
            refine cut (fun (q520 : Bool) => [(0, (.string s_)), (3, (.int .i64 s469)), (45, (.bool q520))]) (fun (q520 : Bool) w' => q520 = r517 ∧ Cx w0 fp0 S0 w' []) ?_ ?_
            · skip
              obtain ⟨a521, e, hF522⟩ := bindS hF519; clear hF519
              refine indexZ gok rfl e ?_; clear e
              obtain ⟨a523, e, hF524⟩ := bindS hF522; clear hF522
              refine lssY e ?_; clear e
              cases a523
              · have hF525 := condF hF524; clear hF524
                obtain ⟨a526, e, hF527⟩ := bindS hF525; clear hF525
                refine indexZ gok rfl e ?_; clear e
                obtain ⟨a528, e, hF529⟩ := bindS hF527; clear hF527
                refine gtrY e ?_; clear e
                cases a528
                · have hF530 := condF hF529; clear hF529
                  exact ⟨false, ⟨rfl, rfl, rfl, trivial⟩, Option.some.inj hF530, H.sel [] rfl⟩
                · have hF531 := condT hF529; clear hF529
                  obtain ⟨a532, e, hF533⟩ := bindS hF531; clear hF531
                  refine indexZ gok rfl e ?_; clear e
                  obtain ⟨a534, e, hF535⟩ := bindS hF533; clear hF533
                  refine lssY e ?_; clear e
                  cases a534
                  · have hF536 := condF hF535; clear hF535
                    obtain ⟨a537, e, hF538⟩ := bindS hF536; clear hF536
                    refine indexZ gok rfl e ?_; clear e
                    obtain ⟨a539, e, hF540⟩ := bindS hF538; clear hF538
                    refine gtrY e ?_; clear e
                    exact ⟨a539, ⟨rfl, rfl, rfl, trivial⟩, Option.some.inj hF540, H.sel [] rfl⟩
                  · have hF541 := condT hF535; clear hF535
                    exact ⟨true, ⟨rfl, rfl, rfl, trivial⟩, Option.some.inj hF541, H.sel [] rfl⟩
              · have hF542 := condT hF524; clear hF524
                obtain ⟨a543, e, hF544⟩ := bindS hF542; clear hF542
                refine indexZ gok rfl e ?_; clear e
                obtain ⟨a545, e, hF546⟩ := bindS hF544; clear hF544
                refine lssY e ?_; clear e
                cases a545
                · have hF547 := condF hF546; clear hF546
                  obtain ⟨a548, e, hF549⟩ := bindS hF547; clear hF547
                  refine indexZ gok rfl e ?_; clear e
                  obtain ⟨a550, e, hF551⟩ := bindS hF549; clear hF549
                  refine gtrY e ?_; clear e
                  exact ⟨a550, ⟨rfl, rfl, rfl, trivial⟩, Option.some.inj hF551, H.sel [] rfl⟩
                · have hF552 := condT hF546; clear hF546
                  exact ⟨true, ⟨rfl, rfl, rfl, trivial⟩, Option.some.inj hF552, H.sel [] rfl⟩
            · clear hF519 H
              rintro T554 s515 w553 ⟨hr, (H : Cx w0 fp0 S0 w553 [])⟩
              subst hr
              cases s515
              · have hF555 := condF hF518; clear hF518
                obtain ⟨a556, e, hF557⟩ := bindS hF555; clear hF555
                refine arO e ?_; clear e
                have hs := Option.some.inj hF557; subst hs; clear hF557
                exact ⟨a556, (), rfl, ⟨rfl, rfl, trivial⟩, H.sel [] rfl⟩
              · have hF558 := condT hF518; clear hF518
                have hs := Option.some.inj hF558; subst hs; clear hF558
                have hF559 : some _ = some _ := congrArg some (hrt _ rfl).symm
                have hs := Option.some.inj hF559; subst hs; clear hF559
                have hF560 : some _ = some _ := hF302; clear hF302
                cases hF560
                exact ⟨_, _, rfl, ⟨rfl, rfl⟩, (H.sel [] rfl).close trivial⟩
      · clear hF303 H
        rintro T562 _ w561 ⟨hr, (H : Cx w0 fp0 S0 w561 [])⟩
        subst hr
        cases hF302
        exact ⟨_, _, rfl, ⟨rfl, rfl⟩, (H.sel [] rfl).close trivial⟩
    · have hF563 := condT hF21; clear hF21
      cases hF563
      exact ⟨_, _, rfl, ⟨rfl, rfl⟩, (H.sel [] rfl).close trivial⟩

theorem spec_lbReserved_c  (y : List ByteArray) (hF : F_spec_lbReserved = some y) :
    ConF Try.prog 36 #[] [] [] (fun v Γ' => ∃ z0 : Hd, v = (z0).v ∧ Γ' = [E (List ByteArray) y z0]) := by
  intro w0 S0 fp0 hI hS
  have H : Cx w0 fp0 S0 w0 [] := Cx.start hI hS
  clear hI hS
  refine enterC (args := []) gok Try.func36 rfl _ rfl rfl rfl ?_
  replace H := H.sc (α := ByteArray) ⟨#[99, 111, 100, 101, 108, 97, 121]⟩
  replace H := H.sc (α := ByteArray) ⟨#[99, 111, 115, 99, 97, 108, 101]⟩
  replace H := H.sc (α := ByteArray) ⟨#[99, 111, 122, 101, 114, 111]⟩
  replace H := H.sc (α := ByteArray) ⟨#[99, 111, 97, 100, 100]⟩
  replace H := H.sc (α := ByteArray) ⟨#[99, 111, 100, 105, 115, 99, 97, 114, 100]⟩
  replace H := H.sc (α := ByteArray) ⟨#[99, 111, 99, 111, 112, 121]⟩
  replace H := H.sc (α := ByteArray) ⟨#[100, 101, 108, 97, 121]⟩
  replace H := H.sc (α := ByteArray) ⟨#[115, 99, 97, 108, 101]⟩
  replace H := H.sc (α := ByteArray) ⟨#[122, 101, 114, 111]⟩
  replace H := H.sc (α := ByteArray) ⟨#[97, 100, 100]⟩
  replace H := H.sc (α := ByteArray) ⟨#[100, 105, 115, 99, 97, 114, 100]⟩
  replace H := H.sc (α := ByteArray) ⟨#[99, 111, 112, 121]⟩
  replace H := H.sc (α := ByteArray) ⟨#[115, 119, 97, 112]⟩
  replace H := H.sc (α := ByteArray) ⟨#[105, 100]⟩
  refine litN (α := ByteArray) (us := [(.string ⟨#[105, 100]⟩), (.string ⟨#[115, 119, 97, 112]⟩), (.string ⟨#[99, 111, 112, 121]⟩), (.string ⟨#[100, 105, 115, 99, 97, 114, 100]⟩), (.string ⟨#[97, 100, 100]⟩), (.string ⟨#[122, 101, 114, 111]⟩), (.string ⟨#[115, 99, 97, 108, 101]⟩), (.string ⟨#[100, 101, 108, 97, 121]⟩), (.string ⟨#[99, 111, 99, 111, 112, 121]⟩), (.string ⟨#[99, 111, 100, 105, 115, 99, 97, 114, 100]⟩), (.string ⟨#[99, 111, 97, 100, 100]⟩), (.string ⟨#[99, 111, 122, 101, 114, 111]⟩), (.string ⟨#[99, 111, 115, 99, 97, 108, 101]⟩), (.string ⟨#[99, 111, 100, 101, 108, 97, 121]⟩)]) (xs := [⟨#[105, 100]⟩, ⟨#[115, 119, 97, 112]⟩, ⟨#[99, 111, 112, 121]⟩, ⟨#[100, 105, 115, 99, 97, 114, 100]⟩, ⟨#[97, 100, 100]⟩, ⟨#[122, 101, 114, 111]⟩, ⟨#[115, 99, 97, 108, 101]⟩, ⟨#[100, 101, 108, 97, 121]⟩, ⟨#[99, 111, 99, 111, 112, 121]⟩, ⟨#[99, 111, 100, 105, 115, 99, 97, 114, 100]⟩, ⟨#[99, 111, 97, 100, 100]⟩, ⟨#[99, 111, 122, 101, 114, 111]⟩, ⟨#[99, 111, 115, 99, 97, 108, 101]⟩, ⟨#[99, 111, 100, 101, 108, 97, 121]⟩]) (gs := [(), (), (), (), (), (), (), (), (), (), (), (), (), ()]) gok rfl rfl rfl ⟨rfl, rfl, rfl, rfl, rfl, rfl, rfl, rfl, rfl, rfl, rfl, rfl, rfl, rfl, trivial⟩ rfl rfl H ?_; clear H; intro h2 w1 hx H
  clear hx
  cases hF
  exact ⟨_, _, rfl, ⟨h2, rfl, rfl⟩, (H.sel [0] rfl).close ⟨cloE, trivial⟩⟩

theorem spec_l1HasS_c (l_ : List ByteArray) (l_h : Hd) (s_ : ByteArray) (y : Bool) (hF : F_spec_l1HasS l_ s_ = some y) :
    ConF Try.prog 35 #[(l_h).v, (.string s_)] [Es (List ByteArray) l_ l_h] [] (fun v Γ' => v = (.bool y) ∧ Γ' = []) := by
  intro w0 S0 fp0 hI hS
  have H : Cx w0 fp0 S0 w0 [Es (List ByteArray) l_ l_h] := Cx.start hI hS
  clear hI hS
  refine enterC (args := [_, _]) gok Try.func35 rfl _ rfl rfl rfl ?_
  refine sq ?_
  refine lenE (H.rs (α := List ByteArray) 0 rfl).len ?_
  have hmx19 := (H.rs (α := List ByteArray) 0 rfl).max
  obtain ⟨r20, e, hF21⟩ := bindS hF; clear hF
  refine loopO _ l_.length (fun (k2 : Nat) (_ : Unit) (_ : Unit) => [(1, (.string s_)), (7, (l_h).v), (8, (.int .i64 ((l_.length : Nat) : Int))), (9, (.int .i64 ((k2 : Nat) : Int)))]) (fun _ (_ : Unit) (_ : Unit) w' => Cx w0 fp0 S0 w' [Es (List ByteArray) l_ l_h]) () () e ⟨rfl, rfl, rfl, rfl, trivial⟩ (H.sel [0] rfl) ?_ ?_
  · clear H e
    rintro T23 k2 _ _ w22 o24 hk (H : Cx w0 fp0 S0 w22 [Es (List ByteArray) l_ l_h]) hrt hF25
    refine boolE (z := true) (ltLen hk) ?_
    refine sq ?_
    refine sq ?_
    obtain ⟨a32, e, hF33⟩ := bindS hF25; clear hF25
    obtain ⟨p30, m31, c26, c27, c28, c29⟩ := (H.rs (α := List ByteArray) 0 rfl).at1 e; clear e
    refine idxE c26 c27 c28 ?_; clear c26 c27 c28
    refine load1 c29 ?_; clear c29
    obtain ⟨a34, e, hF35⟩ := bindS hF33; clear hF33
    refine eqZ e ?_; clear e
    cases a34
    · have hF36 := condF hF35; clear hF35
      refine arK hk hmx19 ?_
      have hs := Option.some.inj hF36; subst hs; clear hF36
      exact ⟨(), (), rfl, ⟨rfl, rfl, rfl, rfl, trivial⟩, H.sel [0] rfl⟩
    · have hF37 := condT hF35; clear hF35
      have hs := Option.some.inj hF37; subst hs; clear hF37
      have hr := hrt _ rfl; subst hr
      have hF38 : some _ = some _ := hF21
      cases hF38
      exact ⟨_, _, rfl, ⟨rfl, rfl⟩, (H.sel [] rfl).close trivial⟩
  · clear H e
    rintro T40 _ _ w39 hr (H : Cx w0 fp0 S0 w39 [Es (List ByteArray) l_ l_h])
    subst hr
    refine boolE (z := false) geLen ?_
    refine sq ?_
    cases hF21
    exact ⟨_, _, rfl, ⟨rfl, rfl⟩, (H.sel [] rfl).close trivial⟩

theorem spec_lbName_c (s_ : ByteArray) (y : Bool) (hF : F_spec_lbName s_ = some y) :
    ConF Try.prog 25 #[(.string s_)] [] [] (fun v Γ' => v = (.bool y) ∧ Γ' = []) := by
  intro w0 S0 fp0 hI hS
  have H : Cx w0 fp0 S0 w0 [] := Cx.start hI hS
  clear hI hS
  refine enterC (args := [_]) gok Try.func25 rfl _ rfl rfl rfl ?_
  obtain ⟨r18, hF20, hF19⟩ := bindS hF; clear hF
  refine cut (fun (q21 : Bool) => [(2, (.bool q21))]) (fun (q21 : Bool) w' => q21 = r18 ∧ Cx w0 fp0 S0 w' []) ?_ ?_
  · skip
    obtain ⟨y22, e, hF23⟩ := bindS hF20; clear hF20
    have ey22 := e; clear e
    refine callF (spec_lbWord_c s_ y22 ey22) (Γi := []) H trivial ?_; clear H ey22
    rintro _ _ w24 ⟨rfl, rfl⟩ (H : Cx w0 fp0 S0 w24 [])
    cases y22
    · have hF25 := condF hF23; clear hF23
      exact ⟨false, ⟨rfl, trivial⟩, Option.some.inj hF25, H.sel [] rfl⟩
    · have hF26 := condT hF23; clear hF23
      obtain ⟨y27, e, hF28⟩ := bindS hF26; clear hF26
      have ey27 := e; clear e
      refine callF (spec_lbReserved_c y27 ey27) (Γi := []) H trivial ?_; clear H ey27
      rintro _ _ w29 ⟨h30, rfl, rfl⟩ (H : Cx w0 fp0 S0 w29 [E (List ByteArray) y27 h30])
      obtain ⟨y32, e, hF33⟩ := bindS hF28; clear hF28
      have ey32 := e; clear e
      refine callF (spec_l1HasS_c y27 h30 s_ y32 ey32) (Γi := []) H ⟨Vw.own 0 rfl, trivial⟩ ?_; clear H ey32
      rintro _ _ w34 ⟨rfl, rfl⟩ (H : Cx w0 fp0 S0 w34 [E (List ByteArray) y27 h30])
      obtain ⟨a35, e, hF36⟩ := bindS hF33; clear hF33
      refine boolO e ?_; clear e
      exact ⟨a35, ⟨rfl, trivial⟩, Option.some.inj hF36, H.sel [] rfl⟩
  · clear hF20 H
    rintro T38 s16 w37 ⟨hr, (H : Cx w0 fp0 S0 w37 [])⟩
    subst hr
    cases hF19
    exact ⟨_, _, rfl, ⟨rfl, rfl⟩, (H.sel [] rfl).close trivial⟩

theorem spec_tmTop_c (t__0 : List (Int × Int × ByteArray)) (t__0h : Hd) (y : Int) (hF : F_spec_tmTop t__0 = some y) :
    ConF Try.prog 37 #[(.agg #[(t__0h).v])] [Es (List (Int × Int × ByteArray)) t__0 t__0h] [] (fun v Γ' => v = (.int .i64 y) ∧ Γ' = []) := by
  intro w0 S0 fp0 hI hS
  have H : Cx w0 fp0 S0 w0 [Es (List (Int × Int × ByteArray)) t__0 t__0h] := Cx.start hI hS
  clear hI hS
  refine enterC (args := [_]) gok Try.func37 rfl _ rfl rfl rfl ?_
  refine box_ H ?_; clear H; intro b3 w2 hx H
  clear hx
  replace H : Cx w0 fp0 S0 w2 [Bx b3 [(t__0h).v], Es (List (Int × Int × ByteArray)) t__0 t__0h] := H
  refine fld gok rfl rfl rfl rfl ?_
  refine load1 (H.bx 0 rfl (j := 0) rfl) ?_
  refine fld gok rfl rfl rfl rfl ?_
  refine load1 (H.bx 0 rfl (j := 0) rfl) ?_
  refine lenE (H.rs (α := List (Int × Int × ByteArray)) 1 rfl).len ?_
  obtain ⟨a5, e, hF6⟩ := bindS hF; clear hF
  refine arO e ?_; clear e
  obtain ⟨a13, e, hF14⟩ := bindS hF6; clear hF6
  have HH := H; clear H; obtain ⟨p11, m12, g15, c7, c8, c9, c10, H⟩ := HH.el (α := Int × Int × ByteArray) 1 rfl e; clear HH
  clear e
  obtain ⟨a13_0, a13_1, a13_2⟩ := a13
  obtain ⟨_, _, _⟩ := g15
  replace H := H.sel [1, 2] rfl
  refine idxE c7 c8 c9 ?_; clear c7 c8 c9
  refine fld gok rfl rfl rfl rfl ?_
  refine load1 (c10 0 _ rfl) ?_
  cases hF14
  exact ⟨_, _, rfl, ⟨rfl, rfl⟩, (H.sel [] rfl).close trivial⟩

theorem spec_hgId_c (n_ : Int) (y_0 : Int) (y_1 : List (Int × Int × List Int × List Int)) (y_2 : List Int) (y_3 : List Int) (hF : F_spec_hgId n_ = some (y_0, y_1, y_2, y_3)) :
    ConF Try.prog 55 #[(.int .i64 n_)] [] [] (fun v Γ' => ∃ z0 z1 z2 : Hd, v = (.agg #[(.int .i64 y_0), (z0).v, (z1).v, (z2).v]) ∧ Γ' = [E (List (Int × Int × List Int × List Int)) y_1 z0, E (List Int) y_2 z1, E (List Int) y_3 z2]) := by
  intro w0 S0 fp0 hI hS
  have H : Cx w0 fp0 S0 w0 [] := Cx.start hI hS
  clear hI hS
  refine enterC (args := [_]) gok Try.func55 rfl _ rfl rfl rfl ?_
  refine alloc_ gok rfl H ?_; clear H; intro b2 w1 hx H
  clear hx
  replace H : Cx w0 fp0 S0 w1 [Bx b2 [(.int .i64 0), (.slice none 0 0), (.slice none 0 0), (.slice none 0 0)]] := H
  refine build_ (cs := #[(.int .i64 n_), (.slice none 0 0), (.slice none 0 0), (.slice none 0 0)]) gok rfl rfl rfl ?_
  refine alloc_ gok rfl H ?_; clear H; intro b5 w4 hx H
  clear hx
  replace H : Cx w0 fp0 S0 w4 [Bx b5 [(.int .i64 0), (.slice none 0 0), (.slice none 0 0), (.slice none 0 0)], Bx b2 [(.int .i64 0), (.slice none 0 0), (.slice none 0 0), (.slice none 0 0)]] := H
  refine stA gok [(.int .i64 n_), (.slice none 0 0), (.slice none 0 0), (.slice none 0 0)] rfl H rfl rfl rfl ?_; clear H; intro w7 H
  replace H : Cx w0 fp0 S0 w7 [Bx b5 [(.int .i64 n_), (.slice none 0 0), (.slice none 0 0), (.slice none 0 0)], Bx b2 [(.int .i64 0), (.slice none 0 0), (.slice none 0 0), (.slice none 0 0)]] := H
  obtain ⟨r106, hF108, hF107⟩ := bindS hF; clear hF
  refine cut (fun (q109 : (List Int × List Int) × (Hd × Hd)) => [(2, (.pointer (some ⟨b2, 0, none⟩))), (3, (.pointer (some ⟨b5, 0, none⟩)))]) (fun (q109 : (List Int × List Int) × (Hd × Hd)) w' => (q109.1.1, q109.1.2) = r106 ∧ Cx w0 fp0 S0 w' [Bx b2 [(.int .i64 0), (.slice none 0 0), (.slice none 0 0), (.slice none 0 0)], Bx b5 [(.int .i64 n_), (.slice none 0 0), (q109.2.1).v, (q109.2.2).v], E (List Int) q109.1.1 q109.2.1, E (List Int) q109.1.2 q109.2.2]) ?_ ?_
  · skip
    replace H := H.nil (α := Int)
    replace H := H.nil (α := Int)
    refine loopW _ (fun (s166 : List Int × List Int × Int) (g167 : Hd × Hd) => [(0, (.int .i64 n_)), (2, (.pointer (some ⟨b2, 0, none⟩))), (3, (.pointer (some ⟨b5, 0, none⟩))), (4, (.int .i64 s166.2.2))]) (fun (s166 : List Int × List Int × Int) (g167 : Hd × Hd) w' => Cx w0 fp0 S0 w' [Bx b2 [(.int .i64 0), (.slice none 0 0), (.slice none 0 0), (.slice none 0 0)], Bx b5 [(.int .i64 n_), (.slice none 0 0), (g167.1).v, (g167.2).v], E (List Int) s166.1 g167.1, E (List Int) s166.2.1 g167.2]) ([], [], 0) (nilH, nilH) hF108 ⟨rfl, rfl, rfl, rfl, trivial⟩ (H.sel [3, 2, 1, 0] rfl) ?_
    · clear H
      rintro T176 ⟨s166_0, s166_1, s166_2⟩ ⟨g167_0, g167_1⟩ w175 o177 (H : Cx w0 fp0 S0 w175 [Bx b2 [(.int .i64 0), (.slice none 0 0), (.slice none 0 0), (.slice none 0 0)], Bx b5 [(.int .i64 n_), (.slice none 0 0), (g167_0).v, (g167_1).v], E (List Int) s166_0 g167_0, E (List Int) s166_1 g167_1]) hrt hF178
      refine sq ?_
      obtain ⟨a179, e, hF180⟩ := bindS hF178; clear hF178
      refine boolO e ?_; clear e
      cases a179
      · have hF181 := condF hF180; clear hF180
        have hs := Option.some.inj hF181; subst hs; clear hF181
        have hF182 : some _ = some _ := congrArg some (hrt _ rfl).symm
        exact ⟨((s166_0, s166_1), (g167_0, g167_1)), ⟨rfl, rfl, trivial⟩, Option.some.inj hF182, H.sel [0, 1, 2, 3] rfl⟩
      · have hF183 := condT hF180; clear hF180
        refine sq ?_
        refine fld gok rfl rfl rfl rfl ?_
        refine load1 (H.bx 1 rfl (j := 2) rfl) ?_
        refine lit1S (α := Int) gok rfl rfl rfl rfl H ?_; clear H; intro h185 w184 hx H
        clear hx
        obtain ⟨a187, e, hF188⟩ := bindS hF183; clear hF183
        replace H := H.sel [3, 0, 1, 2, 4] rfl
        refine append_ (α := Int) gok rfl rfl rfl rfl H e ?_; clear e H; intro h190 w189 H
        refine fld gok rfl rfl rfl rfl ?_
        replace H := H.sel [2, 0, 1, 3] rfl
        refine stB (j := 2) H rfl rfl ?_; clear H; intro w192 H
        replace H : Cx w0 fp0 S0 w192 [Bx b5 [(.int .i64 n_), (.slice none 0 0), (h190).v, (g167_1).v], E (List Int) a187 h190, Bx b2 [(.int .i64 0), (.slice none 0 0), (.slice none 0 0), (.slice none 0 0)], E (List Int) s166_1 g167_1] := H
        refine fld gok rfl rfl rfl rfl ?_
        refine load1 (H.bx 0 rfl (j := 3) rfl) ?_
        refine lit1S (α := Int) gok rfl rfl rfl rfl H ?_; clear H; intro h194 w193 hx H
        clear hx
        obtain ⟨a196, e, hF197⟩ := bindS hF188; clear hF188
        replace H := H.sel [4, 0, 1, 2, 3] rfl
        refine append_ (α := Int) gok rfl rfl rfl rfl H e ?_; clear e H; intro h199 w198 H
        refine fld gok rfl rfl rfl rfl ?_
        replace H := H.sel [1, 0, 2, 3] rfl
        refine stB (j := 3) H rfl rfl ?_; clear H; intro w201 H
        replace H : Cx w0 fp0 S0 w201 [Bx b5 [(.int .i64 n_), (.slice none 0 0), (h190).v, (h199).v], E (List Int) a196 h199, E (List Int) a187 h190, Bx b2 [(.int .i64 0), (.slice none 0 0), (.slice none 0 0), (.slice none 0 0)]] := H
        obtain ⟨a202, e, hF203⟩ := bindS hF197; clear hF197
        refine arO e ?_; clear e
        have hs := Option.some.inj hF203; subst hs; clear hF203
        exact ⟨(a187, a196, a202), (h190, h199), rfl, ⟨rfl, rfl, rfl, rfl, trivial⟩, H.sel [3, 0, 2, 1] rfl⟩
  · clear hF108 H
    rintro T205 ⟨⟨s102_0, s102_1⟩, ⟨g103_0, g103_1⟩⟩ w204 ⟨hr, (H : Cx w0 fp0 S0 w204 [Bx b2 [(.int .i64 0), (.slice none 0 0), (.slice none 0 0), (.slice none 0 0)], Bx b5 [(.int .i64 n_), (.slice none 0 0), (g103_0).v, (g103_1).v], E (List Int) s102_0 g103_0, E (List Int) s102_1 g103_1])⟩
    subst hr
    refine loadN [(.int .i64 n_), (.slice none 0 0), (g103_0).v, (g103_1).v] rfl (fun j u hj => H.bx 1 rfl hj) ?_
    refine stA gok [(.int .i64 n_), (.slice none 0 0), (g103_0).v, (g103_1).v] rfl H rfl rfl rfl ?_; clear H; intro w206 H
    replace H : Cx w0 fp0 S0 w206 [Bx b2 [(.int .i64 n_), (.slice none 0 0), (g103_0).v, (g103_1).v], Bx b5 [(.int .i64 n_), (.slice none 0 0), (g103_0).v, (g103_1).v], E (List Int) s102_0 g103_0, E (List Int) s102_1 g103_1] := H
    refine loadN [(.int .i64 n_), (.slice none 0 0), (g103_0).v, (g103_1).v] rfl (fun j u hj => H.bx 0 rfl hj) ?_
    replace H := H.nil (α := Int × Int × List Int × List Int)
    cases hF107
    exact ⟨_, _, rfl, ⟨nilH, g103_0, g103_1, rfl, rfl⟩, (H.sel [0, 3, 4] rfl).close ⟨cloE, cloE, cloE, trivial⟩⟩

theorem spec_hgLeaf_c (x__0 : Int) (x__1 : Int) (x__2 : ByteArray) (y_0 : Int) (y_1 : List (Int × Int × List Int × List Int)) (y_2 : List Int) (y_3 : List Int) (hF : F_spec_hgLeaf (x__0, x__1, x__2) = some (y_0, y_1, y_2, y_3)) :
    ConF Try.prog 38 #[(.agg #[(.int .i64 x__0), (.int .i64 x__1), (.string x__2)])] [] [] (fun v Γ' => ∃ z0 z1 z2 : Hd, v = (.agg #[(.int .i64 y_0), (z0).v, (z1).v, (z2).v]) ∧ Γ' = [E (List (Int × Int × List Int × List Int)) y_1 z0, E (List Int) y_2 z1, E (List Int) y_3 z2]) := by
  intro w0 S0 fp0 hI hS
  have H : Cx w0 fp0 S0 w0 [] := Cx.start hI hS
  clear hI hS
  refine enterC (args := [_]) gok Try.func38 rfl _ rfl rfl rfl ?_
  refine box_ H ?_; clear H; intro b2 w1 hx H
  clear hx
  replace H : Cx w0 fp0 S0 w1 [Bx b2 [(.int .i64 x__0), (.int .i64 x__1), (.string x__2)]] := H
  refine alloc_ gok rfl H ?_; clear H; intro b5 w4 hx H
  clear hx
  replace H : Cx w0 fp0 S0 w4 [Bx b5 [(.int .i64 0), (.slice none 0 0), (.slice none 0 0), (.slice none 0 0)], Bx b2 [(.int .i64 x__0), (.int .i64 x__1), (.string x__2)]] := H
  refine sq ?_
  refine fld gok rfl rfl rfl rfl ?_
  refine load1 (H.bx 1 rfl (j := 0) rfl) ?_
  obtain ⟨a7, e, hF8⟩ := bindS hF; clear hF
  refine boolO e ?_; clear e
  cases a7
  · have hF9 := condF hF8; clear hF8
    obtain ⟨a10, e, hF11⟩ := bindS hF9; clear hF9
    refine boolO e ?_; clear e
    cases a10
    · have hF12 := condF hF11; clear hF11
      refine fld gok rfl rfl rfl rfl ?_
      refine load1 (H.bx 1 rfl (j := 0) rfl) ?_
      obtain ⟨y13, e, hF14⟩ := bindS hF12; clear hF12
      obtain ⟨y13_0, y13_1⟩ := y13
      have ey13 := e; clear e
      refine callF (spec_tmKind_c x__0 y13_0 y13_1 ey13) (Γi := []) H trivial ?_; clear H ey13
      rintro _ _ w15 ⟨rfl, rfl⟩ (H : Cx w0 fp0 S0 w15 [Bx b5 [(.int .i64 0), (.slice none 0 0), (.slice none 0 0), (.slice none 0 0)], Bx b2 [(.int .i64 x__0), (.int .i64 x__1), (.string x__2)]])
      obtain ⟨a16, e, hF17⟩ := bindS hF14; clear hF14
      refine arO e ?_; clear e
      refine build_ (cs := #[(.int .i64 a16), (.slice none 0 0), (.slice none 0 0), (.slice none 0 0)]) gok rfl rfl rfl ?_
      refine alloc_ gok rfl H ?_; clear H; intro b19 w18 hx H
      clear hx
      replace H : Cx w0 fp0 S0 w18 [Bx b19 [(.int .i64 0), (.slice none 0 0), (.slice none 0 0), (.slice none 0 0)], Bx b5 [(.int .i64 0), (.slice none 0 0), (.slice none 0 0), (.slice none 0 0)], Bx b2 [(.int .i64 x__0), (.int .i64 x__1), (.string x__2)]] := H
      refine stA gok [(.int .i64 a16), (.slice none 0 0), (.slice none 0 0), (.slice none 0 0)] rfl H rfl rfl rfl ?_; clear H; intro w21 H
      replace H : Cx w0 fp0 S0 w21 [Bx b19 [(.int .i64 a16), (.slice none 0 0), (.slice none 0 0), (.slice none 0 0)], Bx b5 [(.int .i64 0), (.slice none 0 0), (.slice none 0 0), (.slice none 0 0)], Bx b2 [(.int .i64 x__0), (.int .i64 x__1), (.string x__2)]] := H
      refine fld gok rfl rfl rfl rfl ?_
      refine load1 (H.bx 2 rfl (j := 0) rfl) ?_
      refine fld gok rfl rfl rfl rfl ?_
      refine load1 (H.bx 2 rfl (j := 1) rfl) ?_
      refine build_ (cs := #[(.int .i64 x__0), (.int .i64 x__1), (.slice none 0 0), (.slice none 0 0)]) gok rfl rfl rfl ?_
      refine alloc_ gok rfl H ?_; clear H; intro b23 w22 hx H
      clear hx
      replace H : Cx w0 fp0 S0 w22 [Bx b23 [(.int .i64 0), (.int .i64 0), (.slice none 0 0), (.slice none 0 0)], Bx b19 [(.int .i64 a16), (.slice none 0 0), (.slice none 0 0), (.slice none 0 0)], Bx b5 [(.int .i64 0), (.slice none 0 0), (.slice none 0 0), (.slice none 0 0)], Bx b2 [(.int .i64 x__0), (.int .i64 x__1), (.string x__2)]] := H
      refine stA gok [(.int .i64 x__0), (.int .i64 x__1), (.slice none 0 0), (.slice none 0 0)] rfl H rfl rfl rfl ?_; clear H; intro w25 H
      replace H : Cx w0 fp0 S0 w25 [Bx b23 [(.int .i64 x__0), (.int .i64 x__1), (.slice none 0 0), (.slice none 0 0)], Bx b19 [(.int .i64 a16), (.slice none 0 0), (.slice none 0 0), (.slice none 0 0)], Bx b5 [(.int .i64 0), (.slice none 0 0), (.slice none 0 0), (.slice none 0 0)], Bx b2 [(.int .i64 x__0), (.int .i64 x__1), (.string x__2)]] := H
      obtain ⟨r212, hF214, hF213⟩ := bindS hF17; clear hF17
      refine cut (fun (q215 : (List Int × List Int × List Int × List Int) × (Hd × Hd × Hd × Hd)) => [(2, (.pointer (some ⟨b5, 0, none⟩))), (5, (.pointer (some ⟨b19, 0, none⟩))), (6, (.pointer (some ⟨b23, 0, none⟩)))]) (fun (q215 : (List Int × List Int × List Int × List Int) × (Hd × Hd × Hd × Hd)) w' => (q215.1.1, q215.1.2.1, q215.1.2.2.1, q215.1.2.2.2) = r212 ∧ Cx w0 fp0 S0 w' [Bx b5 [(.int .i64 0), (.slice none 0 0), (.slice none 0 0), (.slice none 0 0)], Bx b19 [(.int .i64 a16), (.slice none 0 0), (q215.2.1).v, (q215.2.2.1).v], E (List Int) q215.1.1 q215.2.1, E (List Int) q215.1.2.1 q215.2.2.1, Bx b23 [(.int .i64 x__0), (.int .i64 x__1), (q215.2.2.2.1).v, (q215.2.2.2.2).v], E (List Int) q215.1.2.2.1 q215.2.2.2.1, E (List Int) q215.1.2.2.2 q215.2.2.2.2]) ?_ ?_
      · skip
        replace H := H.nil (α := Int)
        replace H := H.nil (α := Int)
        replace H := H.nil (α := Int)
        replace H := H.nil (α := Int)
        refine loopW _ (fun (s328 : List Int × List Int × List Int × List Int × Int) (g329 : Hd × Hd × Hd × Hd) => [(2, (.pointer (some ⟨b5, 0, none⟩))), (3, (.int .i64 y13_0)), (4, (.int .i64 y13_1)), (5, (.pointer (some ⟨b19, 0, none⟩))), (6, (.pointer (some ⟨b23, 0, none⟩))), (7, (.int .i64 s328.2.2.2.2))]) (fun (s328 : List Int × List Int × List Int × List Int × Int) (g329 : Hd × Hd × Hd × Hd) w' => Cx w0 fp0 S0 w' [Bx b5 [(.int .i64 0), (.slice none 0 0), (.slice none 0 0), (.slice none 0 0)], Bx b19 [(.int .i64 a16), (.slice none 0 0), (g329.1).v, (g329.2.1).v], E (List Int) s328.1 g329.1, E (List Int) s328.2.1 g329.2.1, Bx b23 [(.int .i64 x__0), (.int .i64 x__1), (g329.2.2.1).v, (g329.2.2.2).v], E (List Int) s328.2.2.1 g329.2.2.1, E (List Int) s328.2.2.2.1 g329.2.2.2]) ([], [], [], [], 0) (nilH, nilH, nilH, nilH) hF214 ⟨rfl, rfl, rfl, rfl, rfl, rfl, trivial⟩ (H.sel [6, 5, 3, 2, 4, 1, 0] rfl) ?_
        · clear H
          rintro T342 ⟨s328_0, s328_1, s328_2, s328_3, s328_4⟩ ⟨g329_0, g329_1, g329_2, g329_3⟩ w341 o343 (H : Cx w0 fp0 S0 w341 [Bx b5 [(.int .i64 0), (.slice none 0 0), (.slice none 0 0), (.slice none 0 0)], Bx b19 [(.int .i64 a16), (.slice none 0 0), (g329_0).v, (g329_1).v], E (List Int) s328_0 g329_0, E (List Int) s328_1 g329_1, Bx b23 [(.int .i64 x__0), (.int .i64 x__1), (g329_2).v, (g329_3).v], E (List Int) s328_2 g329_2, E (List Int) s328_3 g329_3]) hrt hF344
          refine sq ?_
          obtain ⟨a345, e, hF346⟩ := bindS hF344; clear hF344
          refine arO e ?_; clear e
          obtain ⟨a347, e, hF348⟩ := bindS hF346; clear hF346
          refine boolO e ?_; clear e
          cases a347
          · have hF349 := condF hF348; clear hF348
            have hs := Option.some.inj hF349; subst hs; clear hF349
            have hF350 : some _ = some _ := congrArg some (hrt _ rfl).symm
            exact ⟨((s328_0, s328_1, s328_2, s328_3), (g329_0, g329_1, g329_2, g329_3)), ⟨rfl, rfl, rfl, trivial⟩, Option.some.inj hF350, H.sel [0, 1, 2, 3, 4, 5, 6] rfl⟩
          · have hF351 := condT hF348; clear hF348
            refine sq ?_
            obtain ⟨a352, e, hF353⟩ := bindS hF351; clear hF351
            refine boolO e ?_; clear e
            cases a352
            · have hF354 := condF hF353; clear hF353
              refine fld gok rfl rfl rfl rfl ?_
              refine load1 (H.bx 1 rfl (j := 3) rfl) ?_
              refine lit1S (α := Int) gok rfl rfl rfl rfl H ?_; clear H; intro h356 w355 hx H
              clear hx
              obtain ⟨a358, e, hF359⟩ := bindS hF354; clear hF354
              replace H := H.sel [4, 0, 1, 2, 3, 5, 6, 7] rfl
              refine append_ (α := Int) gok rfl rfl rfl rfl H e ?_; clear e H; intro h361 w360 H
              refine fld gok rfl rfl rfl rfl ?_
              replace H := H.sel [2, 0, 1, 3, 4, 5, 6] rfl
              refine stB (j := 3) H rfl rfl ?_; clear H; intro w363 H
              replace H : Cx w0 fp0 S0 w363 [Bx b19 [(.int .i64 a16), (.slice none 0 0), (g329_0).v, (h361).v], E (List Int) a358 h361, Bx b5 [(.int .i64 0), (.slice none 0 0), (.slice none 0 0), (.slice none 0 0)], E (List Int) s328_0 g329_0, Bx b23 [(.int .i64 x__0), (.int .i64 x__1), (g329_2).v, (g329_3).v], E (List Int) s328_2 g329_2, E (List Int) s328_3 g329_3] := H
              refine fld gok rfl rfl rfl rfl ?_
              refine load1 (H.bx 4 rfl (j := 3) rfl) ?_
              refine lit1S (α := Int) gok rfl rfl rfl rfl H ?_; clear H; intro h365 w364 hx H
              clear hx
              obtain ⟨a367, e, hF368⟩ := bindS hF359; clear hF359
              replace H := H.sel [7, 0, 1, 2, 3, 4, 5, 6] rfl
              refine append_ (α := Int) gok rfl rfl rfl rfl H e ?_; clear e H; intro h370 w369 H
              refine fld gok rfl rfl rfl rfl ?_
              replace H := H.sel [5, 0, 1, 2, 3, 4, 6] rfl
              refine stB (j := 3) H rfl rfl ?_; clear H; intro w372 H
              replace H : Cx w0 fp0 S0 w372 [Bx b23 [(.int .i64 x__0), (.int .i64 x__1), (g329_2).v, (h370).v], E (List Int) a367 h370, Bx b19 [(.int .i64 a16), (.slice none 0 0), (g329_0).v, (h361).v], E (List Int) a358 h361, Bx b5 [(.int .i64 0), (.slice none 0 0), (.slice none 0 0), (.slice none 0 0)], E (List Int) s328_0 g329_0, E (List Int) s328_2 g329_2] := H
              obtain ⟨a373, e, hF374⟩ := bindS hF368; clear hF368
              refine arO e ?_; clear e
              have hs := Option.some.inj hF374; subst hs; clear hF374
              exact ⟨(s328_0, a358, s328_2, a367, a373), (g329_0, h361, g329_2, h370), rfl, ⟨rfl, rfl, rfl, rfl, rfl, rfl, trivial⟩, H.sel [4, 2, 5, 3, 0, 6, 1] rfl⟩
            · have hF375 := condT hF353; clear hF353
              refine fld gok rfl rfl rfl rfl ?_
              refine load1 (H.bx 1 rfl (j := 2) rfl) ?_
              refine lit1S (α := Int) gok rfl rfl rfl rfl H ?_; clear H; intro h377 w376 hx H
              clear hx
              obtain ⟨a379, e, hF380⟩ := bindS hF375; clear hF375
              replace H := H.sel [3, 0, 1, 2, 4, 5, 6, 7] rfl
              refine append_ (α := Int) gok rfl rfl rfl rfl H e ?_; clear e H; intro h382 w381 H
              refine fld gok rfl rfl rfl rfl ?_
              replace H := H.sel [2, 0, 1, 3, 4, 5, 6] rfl
              refine stB (j := 2) H rfl rfl ?_; clear H; intro w384 H
              replace H : Cx w0 fp0 S0 w384 [Bx b19 [(.int .i64 a16), (.slice none 0 0), (h382).v, (g329_1).v], E (List Int) a379 h382, Bx b5 [(.int .i64 0), (.slice none 0 0), (.slice none 0 0), (.slice none 0 0)], E (List Int) s328_1 g329_1, Bx b23 [(.int .i64 x__0), (.int .i64 x__1), (g329_2).v, (g329_3).v], E (List Int) s328_2 g329_2, E (List Int) s328_3 g329_3] := H
              refine fld gok rfl rfl rfl rfl ?_
              refine load1 (H.bx 4 rfl (j := 2) rfl) ?_
              refine lit1S (α := Int) gok rfl rfl rfl rfl H ?_; clear H; intro h386 w385 hx H
              clear hx
              obtain ⟨a388, e, hF389⟩ := bindS hF380; clear hF380
              replace H := H.sel [6, 0, 1, 2, 3, 4, 5, 7] rfl
              refine append_ (α := Int) gok rfl rfl rfl rfl H e ?_; clear e H; intro h391 w390 H
              refine fld gok rfl rfl rfl rfl ?_
              replace H := H.sel [5, 0, 1, 2, 3, 4, 6] rfl
              refine stB (j := 2) H rfl rfl ?_; clear H; intro w393 H
              replace H : Cx w0 fp0 S0 w393 [Bx b23 [(.int .i64 x__0), (.int .i64 x__1), (h391).v, (g329_3).v], E (List Int) a388 h391, Bx b19 [(.int .i64 a16), (.slice none 0 0), (h382).v, (g329_1).v], E (List Int) a379 h382, Bx b5 [(.int .i64 0), (.slice none 0 0), (.slice none 0 0), (.slice none 0 0)], E (List Int) s328_1 g329_1, E (List Int) s328_3 g329_3] := H
              obtain ⟨a394, e, hF395⟩ := bindS hF389; clear hF389
              refine arO e ?_; clear e
              have hs := Option.some.inj hF395; subst hs; clear hF395
              exact ⟨(a379, s328_1, a388, s328_3, a394), (h382, g329_1, h391, g329_3), rfl, ⟨rfl, rfl, rfl, rfl, rfl, rfl, trivial⟩, H.sel [4, 2, 3, 5, 0, 1, 6] rfl⟩
      · clear hF214 H
        rintro T397 ⟨⟨s206_0, s206_1, s206_2, s206_3⟩, ⟨g207_0, g207_1, g207_2, g207_3⟩⟩ w396 ⟨hr, (H : Cx w0 fp0 S0 w396 [Bx b5 [(.int .i64 0), (.slice none 0 0), (.slice none 0 0), (.slice none 0 0)], Bx b19 [(.int .i64 a16), (.slice none 0 0), (g207_0).v, (g207_1).v], E (List Int) s206_0 g207_0, E (List Int) s206_1 g207_1, Bx b23 [(.int .i64 x__0), (.int .i64 x__1), (g207_2).v, (g207_3).v], E (List Int) s206_2 g207_2, E (List Int) s206_3 g207_3])⟩
        subst hr
        refine loadN [(.int .i64 x__0), (.int .i64 x__1), (g207_2).v, (g207_3).v] rfl (fun j u hj => H.bx 4 rfl hj) ?_
        replace H := H.sel [5, 6, 0, 1, 2, 3, 4] rfl
        replace H := H.join (α := List Int) (β := List Int)
        replace H := H.sc (α := Int) x__1
        replace H := H.join (α := Int) (β := List Int × List Int)
        replace H := H.sc (α := Int) x__0
        replace H := H.join (α := Int) (β := Int × List Int × List Int)
        refine lit1 (α := Int × Int × List Int × List Int) (g := ((), (), g207_2, g207_3)) gok rfl rfl rfl rfl rfl H ?_; clear H; intro h399 w398 hx H
        clear hx
        refine fld gok rfl rfl rfl rfl ?_
        replace H := H.sel [2, 0, 1, 3, 4, 5] rfl
        refine stB (j := 1) H rfl rfl ?_; clear H; intro w406 H
        replace H : Cx w0 fp0 S0 w406 [Bx b19 [(.int .i64 a16), (h399).v, (g207_0).v, (g207_1).v], E (List (Int × Int × List Int × List Int)) [(x__0, x__1, s206_2, s206_3)] h399, Bx b5 [(.int .i64 0), (.slice none 0 0), (.slice none 0 0), (.slice none 0 0)], E (List Int) s206_0 g207_0, E (List Int) s206_1 g207_1, Bx b23 [(.int .i64 x__0), (.int .i64 x__1), (g207_2).v, (g207_3).v]] := H
        refine loadN [(.int .i64 a16), (h399).v, (g207_0).v, (g207_1).v] rfl (fun j u hj => H.bx 0 rfl hj) ?_
        replace H := H.sel [2, 0, 1, 3, 4, 5] rfl
        refine stA gok [(.int .i64 a16), (h399).v, (g207_0).v, (g207_1).v] rfl H rfl rfl rfl ?_; clear H; intro w407 H
        replace H : Cx w0 fp0 S0 w407 [Bx b5 [(.int .i64 a16), (h399).v, (g207_0).v, (g207_1).v], Bx b19 [(.int .i64 a16), (h399).v, (g207_0).v, (g207_1).v], E (List (Int × Int × List Int × List Int)) [(x__0, x__1, s206_2, s206_3)] h399, E (List Int) s206_0 g207_0, E (List Int) s206_1 g207_1, Bx b23 [(.int .i64 x__0), (.int .i64 x__1), (g207_2).v, (g207_3).v]] := H
        refine loadN [(.int .i64 a16), (h399).v, (g207_0).v, (g207_1).v] rfl (fun j u hj => H.bx 0 rfl hj) ?_
        cases hF213
        exact ⟨_, _, rfl, ⟨h399, g207_0, g207_1, rfl, rfl⟩, (H.sel [2, 3, 4] rfl).close ⟨cloE, cloE, cloE, trivial⟩⟩
    · have hF408 := condT hF11; clear hF11
      replace H := H.sc (α := Int) 1
      replace H := H.sc (α := Int) 0
      refine litN (α := Int) (us := [(.int .i64 0), (.int .i64 1)]) (xs := [0, 1]) (gs := [(), ()]) gok rfl rfl rfl ⟨rfl, rfl, trivial⟩ rfl rfl H ?_; clear H; intro h410 w409 hx H
      clear hx
      replace H := H.sc (α := Int) 0
      replace H := H.sc (α := Int) 1
      refine litN (α := Int) (us := [(.int .i64 1), (.int .i64 0)]) (xs := [1, 0]) (gs := [(), ()]) gok rfl rfl rfl ⟨rfl, rfl, trivial⟩ rfl rfl H ?_; clear H; intro h413 w412 hx H
      clear hx
      refine build_ (cs := #[(.int .i64 2), (.slice none 0 0), (h410).v, (h413).v]) gok rfl rfl rfl ?_
      replace H := H.sel [2, 0, 1, 3] rfl
      refine stA gok [(.int .i64 2), (.slice none 0 0), (h410).v, (h413).v] rfl H rfl rfl rfl ?_; clear H; intro w415 H
      replace H : Cx w0 fp0 S0 w415 [Bx b5 [(.int .i64 2), (.slice none 0 0), (h410).v, (h413).v], E (List Int) [1, 0] h413, E (List Int) [0, 1] h410, Bx b2 [(.int .i64 x__0), (.int .i64 x__1), (.string x__2)]] := H
      refine loadN [(.int .i64 2), (.slice none 0 0), (h410).v, (h413).v] rfl (fun j u hj => H.bx 0 rfl hj) ?_
      replace H := H.nil (α := Int × Int × List Int × List Int)
      cases hF408
      exact ⟨_, _, rfl, ⟨nilH, h410, h413, rfl, rfl⟩, (H.sel [0, 3, 2] rfl).close ⟨cloE, cloE, cloE, trivial⟩⟩
  · have hF417 := condT hF8; clear hF8
    refine fld gok rfl rfl rfl rfl ?_
    refine load1 (H.bx 1 rfl (j := 1) rfl) ?_
    obtain ⟨y418, e, hF419⟩ := bindS hF417; clear hF417
    obtain ⟨y418_0, y418_1, y418_2, y418_3⟩ := y418
    have ey418 := e; clear e
    refine callF (spec_hgId_c x__1 y418_0 y418_1 y418_2 y418_3 ey418) (Γi := []) H trivial ?_; clear H ey418
    rintro _ _ w420 ⟨h421, h423, h425, rfl, rfl⟩ (H : Cx w0 fp0 S0 w420 [E (List (Int × Int × List Int × List Int)) y418_1 h421, E (List Int) y418_2 h423, E (List Int) y418_3 h425, Bx b5 [(.int .i64 0), (.slice none 0 0), (.slice none 0 0), (.slice none 0 0)], Bx b2 [(.int .i64 x__0), (.int .i64 x__1), (.string x__2)]])
    replace H := H.sel [3, 0, 1, 2, 4] rfl
    refine stA gok [(.int .i64 y418_0), (h421).v, (h423).v, (h425).v] rfl H rfl rfl rfl ?_; clear H; intro w427 H
    replace H : Cx w0 fp0 S0 w427 [Bx b5 [(.int .i64 y418_0), (h421).v, (h423).v, (h425).v], E (List (Int × Int × List Int × List Int)) y418_1 h421, E (List Int) y418_2 h423, E (List Int) y418_3 h425, Bx b2 [(.int .i64 x__0), (.int .i64 x__1), (.string x__2)]] := H
    refine loadN [(.int .i64 y418_0), (h421).v, (h423).v, (h425).v] rfl (fun j u hj => H.bx 0 rfl hj) ?_
    cases hF419
    exact ⟨_, _, rfl, ⟨h421, h423, h425, rfl, rfl⟩, (H.sel [1, 2, 3] rfl).close ⟨cloE, cloE, cloE, trivial⟩⟩

theorem spec_tmOwn_c (nodes_ : List (Int × Int × ByteArray)) (nodes_h : Hd) (y_0 : List (Int × Int × ByteArray)) (hF : F_spec_tmOwn nodes_ = some y_0) :
    ConS Try.prog 57 #[(nodes_h).v] [Es (List (Int × Int × ByteArray)) nodes_ nodes_h] [] (fun v Γ' => ∃ z0 : Hd, v = (.agg #[(z0).v]) ∧ Γ' = [Es (List (Int × Int × ByteArray)) y_0 z0]) := by
  intro w0 S0 fp0 hI hS
  have H : Cx w0 fp0 S0 w0 [Es (List (Int × Int × ByteArray)) nodes_ nodes_h] := Cx.start hI hS
  clear hI hS
  refine enterC (args := [_]) gok Try.func57 rfl _ rfl rfl rfl ?_
  refine alloc_ gok rfl H ?_; clear H; intro b3 w2 hx H
  clear hx
  replace H : Cx w0 fp0 S0 w2 [Bx b3 [(.slice none 0 0)], Es (List (Int × Int × ByteArray)) nodes_ nodes_h] := H
  refine lit0 (α := Int × Int × ByteArray) gok rfl rfl H ?_; clear H; intro h6 w5 hx H
  clear hx
  obtain ⟨a8, e, hF9⟩ := bindS hF; clear hF
  replace H := H.frzE (α := Int × Int × ByteArray)
  refine appendSh (α := Int × Int × ByteArray) gok rfl rfl rfl rfl rfl H 1 rfl e ?_; clear e H; intro h11 w10 H
  refine build_ (cs := #[(h11).v]) gok rfl rfl rfl ?_
  replace H := H.sel [1, 0, 2] rfl
  refine stA gok [(h11).v] rfl H rfl rfl rfl ?_; clear H; intro w13 H
  replace H : Cx w0 fp0 S0 w13 [Bx b3 [(h11).v], E (List (Sh (Int × Int × ByteArray))) a8 h11, Es (List (Int × Int × ByteArray)) nodes_ nodes_h] := H
  refine loadN [(h11).v] rfl (fun j u hj => H.bx 0 rfl hj) ?_
  replace H := H.sel [1, 0, 2] rfl
  replace H := Cx.reS (e' := Es (List (Int × Int × ByteArray)) a8 h11) rfl H.frz
  cases hF9
  exact ⟨_, _, rfl, ⟨h11, rfl, rfl⟩, (H.sel [0] rfl)⟩

theorem spec_tmParts_c (t__0 : List (Int × Int × ByteArray)) (t__0h : Hd) (y0_0 : List (Int × Int × ByteArray)) (y1_0 : List (Int × Int × ByteArray)) (hF : F_spec_tmParts t__0 = some (y0_0, y1_0)) :
    ConS Try.prog 39 #[(.agg #[(t__0h).v])] [Es (List (Int × Int × ByteArray)) t__0 t__0h] [] (fun v Γ' => ∃ z0 z1 : Hd, v = (.tuple #[(.agg #[(z0).v]), (.agg #[(z1).v])]) ∧ Γ' = [Es (List (Int × Int × ByteArray)) y0_0 z0, Es (List (Int × Int × ByteArray)) y1_0 z1]) := by
  intro w0 S0 fp0 hI hS
  have H : Cx w0 fp0 S0 w0 [Es (List (Int × Int × ByteArray)) t__0 t__0h] := Cx.start hI hS
  clear hI hS
  refine enterC (args := [_]) gok Try.func39 rfl _ rfl rfl rfl ?_
  refine box_ H ?_; clear H; intro b3 w2 hx H
  clear hx
  replace H : Cx w0 fp0 S0 w2 [Bx b3 [(t__0h).v], Es (List (Int × Int × ByteArray)) t__0 t__0h] := H
  refine alloc_ gok rfl H ?_; clear H; intro b6 w5 hx H
  clear hx
  replace H : Cx w0 fp0 S0 w5 [Bx b6 [(.slice none 0 0)], Bx b3 [(t__0h).v], Es (List (Int × Int × ByteArray)) t__0 t__0h] := H
  refine alloc_ gok rfl H ?_; clear H; intro b9 w8 hx H
  clear hx
  replace H : Cx w0 fp0 S0 w8 [Bx b9 [(.slice none 0 0)], Bx b6 [(.slice none 0 0)], Bx b3 [(t__0h).v], Es (List (Int × Int × ByteArray)) t__0 t__0h] := H
  refine loadN [(t__0h).v] rfl (fun j u hj => H.bx 2 rfl hj) ?_
  obtain ⟨y11, e, hF12⟩ := bindS hF; clear hF
  obtain ⟨⟨y11_0_0, y11_0_1, y11_0_2⟩, y11_1⟩ := y11
  have ey11 := e; clear e
  refine callF (spec_tmScan_c t__0 t__0h y11_0_0 y11_0_1 y11_0_2 y11_1 ey11) (Γi := []) H ⟨Vw.sh 3 rfl, trivial⟩ ?_; clear H ey11
  rintro _ _ w13 ⟨h14, h16, h18, rfl, rfl⟩ (H : Cx w0 fp0 S0 w13 [E (List Int) y11_0_0 h14, E (List Int) y11_0_1 h16, E (List Int) y11_0_2 h18, Bx b9 [(.slice none 0 0)], Bx b6 [(.slice none 0 0)], Bx b3 [(t__0h).v], Es (List (Int × Int × ByteArray)) t__0 t__0h])
  refine alloc_ gok rfl H ?_; clear H; intro b21 w20 hx H
  clear hx
  replace H : Cx w0 fp0 S0 w20 [Bx b21 [(.slice none 0 0), (.slice none 0 0), (.slice none 0 0)], E (List Int) y11_0_0 h14, E (List Int) y11_0_1 h16, E (List Int) y11_0_2 h18, Bx b9 [(.slice none 0 0)], Bx b6 [(.slice none 0 0)], Bx b3 [(t__0h).v], Es (List (Int × Int × ByteArray)) t__0 t__0h] := H
  refine stA gok [(h14).v, (h16).v, (h18).v] rfl H rfl rfl rfl ?_; clear H; intro w23 H
  replace H : Cx w0 fp0 S0 w23 [Bx b21 [(h14).v, (h16).v, (h18).v], E (List Int) y11_0_0 h14, E (List Int) y11_0_1 h16, E (List Int) y11_0_2 h18, Bx b9 [(.slice none 0 0)], Bx b6 [(.slice none 0 0)], Bx b3 [(t__0h).v], Es (List (Int × Int × ByteArray)) t__0 t__0h] := H
  refine fld gok rfl rfl rfl rfl ?_
  refine load1 (H.bx 6 rfl (j := 0) rfl) ?_
  refine lenE (H.rs (α := List (Int × Int × ByteArray)) 7 rfl).len ?_
  obtain ⟨a24, e, hF25⟩ := bindS hF12; clear hF12
  refine arO e ?_; clear e
  refine fld gok rfl rfl rfl rfl ?_
  refine load1 (H.bx 0 rfl (j := 0) rfl) ?_
  obtain ⟨a26, e, hF27⟩ := bindS hF25; clear hF25
  refine arO e ?_; clear e
  obtain ⟨a34, e, hF35⟩ := bindS hF27; clear hF27
  obtain ⟨p32, m33, c28, c29, c30, c31⟩ := (H.ro (α := List Int) 1 rfl).at1 e; clear e
  refine idxE c28 c29 c30 ?_; clear c28 c29 c30
  refine load1 c31 ?_; clear c31
  refine heldX H [11, 12] (.fst 0 (.fst 2 (.fst 5 (.fst 7 (.fst 8 (.fst 1 (.fst 3 (.fst 6 (.fst 9 (.act 4 (.act 10 (.act 11 (.act 12 .done))))))))))))) mixed [] trivial (by kernel_rfl) ?_
  clear H; intro w36 H
  have hX : Ext w36 w36 := Upd.refl _ _
  have H0 := H
  refine anyH (fun _ => fld gok rfl rfl rfl rfl ⟨rfl, rfl⟩) ?_
  refine anyH (fun _ => fld gok rfl rfl rfl rfl ⟨rfl, rfl⟩) ?_
  refine load1X (H.bx 6 rfl (j := 0) rfl) ?_
  obtain ⟨a37, e, hF38⟩ := bindS hF35; clear hF35
  refine slSX (α := Int × Int × ByteArray) gok rfl rfl H 7 rfl e rfl rfl ?_; clear e; intro h39 HH; clear H; have H := HH; clear HH
  refine load1X (H.bx 7 rfl (j := 0) rfl) ?_
  obtain ⟨a41, e, hF42⟩ := bindS hF38; clear hF38
  refine slSX (α := Int × Int × ByteArray) gok rfl rfl H 8 rfl e rfl rfl ?_; clear e; intro h43 HH; clear H; have H := HH; clear HH
  obtain ⟨y45, e, hF46⟩ := bindS hF42; clear hF42
  obtain ⟨y45_0, rfl⟩ : ∃ z, z = y45 := ⟨_, rfl⟩
  have ey45 := e; clear e
  refine callSx (spec_tmOwn_c a37 h39 y45_0 ey45) H [1] rfl (persC persS persN) ?_; clear H ey45
  rintro _ _ w47 ⟨h48, rfl, rfl⟩ hx (H : Cx w0 fp0 S0 w47 [Es (List (Int × Int × ByteArray)) y45_0 h48, Es (List (Int × Int × ByteArray)) a41 h43, Es (List (Int × Int × ByteArray)) a37 h39, Bx b21 [(h14).v, (h16).v, (h18).v], E (List Int) y11_0_0 h14, E (List Int) y11_0_1 h16, E (List Int) y11_0_2 h18, Bx b9 [(.slice none 0 0)], Bx b6 [(.slice none 0 0)], Bx b3 [(t__0h).v], Es (List (Int × Int × ByteArray)) t__0 t__0h])
  replace hX := hX.trans0 hx; clear hx
  refine hold hX ?_
  obtain ⟨y50, e, hF51⟩ := bindS hF46; clear hF46
  obtain ⟨y50_0, rfl⟩ : ∃ z, z = y50 := ⟨_, rfl⟩
  have ey50 := e; clear e
  refine callSx (spec_tmOwn_c a41 h43 y50_0 ey50) H [1] rfl (persC persS persN) ?_; clear H ey50
  rintro _ _ w52 ⟨h53, rfl, rfl⟩ hx (H : Cx w0 fp0 S0 w52 [Es (List (Int × Int × ByteArray)) y50_0 h53, Es (List (Int × Int × ByteArray)) y45_0 h48, Es (List (Int × Int × ByteArray)) a41 h43, Es (List (Int × Int × ByteArray)) a37 h39, Bx b21 [(h14).v, (h16).v, (h18).v], E (List Int) y11_0_0 h14, E (List Int) y11_0_1 h16, E (List Int) y11_0_2 h18, Bx b9 [(.slice none 0 0)], Bx b6 [(.slice none 0 0)], Bx b3 [(t__0h).v], Es (List (Int × Int × ByteArray)) t__0 t__0h])
  replace hX := hX.trans0 hx; clear hx
  refine hold hX ?_
  replace H := H.sel [9, 0, 1, 2, 3, 4, 5, 6, 7, 8, 10, 11] rfl
  refine stA gok [(h48).v] rfl H rfl rfl rfl ?_; clear H; intro w55 H
  replace H : Cx w0 fp0 S0 w55 [Bx b6 [(h48).v], Es (List (Int × Int × ByteArray)) y50_0 h53, Es (List (Int × Int × ByteArray)) y45_0 h48, Es (List (Int × Int × ByteArray)) a41 h43, Es (List (Int × Int × ByteArray)) a37 h39, Bx b21 [(h14).v, (h16).v, (h18).v], E (List Int) y11_0_0 h14, E (List Int) y11_0_1 h16, E (List Int) y11_0_2 h18, Bx b9 [(.slice none 0 0)], Bx b3 [(t__0h).v], Es (List (Int × Int × ByteArray)) t__0 t__0h] := H
  refine hold trivial ?_
  replace H := H.sel [9, 0, 1, 2, 3, 4, 5, 6, 7, 8, 10, 11] rfl
  refine stA gok [(h53).v] rfl H rfl rfl rfl ?_; clear H; intro w56 H
  replace H : Cx w0 fp0 S0 w56 [Bx b9 [(h53).v], Bx b6 [(h48).v], Es (List (Int × Int × ByteArray)) y50_0 h53, Es (List (Int × Int × ByteArray)) y45_0 h48, Es (List (Int × Int × ByteArray)) a41 h43, Es (List (Int × Int × ByteArray)) a37 h39, Bx b21 [(h14).v, (h16).v, (h18).v], E (List Int) y11_0_0 h14, E (List Int) y11_0_1 h16, E (List Int) y11_0_2 h18, Bx b3 [(t__0h).v], Es (List (Int × Int × ByteArray)) t__0 t__0h] := H
  refine hold trivial ?_
  refine loadN [(h48).v] rfl (fun j u hj => H.bx 1 rfl hj) ?_
  refine loadN [(h53).v] rfl (fun j u hj => H.bx 0 rfl hj) ?_
  cases hF51
  exact ⟨_, _, rfl, ⟨h48, h53, rfl, rfl⟩, (H.sel [3, 2] rfl)⟩

theorem spec_hgList_c (l_ : List Int) (l_h : Hd) (to_ : List Int) (to_h : Hd) (y : List Int) (hF : F_spec_hgList l_ to_ = some y) :
    ConF Try.prog 95 #[(l_h).v, (to_h).v] [Es (List Int) l_ l_h, Es (List Int) to_ to_h] [] (fun v Γ' => ∃ z0 : Hd, v = (z0).v ∧ Γ' = [E (List Int) y z0]) := by
  intro w0 S0 fp0 hI hS
  have H : Cx w0 fp0 S0 w0 [Es (List Int) l_ l_h, Es (List Int) to_ to_h] := Cx.start hI hS
  clear hI hS
  refine enterC (args := [_, _]) gok Try.func95 rfl _ rfl rfl rfl ?_
  refine sq ?_
  refine lenE (H.rs (α := List Int) 0 rfl).len ?_
  have hmx61 := (H.rs (α := List Int) 0 rfl).max
  obtain ⟨r62, e, hF63⟩ := bindS hF; clear hF
  replace H := H.nil (α := Int)
  refine loopS _ l_.length (fun (k3 : Nat) (s58 : List Int) (g59 : Hd) => [(1, (to_h).v), (5, (g59).v), (8, (l_h).v), (9, (.int .i64 ((l_.length : Nat) : Int))), (10, (.int .i64 ((k3 : Nat) : Int)))]) (fun _ (s58 : List Int) (g59 : Hd) w' => Cx w0 fp0 S0 w' [Es (List Int) to_ to_h, E (List Int) s58 g59, Es (List Int) l_ l_h]) [] nilH e ⟨rfl, rfl, rfl, rfl, rfl, trivial⟩ (H.sel [2, 0, 1] rfl) ?_ ?_
  · clear H e
    rintro T66 k3 s58 g59 w65 o67 hk (H : Cx w0 fp0 S0 w65 [Es (List Int) to_ to_h, E (List Int) s58 g59, Es (List Int) l_ l_h]) hF68
    refine boolE (z := true) (ltLen hk) ?_
    refine sq ?_
    refine sq ?_
    obtain ⟨a75, e, hF76⟩ := bindS hF68; clear hF68
    obtain ⟨p73, m74, c69, c70, c71, c72⟩ := (H.rs (α := List Int) 2 rfl).at1 e; clear e
    refine idxE c69 c70 c71 ?_; clear c69 c70 c71
    refine load1 c72 ?_; clear c72
    obtain ⟨a83, e, hF84⟩ := bindS hF76; clear hF76
    obtain ⟨p81, m82, c77, c78, c79, c80⟩ := (H.rs (α := List Int) 0 rfl).at1 e; clear e
    refine idxE c77 c78 c79 ?_; clear c77 c78 c79
    refine load1 c80 ?_; clear c80
    refine lit1S (α := Int) gok rfl rfl rfl rfl H ?_; clear H; intro h86 w85 hx H
    clear hx
    obtain ⟨a88, e, hF89⟩ := bindS hF84; clear hF84
    replace H := H.sel [2, 0, 1, 3] rfl
    refine append_ (α := Int) gok rfl rfl rfl rfl H e ?_; clear e H; intro h91 w90 H
    refine arK hk hmx61 ?_
    have hs := Option.some.inj hF89; subst hs; clear hF89
    exact ⟨h91, ⟨rfl, rfl, rfl, rfl, rfl, trivial⟩, H.sel [1, 0, 2] rfl⟩
  · clear H e
    rintro T94 g96 w93 (H : Cx w0 fp0 S0 w93 [Es (List Int) to_ to_h, E (List Int) r62 g96, Es (List Int) l_ l_h])
    refine boolE (z := false) geLen ?_
    refine sq ?_
    cases hF63
    exact ⟨_, _, rfl, ⟨g96, rfl, rfl⟩, (H.sel [1] rfl).close ⟨cloE, trivial⟩⟩

theorem spec_hgMap_c (g__0 : Int) (g__1 : List (Int × Int × List Int × List Int)) (g__1h : Hd) (g__2 : List Int) (g__2h : Hd) (g__3 : List Int) (g__3h : Hd) (to_ : List Int) (to_h : Hd) (wires_ : Int) (y_0 : Int) (y_1 : List (Int × Int × List Int × List Int)) (y_2 : List Int) (y_3 : List Int) (hF : F_spec_hgMap (g__0, g__1, g__2, g__3) to_ wires_ = some (y_0, y_1, y_2, y_3)) :
    ConF Try.prog 85 #[(.agg #[(.int .i64 g__0), (g__1h).v, (g__2h).v, (g__3h).v]), (to_h).v, (.int .i64 wires_)] [Es (List (Int × Int × List Int × List Int)) g__1 g__1h, Es (List Int) g__2 g__2h, Es (List Int) g__3 g__3h, Es (List Int) to_ to_h] [] (fun v Γ' => ∃ z0 z1 z2 : Hd, v = (.agg #[(.int .i64 y_0), (z0).v, (z1).v, (z2).v]) ∧ Γ' = [E (List (Int × Int × List Int × List Int)) y_1 z0, E (List Int) y_2 z1, E (List Int) y_3 z2]) := by
  intro w0 S0 fp0 hI hS
  have H : Cx w0 fp0 S0 w0 [Es (List (Int × Int × List Int × List Int)) g__1 g__1h, Es (List Int) g__2 g__2h, Es (List Int) g__3 g__3h, Es (List Int) to_ to_h] := Cx.start hI hS
  clear hI hS
  refine enterC (args := [_, _, _]) gok Try.func85 rfl _ rfl rfl rfl ?_
  refine box_ H ?_; clear H; intro b6 w5 hx H
  clear hx
  replace H : Cx w0 fp0 S0 w5 [Bx b6 [(.int .i64 g__0), (g__1h).v, (g__2h).v, (g__3h).v], Es (List (Int × Int × List Int × List Int)) g__1 g__1h, Es (List Int) g__2 g__2h, Es (List Int) g__3 g__3h, Es (List Int) to_ to_h] := H
  refine alloc_ gok rfl H ?_; clear H; intro b9 w8 hx H
  clear hx
  replace H : Cx w0 fp0 S0 w8 [Bx b9 [(.int .i64 0), (.slice none 0 0), (.slice none 0 0), (.slice none 0 0)], Bx b6 [(.int .i64 g__0), (g__1h).v, (g__2h).v, (g__3h).v], Es (List (Int × Int × List Int × List Int)) g__1 g__1h, Es (List Int) g__2 g__2h, Es (List Int) g__3 g__3h, Es (List Int) to_ to_h] := H
  obtain ⟨r80, hF82, hF81⟩ := bindS hF; clear hF
  refine heldJ H [11] (.fst 0 (.fst 1 (.fst 3 (.fst 5 (.fst 7 (.fst 2 (.fst 6 (.alts (.alt 4 (.alts (.alt 8 (.fst 9 (.act 10 (.act 11 .done))) (.alt 10 (.act 8 (.fst 9 (.act 11 .done))) .no))) (.alt 10 (.act 4 (.act 8 (.fst 9 (.act 11 .done)))) .no)))))))))) mixed [] trivial (by kernel_rfl) (fun (q83 : (Int × List Int × List Int) × (Hd × Hd × Nat)) => [(1, (to_h).v), (3, (.pointer (some ⟨b6, 0, none⟩))), (6, (.pointer (some ⟨b9, 0, none⟩))), (7, (.pointer (some ⟨q83.2.2.2, 0, none⟩)))]) (fun (q83 : (Int × List Int × List Int) × (Hd × Hd × Nat)) w' => (q83.1.1, q83.1.2.1, q83.1.2.2) = r80 ∧ Cx w0 fp0 S0 w' [Es (List Int) to_ to_h, Bx b6 [(.int .i64 g__0), (g__1h).v, (g__2h).v, (g__3h).v], Es (List (Int × Int × List Int × List Int)) g__1 g__1h, Es (List Int) g__2 g__2h, Es (List Int) g__3 g__3h, Bx b9 [(.int .i64 0), (.slice none 0 0), (.slice none 0 0), (.slice none 0 0)], Bx q83.2.2.2 [(.int .i64 q83.1.1), (.slice none 0 0), (q83.2.1).v, (q83.2.2.1).v], E (List Int) q83.1.2.1 q83.2.1, E (List Int) q83.1.2.2 q83.2.2.1]) ?_ ?_
  · skip
    clear H; intro w84 H
    have hX : Ext w84 w84 := Upd.refl _ _
    have H0 := H
    refine anyH (fun _ => fld gok rfl rfl rfl rfl ⟨rfl, rfl⟩) ?_
    refine anyH (fun _ => fld gok rfl rfl rfl rfl ⟨rfl, rfl⟩) ?_
    refine load1X (H.bx 1 rfl (j := 2) rfl) ?_
    refine load1X (H.bx 1 rfl (j := 3) rfl) ?_
    refine both ?_ ?_
    · skip
      obtain ⟨y99, e, hF100⟩ := bindS hF82; clear hF82
      have ey99 := e; clear e
      refine callFx (spec_hgList_c g__2 g__2h to_ to_h y99 ey99) H ⟨Vw.sh 3 rfl, Vw.sh 5 rfl, trivial⟩ ?_; clear H ey99
      rintro _ _ w101 ⟨h102, rfl, rfl⟩ hx (H : Cx w0 fp0 S0 w101 [E (List Int) y99 h102, Bx b9 [(.int .i64 0), (.slice none 0 0), (.slice none 0 0), (.slice none 0 0)], Bx b6 [(.int .i64 g__0), (g__1h).v, (g__2h).v, (g__3h).v], Es (List (Int × Int × List Int × List Int)) g__1 g__1h, Es (List Int) g__2 g__2h, Es (List Int) g__3 g__3h, Es (List Int) to_ to_h])
      replace hX := hX.trans0 hx; clear hx
      refine hold hX ?_
      refine both ?_ ?_
      · skip
        obtain ⟨y113, e, hF114⟩ := bindS hF100; clear hF100
        have ey113 := e; clear e
        refine callFx (spec_hgList_c g__3 g__3h to_ to_h y113 ey113) H ⟨Vw.sh 5 rfl, Vw.sh 6 rfl, trivial⟩ ?_; clear H ey113
        rintro _ _ w115 ⟨h116, rfl, rfl⟩ hx (H : Cx w0 fp0 S0 w115 [E (List Int) y113 h116, E (List Int) y99 h102, Bx b9 [(.int .i64 0), (.slice none 0 0), (.slice none 0 0), (.slice none 0 0)], Bx b6 [(.int .i64 g__0), (g__1h).v, (g__2h).v, (g__3h).v], Es (List (Int × Int × List Int × List Int)) g__1 g__1h, Es (List Int) g__2 g__2h, Es (List Int) g__3 g__3h, Es (List Int) to_ to_h])
        replace hX := hX.trans0 hx; clear hx
        refine hold hX ?_
        refine anyH (fun _ => build_ (cs := #[(.int .i64 wires_), (.slice none 0 0), (h102).v, (h116).v]) gok rfl rfl rfl ⟨rfl, rfl⟩) ?_
        refine alloc_ gok rfl H ?_; clear H; intro b119 w118 hx H
        replace hX := hX.trans0 hx; clear hx
        replace H : Cx w0 fp0 S0 w118 [Bx b119 [(.int .i64 0), (.slice none 0 0), (.slice none 0 0), (.slice none 0 0)], E (List Int) y113 h116, E (List Int) y99 h102, Bx b9 [(.int .i64 0), (.slice none 0 0), (.slice none 0 0), (.slice none 0 0)], Bx b6 [(.int .i64 g__0), (g__1h).v, (g__2h).v, (g__3h).v], Es (List (Int × Int × List Int × List Int)) g__1 g__1h, Es (List Int) g__2 g__2h, Es (List Int) g__3 g__3h, Es (List Int) to_ to_h] := H
        refine hold hX ?_
        refine stA gok [(.int .i64 wires_), (.slice none 0 0), (h102).v, (h116).v] rfl H rfl rfl rfl ?_; clear H; intro w121 H
        replace H : Cx w0 fp0 S0 w121 [Bx b119 [(.int .i64 wires_), (.slice none 0 0), (h102).v, (h116).v], E (List Int) y113 h116, E (List Int) y99 h102, Bx b9 [(.int .i64 0), (.slice none 0 0), (.slice none 0 0), (.slice none 0 0)], Bx b6 [(.int .i64 g__0), (g__1h).v, (g__2h).v, (g__3h).v], Es (List (Int × Int × List Int × List Int)) g__1 g__1h, Es (List Int) g__2 g__2h, Es (List Int) g__3 g__3h, Es (List Int) to_ to_h] := H
        refine hold trivial ?_
        exact ⟨((wires_, y99, y113), (h102, h116, b119)), ⟨rfl, rfl, rfl, rfl, trivial⟩, Option.some.inj hF114, H.sel [8, 4, 5, 6, 7, 3, 0, 2, 1] rfl⟩
      · skip
        refine both ?_ ?_
        · skip
          obtain ⟨a122, eq123, hF124⟩ := bindS hF100; clear hF100
          refine alloc_ gok rfl H ?_; clear H; intro b126 w125 hx H
          replace hX := hX.trans0 hx; clear hx
          replace H : Cx w0 fp0 S0 w125 [Bx b126 [(.int .i64 0), (.slice none 0 0), (.slice none 0 0), (.slice none 0 0)], E (List Int) y99 h102, Bx b9 [(.int .i64 0), (.slice none 0 0), (.slice none 0 0), (.slice none 0 0)], Bx b6 [(.int .i64 g__0), (g__1h).v, (g__2h).v, (g__3h).v], Es (List (Int × Int × List Int × List Int)) g__1 g__1h, Es (List Int) g__2 g__2h, Es (List Int) g__3 g__3h, Es (List Int) to_ to_h] := H
          refine hold hX ?_
          have e := eq123; clear eq123
          have ea122 := e; clear e
          refine callFx (spec_hgList_c g__3 g__3h to_ to_h a122 ea122) H ⟨Vw.sh 6 rfl, Vw.sh 7 rfl, trivial⟩ ?_; clear H ea122
          rintro _ _ w128 ⟨h129, rfl, rfl⟩ hx (H : Cx w0 fp0 S0 w128 [E (List Int) a122 h129, Bx b126 [(.int .i64 0), (.slice none 0 0), (.slice none 0 0), (.slice none 0 0)], E (List Int) y99 h102, Bx b9 [(.int .i64 0), (.slice none 0 0), (.slice none 0 0), (.slice none 0 0)], Bx b6 [(.int .i64 g__0), (g__1h).v, (g__2h).v, (g__3h).v], Es (List (Int × Int × List Int × List Int)) g__1 g__1h, Es (List Int) g__2 g__2h, Es (List Int) g__3 g__3h, Es (List Int) to_ to_h])
          replace hX := hX.trans0 hx; clear hx
          refine hold hX ?_
          refine anyH (fun _ => build_ (cs := #[(.int .i64 wires_), (.slice none 0 0), (h102).v, (h129).v]) gok rfl rfl rfl ⟨rfl, rfl⟩) ?_
          replace H := H.sel [1, 0, 2, 3, 4, 5, 6, 7, 8] rfl
          refine stA gok [(.int .i64 wires_), (.slice none 0 0), (h102).v, (h129).v] rfl H rfl rfl rfl ?_; clear H; intro w131 H
          replace H : Cx w0 fp0 S0 w131 [Bx b126 [(.int .i64 wires_), (.slice none 0 0), (h102).v, (h129).v], E (List Int) a122 h129, E (List Int) y99 h102, Bx b9 [(.int .i64 0), (.slice none 0 0), (.slice none 0 0), (.slice none 0 0)], Bx b6 [(.int .i64 g__0), (g__1h).v, (g__2h).v, (g__3h).v], Es (List (Int × Int × List Int × List Int)) g__1 g__1h, Es (List Int) g__2 g__2h, Es (List Int) g__3 g__3h, Es (List Int) to_ to_h] := H
          refine hold trivial ?_
          exact ⟨((wires_, y99, a122), (h102, h129, b126)), ⟨rfl, rfl, rfl, rfl, trivial⟩, Option.some.inj hF124, H.sel [8, 4, 5, 6, 7, 3, 0, 2, 1] rfl⟩
        · skip
          exact trivial
    · skip
      refine both ?_ ?_
      · skip
        obtain ⟨a132, eq133, hF134⟩ := bindS hF82; clear hF82
        obtain ⟨a135, eq136, hF137⟩ := bindS hF134; clear hF134
        refine alloc_ gok rfl H ?_; clear H; intro b139 w138 hx H
        replace hX := hX.trans0 hx; clear hx
        replace H : Cx w0 fp0 S0 w138 [Bx b139 [(.int .i64 0), (.slice none 0 0), (.slice none 0 0), (.slice none 0 0)], Bx b9 [(.int .i64 0), (.slice none 0 0), (.slice none 0 0), (.slice none 0 0)], Bx b6 [(.int .i64 g__0), (g__1h).v, (g__2h).v, (g__3h).v], Es (List (Int × Int × List Int × List Int)) g__1 g__1h, Es (List Int) g__2 g__2h, Es (List Int) g__3 g__3h, Es (List Int) to_ to_h] := H
        refine hold hX ?_
        have e := eq133; clear eq133
        have ea132 := e; clear e
        refine callFx (spec_hgList_c g__2 g__2h to_ to_h a132 ea132) H ⟨Vw.sh 4 rfl, Vw.sh 6 rfl, trivial⟩ ?_; clear H ea132
        rintro _ _ w141 ⟨h142, rfl, rfl⟩ hx (H : Cx w0 fp0 S0 w141 [E (List Int) a132 h142, Bx b139 [(.int .i64 0), (.slice none 0 0), (.slice none 0 0), (.slice none 0 0)], Bx b9 [(.int .i64 0), (.slice none 0 0), (.slice none 0 0), (.slice none 0 0)], Bx b6 [(.int .i64 g__0), (g__1h).v, (g__2h).v, (g__3h).v], Es (List (Int × Int × List Int × List Int)) g__1 g__1h, Es (List Int) g__2 g__2h, Es (List Int) g__3 g__3h, Es (List Int) to_ to_h])
        replace hX := hX.trans0 hx; clear hx
        refine hold hX ?_
        have e := eq136; clear eq136
        have ea135 := e; clear e
        refine callFx (spec_hgList_c g__3 g__3h to_ to_h a135 ea135) H ⟨Vw.sh 6 rfl, Vw.sh 7 rfl, trivial⟩ ?_; clear H ea135
        rintro _ _ w144 ⟨h145, rfl, rfl⟩ hx (H : Cx w0 fp0 S0 w144 [E (List Int) a135 h145, E (List Int) a132 h142, Bx b139 [(.int .i64 0), (.slice none 0 0), (.slice none 0 0), (.slice none 0 0)], Bx b9 [(.int .i64 0), (.slice none 0 0), (.slice none 0 0), (.slice none 0 0)], Bx b6 [(.int .i64 g__0), (g__1h).v, (g__2h).v, (g__3h).v], Es (List (Int × Int × List Int × List Int)) g__1 g__1h, Es (List Int) g__2 g__2h, Es (List Int) g__3 g__3h, Es (List Int) to_ to_h])
        replace hX := hX.trans0 hx; clear hx
        refine hold hX ?_
        refine anyH (fun _ => build_ (cs := #[(.int .i64 wires_), (.slice none 0 0), (h142).v, (h145).v]) gok rfl rfl rfl ⟨rfl, rfl⟩) ?_
        replace H := H.sel [2, 0, 1, 3, 4, 5, 6, 7, 8] rfl
        refine stA gok [(.int .i64 wires_), (.slice none 0 0), (h142).v, (h145).v] rfl H rfl rfl rfl ?_; clear H; intro w147 H
        replace H : Cx w0 fp0 S0 w147 [Bx b139 [(.int .i64 wires_), (.slice none 0 0), (h142).v, (h145).v], E (List Int) a135 h145, E (List Int) a132 h142, Bx b9 [(.int .i64 0), (.slice none 0 0), (.slice none 0 0), (.slice none 0 0)], Bx b6 [(.int .i64 g__0), (g__1h).v, (g__2h).v, (g__3h).v], Es (List (Int × Int × List Int × List Int)) g__1 g__1h, Es (List Int) g__2 g__2h, Es (List Int) g__3 g__3h, Es (List Int) to_ to_h] := H
        refine hold trivial ?_
        exact ⟨((wires_, a132, a135), (h142, h145, b139)), ⟨rfl, rfl, rfl, rfl, trivial⟩, Option.some.inj hF137, H.sel [8, 4, 5, 6, 7, 3, 0, 2, 1] rfl⟩
      · skip
        exact trivial
  · clear hF82 H
    rintro T149 ⟨⟨s75_0, s75_1, s75_2⟩, ⟨g76_0, g76_1, g76_2⟩⟩ w148 ⟨hr, (H : Cx w0 fp0 S0 w148 [Es (List Int) to_ to_h, Bx b6 [(.int .i64 g__0), (g__1h).v, (g__2h).v, (g__3h).v], Es (List (Int × Int × List Int × List Int)) g__1 g__1h, Es (List Int) g__2 g__2h, Es (List Int) g__3 g__3h, Bx b9 [(.int .i64 0), (.slice none 0 0), (.slice none 0 0), (.slice none 0 0)], Bx g76_2 [(.int .i64 s75_0), (.slice none 0 0), (g76_0).v, (g76_1).v], E (List Int) s75_1 g76_0, E (List Int) s75_2 g76_1])⟩
    subst hr
    refine sq ?_
    refine fld gok rfl rfl rfl rfl ?_
    refine load1 (H.bx 1 rfl (j := 1) rfl) ?_
    refine lenE (H.rs (α := List (Int × Int × List Int × List Int)) 2 rfl).len ?_
    have hmx246 := (H.rs (α := List (Int × Int × List Int × List Int)) 2 rfl).max
    obtain ⟨r247, e, hF248⟩ := bindS hF81; clear hF81
    replace H := H.nil (α := Int × Int × List Int × List Int)
    refine loopS _ g__1.length (fun (k150 : Nat) (s243 : List (Int × Int × List Int × List Int)) (g244 : Hd) => [(1, (to_h).v), (6, (.pointer (some ⟨b9, 0, none⟩))), (7, (.pointer (some ⟨g76_2, 0, none⟩))), (21, (g__1h).v), (22, (.int .i64 ((g__1.length : Nat) : Int))), (23, (.int .i64 ((k150 : Nat) : Int)))]) (fun _ (s243 : List (Int × Int × List Int × List Int)) (g244 : Hd) w' => Cx w0 fp0 S0 w' [Es (List Int) to_ to_h, Bx b9 [(.int .i64 0), (.slice none 0 0), (.slice none 0 0), (.slice none 0 0)], Bx g76_2 [(.int .i64 s75_0), (g244).v, (g76_0).v, (g76_1).v], E (List (Int × Int × List Int × List Int)) s243 g244, E (List Int) s75_1 g76_0, E (List Int) s75_2 g76_1, Es (List (Int × Int × List Int × List Int)) g__1 g__1h]) [] nilH e ⟨rfl, rfl, rfl, rfl, rfl, rfl, trivial⟩ (H.sel [1, 6, 7, 0, 8, 9, 3] rfl) ?_ ?_
    · clear H e
      rintro T251 k150 s243 g244 w250 o252 hk (H : Cx w0 fp0 S0 w250 [Es (List Int) to_ to_h, Bx b9 [(.int .i64 0), (.slice none 0 0), (.slice none 0 0), (.slice none 0 0)], Bx g76_2 [(.int .i64 s75_0), (g244).v, (g76_0).v, (g76_1).v], E (List (Int × Int × List Int × List Int)) s243 g244, E (List Int) s75_1 g76_0, E (List Int) s75_2 g76_1, Es (List (Int × Int × List Int × List Int)) g__1 g__1h]) hF253
      refine boolE (z := true) (ltLen hk) ?_
      refine sq ?_
      refine sq ?_
      obtain ⟨a260, e, hF261⟩ := bindS hF253; clear hF253
      have HH := H; clear H; obtain ⟨p258, m259, g262, c254, c255, c256, c257, H⟩ := HH.el (α := Int × Int × List Int × List Int) 6 rfl e; clear HH
      clear e
      obtain ⟨a260_0, a260_1, a260_2, a260_3⟩ := a260
      obtain ⟨_, _, h264, h265⟩ := g262
      replace H := H.part (β := List Int) a260_2 (h264 : Hd) 0 rfl (fun S h => (And.left (And.right (And.right h))))
      replace H := H.part (β := List Int) a260_3 (h265 : Hd) 1 rfl (fun S h => (And.right (And.right (And.right h))))
      replace H := H.sel [0, 1, 3, 4, 5, 6, 7, 8, 9] rfl
      refine idxE c254 c255 c256 ?_; clear c254 c255 c256
      refine loadN [(.int .i64 a260_0), (.int .i64 a260_1), (h264).v, (h265).v] rfl c257 ?_; clear c257
      refine alloc_ gok rfl H ?_; clear H; intro b269 w268 hx H
      clear hx
      replace H : Cx w0 fp0 S0 w268 [Bx b269 [(.int .i64 0), (.int .i64 0), (.slice none 0 0), (.slice none 0 0)], Es (List Int) a260_3 h265, Es (List Int) a260_2 h264, Es (List Int) to_ to_h, Bx b9 [(.int .i64 0), (.slice none 0 0), (.slice none 0 0), (.slice none 0 0)], Bx g76_2 [(.int .i64 s75_0), (g244).v, (g76_0).v, (g76_1).v], E (List (Int × Int × List Int × List Int)) s243 g244, E (List Int) s75_1 g76_0, E (List Int) s75_2 g76_1, Es (List (Int × Int × List Int × List Int)) g__1 g__1h] := H
      refine stA gok [(.int .i64 a260_0), (.int .i64 a260_1), (h264).v, (h265).v] rfl H rfl rfl rfl ?_; clear H; intro w271 H
      replace H : Cx w0 fp0 S0 w271 [Bx b269 [(.int .i64 a260_0), (.int .i64 a260_1), (h264).v, (h265).v], Es (List Int) a260_3 h265, Es (List Int) a260_2 h264, Es (List Int) to_ to_h, Bx b9 [(.int .i64 0), (.slice none 0 0), (.slice none 0 0), (.slice none 0 0)], Bx g76_2 [(.int .i64 s75_0), (g244).v, (g76_0).v, (g76_1).v], E (List (Int × Int × List Int × List Int)) s243 g244, E (List Int) s75_1 g76_0, E (List Int) s75_2 g76_1, Es (List (Int × Int × List Int × List Int)) g__1 g__1h] := H
      refine heldX H [16, 18, 17] (.fst 0 (.fst 2 (.fst 4 (.fst 6 (.fst 8 (.fst 10 (.fst 12 (.fst 1 (.fst 3 (.fst 5 (.fst 7 (.fst 11 (.act 9 (.act 13 (.fst 14 (.act 15 (.act 16 (.act 17 (.act 18 .done))))))))))))))))))) mixed [] trivial (by kernel_rfl) ?_
      clear H; intro w272 H
      have hX : Ext w272 w272 := Upd.refl _ _
      have H0 := H
      refine anyH (fun _ => fld gok rfl rfl rfl rfl ⟨rfl, rfl⟩) ?_
      refine anyH (fun _ => fld gok rfl rfl rfl rfl ⟨rfl, rfl⟩) ?_
      refine anyH (fun _ => fld gok rfl rfl rfl rfl ⟨rfl, rfl⟩) ?_
      refine anyH (fun _ => fld gok rfl rfl rfl rfl ⟨rfl, rfl⟩) ?_
      refine anyH (fun _ => fld gok rfl rfl rfl rfl ⟨rfl, rfl⟩) ?_
      refine load1X (H.bx 5 rfl (j := 1) rfl) ?_
      refine load1X (H.bx 0 rfl (j := 0) rfl) ?_
      refine load1X (H.bx 0 rfl (j := 1) rfl) ?_
      refine load1X (H.bx 0 rfl (j := 2) rfl) ?_
      refine load1X (H.bx 0 rfl (j := 3) rfl) ?_
      obtain ⟨y273, e, hF274⟩ := bindS hF261; clear hF261
      have ey273 := e; clear e
      refine callFx (spec_hgList_c a260_2 h264 to_ to_h y273 ey273) H ⟨Vw.sh 2 rfl, Vw.sh 3 rfl, trivial⟩ ?_; clear H ey273
      rintro _ _ w275 ⟨h276, rfl, rfl⟩ hx (H : Cx w0 fp0 S0 w275 [E (List Int) y273 h276, Bx b269 [(.int .i64 a260_0), (.int .i64 a260_1), (h264).v, (h265).v], Es (List Int) a260_3 h265, Es (List Int) a260_2 h264, Es (List Int) to_ to_h, Bx b9 [(.int .i64 0), (.slice none 0 0), (.slice none 0 0), (.slice none 0 0)], Bx g76_2 [(.int .i64 s75_0), (g244).v, (g76_0).v, (g76_1).v], E (List (Int × Int × List Int × List Int)) s243 g244, E (List Int) s75_1 g76_0, E (List Int) s75_2 g76_1, Es (List (Int × Int × List Int × List Int)) g__1 g__1h])
      replace hX := hX.trans0 hx; clear hx
      refine hold hX ?_
      obtain ⟨y278, e, hF279⟩ := bindS hF274; clear hF274
      have ey278 := e; clear e
      refine callFx (spec_hgList_c a260_3 h265 to_ to_h y278 ey278) H ⟨Vw.sh 2 rfl, Vw.sh 4 rfl, trivial⟩ ?_; clear H ey278
      rintro _ _ w280 ⟨h281, rfl, rfl⟩ hx (H : Cx w0 fp0 S0 w280 [E (List Int) y278 h281, E (List Int) y273 h276, Bx b269 [(.int .i64 a260_0), (.int .i64 a260_1), (h264).v, (h265).v], Es (List Int) a260_3 h265, Es (List Int) a260_2 h264, Es (List Int) to_ to_h, Bx b9 [(.int .i64 0), (.slice none 0 0), (.slice none 0 0), (.slice none 0 0)], Bx g76_2 [(.int .i64 s75_0), (g244).v, (g76_0).v, (g76_1).v], E (List (Int × Int × List Int × List Int)) s243 g244, E (List Int) s75_1 g76_0, E (List Int) s75_2 g76_1, Es (List (Int × Int × List Int × List Int)) g__1 g__1h])
      replace hX := hX.trans0 hx; clear hx
      refine hold hX ?_
      refine anyH (fun _ => build_ (cs := #[(.int .i64 a260_0), (.int .i64 a260_1), (h276).v, (h281).v]) gok rfl rfl rfl ⟨rfl, rfl⟩) ?_
      replace H := H.sel [1, 0, 2, 3, 4, 5, 6, 7, 8, 9, 10, 11] rfl
      replace H := H.join (α := List Int) (β := List Int)
      replace H := H.sc (α := Int) a260_1
      replace H := H.join (α := Int) (β := List Int × List Int)
      replace H := H.sc (α := Int) a260_0
      replace H := H.join (α := Int) (β := Int × List Int × List Int)
      refine lit1 (α := Int × Int × List Int × List Int) (g := ((), (), h276, h281)) gok rfl rfl rfl rfl rfl H ?_; clear H; intro h284 w283 hx H
      replace hX := hX.trans0 hx; clear hx
      refine hold hX ?_
      obtain ⟨a291, e, hF292⟩ := bindS hF279; clear hF279
      replace H := H.sel [7, 0, 1, 2, 3, 4, 5, 6, 8, 9, 10] rfl
      refine append_ (α := Int × Int × List Int × List Int) gok rfl rfl rfl rfl H e ?_; clear e H; intro h294 w293 H
      refine hold trivial ?_
      refine fld gok rfl rfl rfl rfl ?_
      refine hold trivial ?_
      replace H := H.sel [6, 0, 1, 2, 3, 4, 5, 7, 8, 9] rfl
      refine stB (j := 1) H rfl rfl ?_; clear H; intro w296 H
      replace H : Cx w0 fp0 S0 w296 [Bx g76_2 [(.int .i64 s75_0), (h294).v, (g76_0).v, (g76_1).v], E (List (Int × Int × List Int × List Int)) a291 h294, Bx b269 [(.int .i64 a260_0), (.int .i64 a260_1), (h264).v, (h265).v], Es (List Int) a260_3 h265, Es (List Int) a260_2 h264, Es (List Int) to_ to_h, Bx b9 [(.int .i64 0), (.slice none 0 0), (.slice none 0 0), (.slice none 0 0)], E (List Int) s75_1 g76_0, E (List Int) s75_2 g76_1, Es (List (Int × Int × List Int × List Int)) g__1 g__1h] := H
      refine hold trivial ?_
      refine arK hk hmx246 ?_
      have hs := Option.some.inj hF292; subst hs; clear hF292
      exact ⟨h294, ⟨rfl, rfl, rfl, rfl, rfl, rfl, trivial⟩, H.sel [5, 6, 0, 1, 7, 8, 9] rfl⟩
    · clear H e
      rintro T298 g300 w297 (H : Cx w0 fp0 S0 w297 [Es (List Int) to_ to_h, Bx b9 [(.int .i64 0), (.slice none 0 0), (.slice none 0 0), (.slice none 0 0)], Bx g76_2 [(.int .i64 s75_0), (g300).v, (g76_0).v, (g76_1).v], E (List (Int × Int × List Int × List Int)) r247 g300, E (List Int) s75_1 g76_0, E (List Int) s75_2 g76_1, Es (List (Int × Int × List Int × List Int)) g__1 g__1h])
      refine boolE (z := false) geLen ?_
      refine sq ?_
      refine loadN [(.int .i64 s75_0), (g300).v, (g76_0).v, (g76_1).v] rfl (fun j u hj => H.bx 2 rfl hj) ?_
      replace H := H.sel [1, 0, 2, 3, 4, 5, 6] rfl
      refine stA gok [(.int .i64 s75_0), (g300).v, (g76_0).v, (g76_1).v] rfl H rfl rfl rfl ?_; clear H; intro w302 H
      replace H : Cx w0 fp0 S0 w302 [Bx b9 [(.int .i64 s75_0), (g300).v, (g76_0).v, (g76_1).v], Es (List Int) to_ to_h, Bx g76_2 [(.int .i64 s75_0), (g300).v, (g76_0).v, (g76_1).v], E (List (Int × Int × List Int × List Int)) r247 g300, E (List Int) s75_1 g76_0, E (List Int) s75_2 g76_1, Es (List (Int × Int × List Int × List Int)) g__1 g__1h] := H
      refine loadN [(.int .i64 s75_0), (g300).v, (g76_0).v, (g76_1).v] rfl (fun j u hj => H.bx 0 rfl hj) ?_
      cases hF248
      exact ⟨_, _, rfl, ⟨g300, g76_0, g76_1, rfl, rfl⟩, (H.sel [3, 4, 5] rfl).close ⟨cloE, cloE, cloE, trivial⟩⟩

theorem spec_hgOwn_c (g__0 : Int) (g__1 : List (Int × Int × List Int × List Int)) (g__1h : Hd) (g__2 : List Int) (g__2h : Hd) (g__3 : List Int) (g__3h : Hd) (y_0 : Int) (y_1 : List (Int × Int × List Int × List Int)) (y_2 : List Int) (y_3 : List Int) (hF : F_spec_hgOwn (g__0, g__1, g__2, g__3) = some (y_0, y_1, y_2, y_3)) :
    ConF Try.prog 84 #[(.agg #[(.int .i64 g__0), (g__1h).v, (g__2h).v, (g__3h).v])] [Es (List (Int × Int × List Int × List Int)) g__1 g__1h, Es (List Int) g__2 g__2h, Es (List Int) g__3 g__3h] [] (fun v Γ' => ∃ z0 z1 z2 : Hd, v = (.agg #[(.int .i64 y_0), (z0).v, (z1).v, (z2).v]) ∧ Γ' = [E (List (Int × Int × List Int × List Int)) y_1 z0, E (List Int) y_2 z1, E (List Int) y_3 z2]) := by
  intro w0 S0 fp0 hI hS
  have H : Cx w0 fp0 S0 w0 [Es (List (Int × Int × List Int × List Int)) g__1 g__1h, Es (List Int) g__2 g__2h, Es (List Int) g__3 g__3h] := Cx.start hI hS
  clear hI hS
  refine enterC (args := [_]) gok Try.func84 rfl _ rfl rfl rfl ?_
  refine box_ H ?_; clear H; intro b5 w4 hx H
  clear hx
  replace H : Cx w0 fp0 S0 w4 [Bx b5 [(.int .i64 g__0), (g__1h).v, (g__2h).v, (g__3h).v], Es (List (Int × Int × List Int × List Int)) g__1 g__1h, Es (List Int) g__2 g__2h, Es (List Int) g__3 g__3h] := H
  refine alloc_ gok rfl H ?_; clear H; intro b8 w7 hx H
  clear hx
  replace H : Cx w0 fp0 S0 w7 [Bx b8 [(.int .i64 0), (.slice none 0 0), (.slice none 0 0), (.slice none 0 0)], Bx b5 [(.int .i64 g__0), (g__1h).v, (g__2h).v, (g__3h).v], Es (List (Int × Int × List Int × List Int)) g__1 g__1h, Es (List Int) g__2 g__2h, Es (List Int) g__3 g__3h] := H
  refine fld gok rfl rfl rfl rfl ?_
  refine load1 (H.bx 1 rfl (j := 0) rfl) ?_
  obtain ⟨a10, e, hF11⟩ := bindS hF; clear hF
  refine make_ (α := Int) gok rfl rfl rfl rfl (makeCO_of e) H ?_; clear e H; intro h13 w12 hx H
  clear hx
  refine sq ?_
  refine lenE (H.ro (α := List Int) 0 rfl).len ?_
  have hmx40 := (H.ro (α := List Int) 0 rfl).max
  obtain ⟨r41, e, hF42⟩ := bindS hF11; clear hF11
  refine loopS _ a10.length (fun (k15 : Nat) (s38 : List Int) (_ : Unit) => [(1, (.pointer (some ⟨b5, 0, none⟩))), (2, (.pointer (some ⟨b8, 0, none⟩))), (3, (h13).v), (9, (.int .i64 ((a10.length : Nat) : Int))), (10, (.int .i64 ((k15 : Nat) : Int)))]) (fun _ (s38 : List Int) (_ : Unit) w' => Cx w0 fp0 S0 w' [Bx b5 [(.int .i64 g__0), (g__1h).v, (g__2h).v, (g__3h).v], Es (List (Int × Int × List Int × List Int)) g__1 g__1h, Es (List Int) g__2 g__2h, Es (List Int) g__3 g__3h, Bx b8 [(.int .i64 0), (.slice none 0 0), (.slice none 0 0), (.slice none 0 0)], E (List Int) s38 h13]) a10 () e ⟨rfl, rfl, rfl, rfl, rfl, trivial⟩ (H.sel [2, 3, 4, 5, 1, 0] rfl) ?_ ?_
  · clear H e
    rintro T44 k15 s38 _ w43 o45 hk (H : Cx w0 fp0 S0 w43 [Bx b5 [(.int .i64 g__0), (g__1h).v, (g__2h).v, (g__3h).v], Es (List (Int × Int × List Int × List Int)) g__1 g__1h, Es (List Int) g__2 g__2h, Es (List Int) g__3 g__3h, Bx b8 [(.int .i64 0), (.slice none 0 0), (.slice none 0 0), (.slice none 0 0)], E (List Int) s38 h13]) hF46
    refine boolE (z := true) (ltLen hk) ?_
    refine sq ?_
    refine sq ?_
    obtain ⟨a53, e, hF54⟩ := bindS hF46; clear hF46
    have ea53 := e; clear e
    obtain ⟨p51, m52, c47, c48, c49⟩ := (H.ro (α := List Int) 5 rfl).setp ea53
    refine idxE c47 c48 c49 ?_
    replace H := H.sel [5, 0, 1, 2, 3, 4] rfl
    refine setS (α := Int) H c47 c48 ea53 ?_; clear H c47 c48 c49 ea53; intro w55 H
    refine arK hk hmx40 ?_
    have hs := Option.some.inj hF54; subst hs; clear hF54
    exact ⟨(), ⟨rfl, rfl, rfl, rfl, rfl, trivial⟩, H.sel [1, 2, 3, 4, 5, 0] rfl⟩
  · clear H e
    rintro T57 _ w56 (H : Cx w0 fp0 S0 w56 [Bx b5 [(.int .i64 g__0), (g__1h).v, (g__2h).v, (g__3h).v], Es (List (Int × Int × List Int × List Int)) g__1 g__1h, Es (List Int) g__2 g__2h, Es (List Int) g__3 g__3h, Bx b8 [(.int .i64 0), (.slice none 0 0), (.slice none 0 0), (.slice none 0 0)], E (List Int) r41 h13])
    refine boolE (z := false) geLen ?_
    refine sq ?_
    refine loadN [(.int .i64 g__0), (g__1h).v, (g__2h).v, (g__3h).v] rfl (fun j u hj => H.bx 0 rfl hj) ?_
    refine fld gok rfl rfl rfl rfl ?_
    refine load1 (H.bx 0 rfl (j := 0) rfl) ?_
    obtain ⟨y60, e, hF61⟩ := bindS hF42; clear hF42
    obtain ⟨y60_0, y60_1, y60_2, y60_3⟩ := y60
    have ey60 := e; clear e
    refine callF (spec_hgMap_c g__0 g__1 g__1h g__2 g__2h g__3 g__3h r41 h13 g__0 y60_0 y60_1 y60_2 y60_3 ey60) (Γi := []) H ⟨Vw.sh 1 rfl, Vw.sh 2 rfl, Vw.sh 3 rfl, Vw.own 5 rfl, trivial⟩ ?_; clear H ey60
    rintro _ _ w62 ⟨h63, h65, h67, rfl, rfl⟩ (H : Cx w0 fp0 S0 w62 [E (List (Int × Int × List Int × List Int)) y60_1 h63, E (List Int) y60_2 h65, E (List Int) y60_3 h67, Bx b5 [(.int .i64 g__0), (g__1h).v, (g__2h).v, (g__3h).v], Es (List (Int × Int × List Int × List Int)) g__1 g__1h, Es (List Int) g__2 g__2h, Es (List Int) g__3 g__3h, Bx b8 [(.int .i64 0), (.slice none 0 0), (.slice none 0 0), (.slice none 0 0)], E (List Int) r41 h13])
    replace H := H.sel [7, 0, 1, 2, 3, 4, 5, 6, 8] rfl
    refine stA gok [(.int .i64 y60_0), (h63).v, (h65).v, (h67).v] rfl H rfl rfl rfl ?_; clear H; intro w69 H
    replace H : Cx w0 fp0 S0 w69 [Bx b8 [(.int .i64 y60_0), (h63).v, (h65).v, (h67).v], E (List (Int × Int × List Int × List Int)) y60_1 h63, E (List Int) y60_2 h65, E (List Int) y60_3 h67, Bx b5 [(.int .i64 g__0), (g__1h).v, (g__2h).v, (g__3h).v], Es (List (Int × Int × List Int × List Int)) g__1 g__1h, Es (List Int) g__2 g__2h, Es (List Int) g__3 g__3h, E (List Int) r41 h13] := H
    refine loadN [(.int .i64 y60_0), (h63).v, (h65).v, (h67).v] rfl (fun j u hj => H.bx 0 rfl hj) ?_
    cases hF61
    exact ⟨_, _, rfl, ⟨h63, h65, h67, rfl, rfl⟩, (H.sel [1, 2, 3] rfl).close ⟨cloE, cloE, cloE, trivial⟩⟩

theorem spec_hgBeside_c (a__0 : Int) (a__1 : List (Int × Int × List Int × List Int)) (a__1h : Hd) (a__2 : List Int) (a__2h : Hd) (a__3 : List Int) (a__3h : Hd) (b__0 : Int) (b__1 : List (Int × Int × List Int × List Int)) (b__1h : Hd) (b__2 : List Int) (b__2h : Hd) (b__3 : List Int) (b__3h : Hd) (y_0 : Int) (y_1 : List (Int × Int × List Int × List Int)) (y_2 : List Int) (y_3 : List Int) (hF : F_spec_hgBeside (a__0, a__1, a__2, a__3) (b__0, b__1, b__2, b__3) = some (y_0, y_1, y_2, y_3)) :
    ConF Try.prog 59 #[(.agg #[(.int .i64 a__0), (a__1h).v, (a__2h).v, (a__3h).v]), (.agg #[(.int .i64 b__0), (b__1h).v, (b__2h).v, (b__3h).v])] [Es (List (Int × Int × List Int × List Int)) a__1 a__1h, Es (List Int) a__2 a__2h, Es (List Int) a__3 a__3h, Es (List (Int × Int × List Int × List Int)) b__1 b__1h, Es (List Int) b__2 b__2h, Es (List Int) b__3 b__3h] [] (fun v Γ' => ∃ z0 z1 z2 : Hd, v = (.agg #[(.int .i64 y_0), (z0).v, (z1).v, (z2).v]) ∧ Γ' = [E (List (Int × Int × List Int × List Int)) y_1 z0, E (List Int) y_2 z1, E (List Int) y_3 z2]) := by
  intro w0 S0 fp0 hI hS
  have H : Cx w0 fp0 S0 w0 [Es (List (Int × Int × List Int × List Int)) a__1 a__1h, Es (List Int) a__2 a__2h, Es (List Int) a__3 a__3h, Es (List (Int × Int × List Int × List Int)) b__1 b__1h, Es (List Int) b__2 b__2h, Es (List Int) b__3 b__3h] := Cx.start hI hS
  clear hI hS
  refine enterC (args := [_, _]) gok Try.func59 rfl _ rfl rfl rfl ?_
  refine box_ H ?_; clear H; intro b8 w7 hx H
  clear hx
  replace H : Cx w0 fp0 S0 w7 [Bx b8 [(.int .i64 a__0), (a__1h).v, (a__2h).v, (a__3h).v], Es (List (Int × Int × List Int × List Int)) a__1 a__1h, Es (List Int) a__2 a__2h, Es (List Int) a__3 a__3h, Es (List (Int × Int × List Int × List Int)) b__1 b__1h, Es (List Int) b__2 b__2h, Es (List Int) b__3 b__3h] := H
  refine box_ H ?_; clear H; intro b11 w10 hx H
  clear hx
  replace H : Cx w0 fp0 S0 w10 [Bx b11 [(.int .i64 b__0), (b__1h).v, (b__2h).v, (b__3h).v], Bx b8 [(.int .i64 a__0), (a__1h).v, (a__2h).v, (a__3h).v], Es (List (Int × Int × List Int × List Int)) a__1 a__1h, Es (List Int) a__2 a__2h, Es (List Int) a__3 a__3h, Es (List (Int × Int × List Int × List Int)) b__1 b__1h, Es (List Int) b__2 b__2h, Es (List Int) b__3 b__3h] := H
  refine alloc_ gok rfl H ?_; clear H; intro b14 w13 hx H
  clear hx
  replace H : Cx w0 fp0 S0 w13 [Bx b14 [(.int .i64 0), (.slice none 0 0), (.slice none 0 0), (.slice none 0 0)], Bx b11 [(.int .i64 b__0), (b__1h).v, (b__2h).v, (b__3h).v], Bx b8 [(.int .i64 a__0), (a__1h).v, (a__2h).v, (a__3h).v], Es (List (Int × Int × List Int × List Int)) a__1 a__1h, Es (List Int) a__2 a__2h, Es (List Int) a__3 a__3h, Es (List (Int × Int × List Int × List Int)) b__1 b__1h, Es (List Int) b__2 b__2h, Es (List Int) b__3 b__3h] := H
  refine fld gok rfl rfl rfl rfl ?_
  refine load1 (H.bx 1 rfl (j := 0) rfl) ?_
  obtain ⟨a16, e, hF17⟩ := bindS hF; clear hF
  refine make_ (α := Int) gok rfl rfl rfl rfl (makeCO_of e) H ?_; clear e H; intro h19 w18 hx H
  clear hx
  refine sq ?_
  refine lenE (H.ro (α := List Int) 0 rfl).len ?_
  have hmx50 := (H.ro (α := List Int) 0 rfl).max
  obtain ⟨r51, e, hF52⟩ := bindS hF17; clear hF17
  refine loopS _ a16.length (fun (k21 : Nat) (s48 : List Int) (_ : Unit) => [(2, (.pointer (some ⟨b8, 0, none⟩))), (3, (.pointer (some ⟨b11, 0, none⟩))), (4, (.pointer (some ⟨b14, 0, none⟩))), (5, (h19).v), (13, (.int .i64 ((a16.length : Nat) : Int))), (14, (.int .i64 ((k21 : Nat) : Int)))]) (fun _ (s48 : List Int) (_ : Unit) w' => Cx w0 fp0 S0 w' [Bx b8 [(.int .i64 a__0), (a__1h).v, (a__2h).v, (a__3h).v], Es (List (Int × Int × List Int × List Int)) a__1 a__1h, Es (List Int) a__2 a__2h, Es (List Int) a__3 a__3h, Bx b11 [(.int .i64 b__0), (b__1h).v, (b__2h).v, (b__3h).v], Es (List (Int × Int × List Int × List Int)) b__1 b__1h, Es (List Int) b__2 b__2h, Es (List Int) b__3 b__3h, Bx b14 [(.int .i64 0), (.slice none 0 0), (.slice none 0 0), (.slice none 0 0)], E (List Int) s48 h19]) a16 () e ⟨rfl, rfl, rfl, rfl, rfl, rfl, trivial⟩ (H.sel [3, 4, 5, 6, 2, 7, 8, 9, 1, 0] rfl) ?_ ?_
  · clear H e
    rintro T54 k21 s48 _ w53 o55 hk (H : Cx w0 fp0 S0 w53 [Bx b8 [(.int .i64 a__0), (a__1h).v, (a__2h).v, (a__3h).v], Es (List (Int × Int × List Int × List Int)) a__1 a__1h, Es (List Int) a__2 a__2h, Es (List Int) a__3 a__3h, Bx b11 [(.int .i64 b__0), (b__1h).v, (b__2h).v, (b__3h).v], Es (List (Int × Int × List Int × List Int)) b__1 b__1h, Es (List Int) b__2 b__2h, Es (List Int) b__3 b__3h, Bx b14 [(.int .i64 0), (.slice none 0 0), (.slice none 0 0), (.slice none 0 0)], E (List Int) s48 h19]) hF56
    refine boolE (z := true) (ltLen hk) ?_
    refine sq ?_
    refine sq ?_
    refine fld gok rfl rfl rfl rfl ?_
    refine load1 (H.bx 0 rfl (j := 0) rfl) ?_
    obtain ⟨a57, e, hF58⟩ := bindS hF56; clear hF56
    refine arO e ?_; clear e
    obtain ⟨a65, e, hF66⟩ := bindS hF58; clear hF58
    have ea65 := e; clear e
    obtain ⟨p63, m64, c59, c60, c61⟩ := (H.ro (α := List Int) 9 rfl).setp ea65
    refine idxE c59 c60 c61 ?_
    replace H := H.sel [9, 0, 1, 2, 3, 4, 5, 6, 7, 8] rfl
    refine setS (α := Int) H c59 c60 ea65 ?_; clear H c59 c60 c61 ea65; intro w67 H
    refine arK hk hmx50 ?_
    have hs := Option.some.inj hF66; subst hs; clear hF66
    exact ⟨(), ⟨rfl, rfl, rfl, rfl, rfl, rfl, trivial⟩, H.sel [1, 2, 3, 4, 5, 6, 7, 8, 9, 0] rfl⟩
  · clear H e
    rintro T69 _ w68 (H : Cx w0 fp0 S0 w68 [Bx b8 [(.int .i64 a__0), (a__1h).v, (a__2h).v, (a__3h).v], Es (List (Int × Int × List Int × List Int)) a__1 a__1h, Es (List Int) a__2 a__2h, Es (List Int) a__3 a__3h, Bx b11 [(.int .i64 b__0), (b__1h).v, (b__2h).v, (b__3h).v], Es (List (Int × Int × List Int × List Int)) b__1 b__1h, Es (List Int) b__2 b__2h, Es (List Int) b__3 b__3h, Bx b14 [(.int .i64 0), (.slice none 0 0), (.slice none 0 0), (.slice none 0 0)], E (List Int) r51 h19])
    refine boolE (z := false) geLen ?_
    refine sq ?_
    refine loadN [(.int .i64 a__0), (a__1h).v, (a__2h).v, (a__3h).v] rfl (fun j u hj => H.bx 0 rfl hj) ?_
    obtain ⟨y72, e, hF73⟩ := bindS hF52; clear hF52
    obtain ⟨y72_0, y72_1, y72_2, y72_3⟩ := y72
    have ey72 := e; clear e
    refine callF (spec_hgOwn_c a__0 a__1 a__1h a__2 a__2h a__3 a__3h y72_0 y72_1 y72_2 y72_3 ey72) (Γi := []) H ⟨Vw.sh 1 rfl, Vw.sh 2 rfl, Vw.sh 3 rfl, trivial⟩ ?_; clear H ey72
    rintro _ _ w74 ⟨h75, h77, h79, rfl, rfl⟩ (H : Cx w0 fp0 S0 w74 [E (List (Int × Int × List Int × List Int)) y72_1 h75, E (List Int) y72_2 h77, E (List Int) y72_3 h79, Bx b8 [(.int .i64 a__0), (a__1h).v, (a__2h).v, (a__3h).v], Es (List (Int × Int × List Int × List Int)) a__1 a__1h, Es (List Int) a__2 a__2h, Es (List Int) a__3 a__3h, Bx b11 [(.int .i64 b__0), (b__1h).v, (b__2h).v, (b__3h).v], Es (List (Int × Int × List Int × List Int)) b__1 b__1h, Es (List Int) b__2 b__2h, Es (List Int) b__3 b__3h, Bx b14 [(.int .i64 0), (.slice none 0 0), (.slice none 0 0), (.slice none 0 0)], E (List Int) r51 h19])
    refine alloc_ gok rfl H ?_; clear H; intro b82 w81 hx H
    clear hx
    replace H : Cx w0 fp0 S0 w81 [Bx b82 [(.int .i64 0), (.slice none 0 0), (.slice none 0 0), (.slice none 0 0)], E (List (Int × Int × List Int × List Int)) y72_1 h75, E (List Int) y72_2 h77, E (List Int) y72_3 h79, Bx b8 [(.int .i64 a__0), (a__1h).v, (a__2h).v, (a__3h).v], Es (List (Int × Int × List Int × List Int)) a__1 a__1h, Es (List Int) a__2 a__2h, Es (List Int) a__3 a__3h, Bx b11 [(.int .i64 b__0), (b__1h).v, (b__2h).v, (b__3h).v], Es (List (Int × Int × List Int × List Int)) b__1 b__1h, Es (List Int) b__2 b__2h, Es (List Int) b__3 b__3h, Bx b14 [(.int .i64 0), (.slice none 0 0), (.slice none 0 0), (.slice none 0 0)], E (List Int) r51 h19] := H
    refine stA gok [(.int .i64 y72_0), (h75).v, (h77).v, (h79).v] rfl H rfl rfl rfl ?_; clear H; intro w84 H
    replace H : Cx w0 fp0 S0 w84 [Bx b82 [(.int .i64 y72_0), (h75).v, (h77).v, (h79).v], E (List (Int × Int × List Int × List Int)) y72_1 h75, E (List Int) y72_2 h77, E (List Int) y72_3 h79, Bx b8 [(.int .i64 a__0), (a__1h).v, (a__2h).v, (a__3h).v], Es (List (Int × Int × List Int × List Int)) a__1 a__1h, Es (List Int) a__2 a__2h, Es (List Int) a__3 a__3h, Bx b11 [(.int .i64 b__0), (b__1h).v, (b__2h).v, (b__3h).v], Es (List (Int × Int × List Int × List Int)) b__1 b__1h, Es (List Int) b__2 b__2h, Es (List Int) b__3 b__3h, Bx b14 [(.int .i64 0), (.slice none 0 0), (.slice none 0 0), (.slice none 0 0)], E (List Int) r51 h19] := H
    refine loadN [(.int .i64 b__0), (b__1h).v, (b__2h).v, (b__3h).v] rfl (fun j u hj => H.bx 8 rfl hj) ?_
    refine fld gok rfl rfl rfl rfl ?_
    refine load1 (H.bx 8 rfl (j := 0) rfl) ?_
    obtain ⟨y85, e, hF86⟩ := bindS hF73; clear hF73
    obtain ⟨y85_0, y85_1, y85_2, y85_3⟩ := y85
    have ey85 := e; clear e
    refine callF (spec_hgMap_c b__0 b__1 b__1h b__2 b__2h b__3 b__3h r51 h19 b__0 y85_0 y85_1 y85_2 y85_3 ey85) (Γi := []) H ⟨Vw.sh 9 rfl, Vw.sh 10 rfl, Vw.sh 11 rfl, Vw.own 13 rfl, trivial⟩ ?_; clear H ey85
    rintro _ _ w87 ⟨h88, h90, h92, rfl, rfl⟩ (H : Cx w0 fp0 S0 w87 [E (List (Int × Int × List Int × List Int)) y85_1 h88, E (List Int) y85_2 h90, E (List Int) y85_3 h92, Bx b82 [(.int .i64 y72_0), (h75).v, (h77).v, (h79).v], E (List (Int × Int × List Int × List Int)) y72_1 h75, E (List Int) y72_2 h77, E (List Int) y72_3 h79, Bx b8 [(.int .i64 a__0), (a__1h).v, (a__2h).v, (a__3h).v], Es (List (Int × Int × List Int × List Int)) a__1 a__1h, Es (List Int) a__2 a__2h, Es (List Int) a__3 a__3h, Bx b11 [(.int .i64 b__0), (b__1h).v, (b__2h).v, (b__3h).v], Es (List (Int × Int × List Int × List Int)) b__1 b__1h, Es (List Int) b__2 b__2h, Es (List Int) b__3 b__3h, Bx b14 [(.int .i64 0), (.slice none 0 0), (.slice none 0 0), (.slice none 0 0)], E (List Int) r51 h19])
    refine alloc_ gok rfl H ?_; clear H; intro b95 w94 hx H
    clear hx
    replace H : Cx w0 fp0 S0 w94 [Bx b95 [(.int .i64 0), (.slice none 0 0), (.slice none 0 0), (.slice none 0 0)], E (List (Int × Int × List Int × List Int)) y85_1 h88, E (List Int) y85_2 h90, E (List Int) y85_3 h92, Bx b82 [(.int .i64 y72_0), (h75).v, (h77).v, (h79).v], E (List (Int × Int × List Int × List Int)) y72_1 h75, E (List Int) y72_2 h77, E (List Int) y72_3 h79, Bx b8 [(.int .i64 a__0), (a__1h).v, (a__2h).v, (a__3h).v], Es (List (Int × Int × List Int × List Int)) a__1 a__1h, Es (List Int) a__2 a__2h, Es (List Int) a__3 a__3h, Bx b11 [(.int .i64 b__0), (b__1h).v, (b__2h).v, (b__3h).v], Es (List (Int × Int × List Int × List Int)) b__1 b__1h, Es (List Int) b__2 b__2h, Es (List Int) b__3 b__3h, Bx b14 [(.int .i64 0), (.slice none 0 0), (.slice none 0 0), (.slice none 0 0)], E (List Int) r51 h19] := H
    refine stA gok [(.int .i64 y85_0), (h88).v, (h90).v, (h92).v] rfl H rfl rfl rfl ?_; clear H; intro w97 H
    replace H : Cx w0 fp0 S0 w97 [Bx b95 [(.int .i64 y85_0), (h88).v, (h90).v, (h92).v], E (List (Int × Int × List Int × List Int)) y85_1 h88, E (List Int) y85_2 h90, E (List Int) y85_3 h92, Bx b82 [(.int .i64 y72_0), (h75).v, (h77).v, (h79).v], E (List (Int × Int × List Int × List Int)) y72_1 h75, E (List Int) y72_2 h77, E (List Int) y72_3 h79, Bx b8 [(.int .i64 a__0), (a__1h).v, (a__2h).v, (a__3h).v], Es (List (Int × Int × List Int × List Int)) a__1 a__1h, Es (List Int) a__2 a__2h, Es (List Int) a__3 a__3h, Bx b11 [(.int .i64 b__0), (b__1h).v, (b__2h).v, (b__3h).v], Es (List (Int × Int × List Int × List Int)) b__1 b__1h, Es (List Int) b__2 b__2h, Es (List Int) b__3 b__3h, Bx b14 [(.int .i64 0), (.slice none 0 0), (.slice none 0 0), (.slice none 0 0)], E (List Int) r51 h19] := H
    refine fld gok rfl rfl rfl rfl ?_
    refine load1 (H.bx 4 rfl (j := 0) rfl) ?_
    refine fld gok rfl rfl rfl rfl ?_
    refine load1 (H.bx 12 rfl (j := 0) rfl) ?_
    obtain ⟨a98, e, hF99⟩ := bindS hF86; clear hF86
    refine arO e ?_; clear e
    refine fld gok rfl rfl rfl rfl ?_
    replace H := H.sel [4, 0, 1, 2, 3, 5, 6, 7, 8, 9, 10, 11, 12, 13, 14, 15, 16, 17] rfl
    refine stB (j := 0) H rfl rfl ?_; clear H; intro w100 H
    replace H : Cx w0 fp0 S0 w100 [Bx b82 [(.int .i64 a98), (h75).v, (h77).v, (h79).v], Bx b95 [(.int .i64 y85_0), (h88).v, (h90).v, (h92).v], E (List (Int × Int × List Int × List Int)) y85_1 h88, E (List Int) y85_2 h90, E (List Int) y85_3 h92, E (List (Int × Int × List Int × List Int)) y72_1 h75, E (List Int) y72_2 h77, E (List Int) y72_3 h79, Bx b8 [(.int .i64 a__0), (a__1h).v, (a__2h).v, (a__3h).v], Es (List (Int × Int × List Int × List Int)) a__1 a__1h, Es (List Int) a__2 a__2h, Es (List Int) a__3 a__3h, Bx b11 [(.int .i64 b__0), (b__1h).v, (b__2h).v, (b__3h).v], Es (List (Int × Int × List Int × List Int)) b__1 b__1h, Es (List Int) b__2 b__2h, Es (List Int) b__3 b__3h, Bx b14 [(.int .i64 0), (.slice none 0 0), (.slice none 0 0), (.slice none 0 0)], E (List Int) r51 h19] := H
    refine fld gok rfl rfl rfl rfl ?_
    refine load1 (H.bx 0 rfl (j := 2) rfl) ?_
    refine fld gok rfl rfl rfl rfl ?_
    refine load1 (H.bx 1 rfl (j := 2) rfl) ?_
    obtain ⟨a101, e, hF102⟩ := bindS hF99; clear hF99
    replace H := H.sel [6, 0, 1, 2, 3, 4, 5, 7, 8, 9, 10, 11, 12, 13, 14, 15, 16, 17] rfl
    refine appendS (α := Int) gok rfl rfl rfl rfl H (Vw.own 3 rfl) e ?_; clear e H; intro h104 w103 H
    refine fld gok rfl rfl rfl rfl ?_
    replace H := H.sel [1, 0, 2, 3, 4, 5, 6, 7, 8, 9, 10, 11, 12, 13, 14, 15, 16, 17] rfl
    refine stB (j := 2) H rfl rfl ?_; clear H; intro w106 H
    replace H : Cx w0 fp0 S0 w106 [Bx b82 [(.int .i64 a98), (h75).v, (h104).v, (h79).v], E (List Int) a101 h104, Bx b95 [(.int .i64 y85_0), (h88).v, (h90).v, (h92).v], E (List (Int × Int × List Int × List Int)) y85_1 h88, E (List Int) y85_2 h90, E (List Int) y85_3 h92, E (List (Int × Int × List Int × List Int)) y72_1 h75, E (List Int) y72_3 h79, Bx b8 [(.int .i64 a__0), (a__1h).v, (a__2h).v, (a__3h).v], Es (List (Int × Int × List Int × List Int)) a__1 a__1h, Es (List Int) a__2 a__2h, Es (List Int) a__3 a__3h, Bx b11 [(.int .i64 b__0), (b__1h).v, (b__2h).v, (b__3h).v], Es (List (Int × Int × List Int × List Int)) b__1 b__1h, Es (List Int) b__2 b__2h, Es (List Int) b__3 b__3h, Bx b14 [(.int .i64 0), (.slice none 0 0), (.slice none 0 0), (.slice none 0 0)], E (List Int) r51 h19] := H
    refine fld gok rfl rfl rfl rfl ?_
    refine load1 (H.bx 0 rfl (j := 3) rfl) ?_
    refine fld gok rfl rfl rfl rfl ?_
    refine load1 (H.bx 2 rfl (j := 3) rfl) ?_
    obtain ⟨a107, e, hF108⟩ := bindS hF102; clear hF102
    replace H := H.sel [7, 0, 1, 2, 3, 4, 5, 6, 8, 9, 10, 11, 12, 13, 14, 15, 16, 17] rfl
    refine appendS (α := Int) gok rfl rfl rfl rfl H (Vw.own 5 rfl) e ?_; clear e H; intro h110 w109 H
    refine fld gok rfl rfl rfl rfl ?_
    replace H := H.sel [1, 0, 2, 3, 4, 5, 6, 7, 8, 9, 10, 11, 12, 13, 14, 15, 16, 17] rfl
    refine stB (j := 3) H rfl rfl ?_; clear H; intro w112 H
    replace H : Cx w0 fp0 S0 w112 [Bx b82 [(.int .i64 a98), (h75).v, (h104).v, (h110).v], E (List Int) a107 h110, E (List Int) a101 h104, Bx b95 [(.int .i64 y85_0), (h88).v, (h90).v, (h92).v], E (List (Int × Int × List Int × List Int)) y85_1 h88, E (List Int) y85_2 h90, E (List Int) y85_3 h92, E (List (Int × Int × List Int × List Int)) y72_1 h75, Bx b8 [(.int .i64 a__0), (a__1h).v, (a__2h).v, (a__3h).v], Es (List (Int × Int × List Int × List Int)) a__1 a__1h, Es (List Int) a__2 a__2h, Es (List Int) a__3 a__3h, Bx b11 [(.int .i64 b__0), (b__1h).v, (b__2h).v, (b__3h).v], Es (List (Int × Int × List Int × List Int)) b__1 b__1h, Es (List Int) b__2 b__2h, Es (List Int) b__3 b__3h, Bx b14 [(.int .i64 0), (.slice none 0 0), (.slice none 0 0), (.slice none 0 0)], E (List Int) r51 h19] := H
    refine fld gok rfl rfl rfl rfl ?_
    refine load1 (H.bx 0 rfl (j := 1) rfl) ?_
    refine fld gok rfl rfl rfl rfl ?_
    refine load1 (H.bx 3 rfl (j := 1) rfl) ?_
    obtain ⟨a113, e, hF114⟩ := bindS hF108; clear hF108
    replace H := H.sel [7, 4, 0, 1, 2, 3, 5, 6, 8, 9, 10, 11, 12, 13, 14, 15, 16, 17] rfl
    refine append_ (α := Int × Int × List Int × List Int) gok rfl rfl rfl rfl H e ?_; clear e H; intro h116 w115 H
    refine fld gok rfl rfl rfl rfl ?_
    replace H := H.sel [1, 0, 2, 3, 4, 5, 6, 7, 8, 9, 10, 11, 12, 13, 14, 15, 16] rfl
    refine stB (j := 1) H rfl rfl ?_; clear H; intro w118 H
    replace H : Cx w0 fp0 S0 w118 [Bx b82 [(.int .i64 a98), (h116).v, (h104).v, (h110).v], E (List (Int × Int × List Int × List Int)) a113 h116, E (List Int) a107 h110, E (List Int) a101 h104, Bx b95 [(.int .i64 y85_0), (h88).v, (h90).v, (h92).v], E (List Int) y85_2 h90, E (List Int) y85_3 h92, Bx b8 [(.int .i64 a__0), (a__1h).v, (a__2h).v, (a__3h).v], Es (List (Int × Int × List Int × List Int)) a__1 a__1h, Es (List Int) a__2 a__2h, Es (List Int) a__3 a__3h, Bx b11 [(.int .i64 b__0), (b__1h).v, (b__2h).v, (b__3h).v], Es (List (Int × Int × List Int × List Int)) b__1 b__1h, Es (List Int) b__2 b__2h, Es (List Int) b__3 b__3h, Bx b14 [(.int .i64 0), (.slice none 0 0), (.slice none 0 0), (.slice none 0 0)], E (List Int) r51 h19] := H
    refine loadN [(.int .i64 a98), (h116).v, (h104).v, (h110).v] rfl (fun j u hj => H.bx 0 rfl hj) ?_
    replace H := H.sel [15, 0, 1, 2, 3, 4, 5, 6, 7, 8, 9, 10, 11, 12, 13, 14, 16] rfl
    refine stA gok [(.int .i64 a98), (h116).v, (h104).v, (h110).v] rfl H rfl rfl rfl ?_; clear H; intro w119 H
    replace H : Cx w0 fp0 S0 w119 [Bx b14 [(.int .i64 a98), (h116).v, (h104).v, (h110).v], Bx b82 [(.int .i64 a98), (h116).v, (h104).v, (h110).v], E (List (Int × Int × List Int × List Int)) a113 h116, E (List Int) a107 h110, E (List Int) a101 h104, Bx b95 [(.int .i64 y85_0), (h88).v, (h90).v, (h92).v], E (List Int) y85_2 h90, E (List Int) y85_3 h92, Bx b8 [(.int .i64 a__0), (a__1h).v, (a__2h).v, (a__3h).v], Es (List (Int × Int × List Int × List Int)) a__1 a__1h, Es (List Int) a__2 a__2h, Es (List Int) a__3 a__3h, Bx b11 [(.int .i64 b__0), (b__1h).v, (b__2h).v, (b__3h).v], Es (List (Int × Int × List Int × List Int)) b__1 b__1h, Es (List Int) b__2 b__2h, Es (List Int) b__3 b__3h, E (List Int) r51 h19] := H
    refine loadN [(.int .i64 a98), (h116).v, (h104).v, (h110).v] rfl (fun j u hj => H.bx 0 rfl hj) ?_
    cases hF114
    exact ⟨_, _, rfl, ⟨h116, h104, h110, rfl, rfl⟩, (H.sel [2, 4, 3] rfl).close ⟨cloE, cloE, cloE, trivial⟩⟩

theorem spec_l1Own_c (l_ : List Int) (l_h : Hd) (y : List Int) (hF : F_spec_l1Own l_ = some y) :
    ConF Try.prog 60 #[(l_h).v] [Es (List Int) l_ l_h] [] (fun v Γ' => ∃ z0 : Hd, v = (z0).v ∧ Γ' = [E (List Int) y z0]) := by
  intro w0 S0 fp0 hI hS
  have H : Cx w0 fp0 S0 w0 [Es (List Int) l_ l_h] := Cx.start hI hS
  clear hI hS
  refine enterC (args := [_]) gok Try.func60 rfl _ rfl rfl rfl ?_
  refine lit0 (α := Int) gok rfl rfl H ?_; clear H; intro h3 w2 hx H
  clear hx
  obtain ⟨a5, e, hF6⟩ := bindS hF; clear hF
  refine appendS (α := Int) gok rfl rfl rfl rfl H (Vw.sh 0 rfl) e ?_; clear e H; intro h8 w7 H
  cases hF6
  exact ⟨_, _, rfl, ⟨h8, rfl, rfl⟩, (H.sel [0] rfl).close ⟨cloE, trivial⟩⟩

theorem spec_l1Most_c (a_ : Int) (b_ : Int) (y : Int) (hF : F_spec_l1Most a_ b_ = some y) :
    ConF Try.prog 96 #[(.int .i64 a_), (.int .i64 b_)] [] [] (fun v Γ' => v = (.int .i64 y) ∧ Γ' = []) := by
  intro w0 S0 fp0 hI hS
  have H : Cx w0 fp0 S0 w0 [] := Cx.start hI hS
  clear hI hS
  refine enterC (args := [_, _]) gok Try.func96 rfl _ rfl rfl rfl ?_
  refine sq ?_
  obtain ⟨a1, e, hF2⟩ := bindS hF; clear hF
  refine boolO e ?_; clear e
  cases a1
  · have hF3 := condF hF2; clear hF2
    cases hF3
    exact ⟨_, _, rfl, ⟨rfl, rfl⟩, (H.sel [] rfl).close trivial⟩
  · have hF4 := condT hF2; clear hF2
    cases hF4
    exact ⟨_, _, rfl, ⟨rfl, rfl⟩, (H.sel [] rfl).close trivial⟩

theorem spec_l1Least_c (a_ : Int) (b_ : Int) (y : Int) (hF : F_spec_l1Least a_ b_ = some y) :
    ConF Try.prog 97 #[(.int .i64 a_), (.int .i64 b_)] [] [] (fun v Γ' => v = (.int .i64 y) ∧ Γ' = []) := by
  intro w0 S0 fp0 hI hS
  have H : Cx w0 fp0 S0 w0 [] := Cx.start hI hS
  clear hI hS
  refine enterC (args := [_, _]) gok Try.func97 rfl _ rfl rfl rfl ?_
  refine sq ?_
  obtain ⟨a1, e, hF2⟩ := bindS hF; clear hF
  refine boolO e ?_; clear e
  cases a1
  · have hF3 := condF hF2; clear hF2
    cases hF3
    exact ⟨_, _, rfl, ⟨rfl, rfl⟩, (H.sel [] rfl).close trivial⟩
  · have hF4 := condT hF2; clear hF2
    cases hF4
    exact ⟨_, _, rfl, ⟨rfl, rfl⟩, (H.sel [] rfl).close trivial⟩

theorem spec_hgCounts_c (g__0 : Int) (g__1 : List (Int × Int × List Int × List Int)) (g__1h : Hd) (g__2 : List Int) (g__2h : Hd) (g__3 : List Int) (g__3h : Hd) (y0 : List Int) (y1 : List Int) (hF : F_spec_hgCounts (g__0, g__1, g__2, g__3) = some (y0, y1)) :
    ConF Try.prog 83 #[(.agg #[(.int .i64 g__0), (g__1h).v, (g__2h).v, (g__3h).v])] [Es (List (Int × Int × List Int × List Int)) g__1 g__1h, Es (List Int) g__2 g__2h, Es (List Int) g__3 g__3h] [] (fun v Γ' => ∃ z0 z1 : Hd, v = (.tuple #[(z0).v, (z1).v]) ∧ Γ' = [E (List Int) y0 z0, E (List Int) y1 z1]) := by
  intro w0 S0 fp0 hI hS
  have H : Cx w0 fp0 S0 w0 [Es (List (Int × Int × List Int × List Int)) g__1 g__1h, Es (List Int) g__2 g__2h, Es (List Int) g__3 g__3h] := Cx.start hI hS
  clear hI hS
  refine enterC (args := [_]) gok Try.func83 rfl _ rfl rfl rfl ?_
  refine box_ H ?_; clear H; intro b5 w4 hx H
  clear hx
  replace H : Cx w0 fp0 S0 w4 [Bx b5 [(.int .i64 g__0), (g__1h).v, (g__2h).v, (g__3h).v], Es (List (Int × Int × List Int × List Int)) g__1 g__1h, Es (List Int) g__2 g__2h, Es (List Int) g__3 g__3h] := H
  refine fld gok rfl rfl rfl rfl ?_
  refine load1 (H.bx 0 rfl (j := 0) rfl) ?_
  obtain ⟨a7, e, hF8⟩ := bindS hF; clear hF
  refine make_ (α := Int) gok rfl rfl rfl rfl (makeCO_of e) H ?_; clear e H; intro h10 w9 hx H
  clear hx
  refine fld gok rfl rfl rfl rfl ?_
  refine load1 (H.bx 1 rfl (j := 0) rfl) ?_
  obtain ⟨a12, e, hF13⟩ := bindS hF8; clear hF8
  refine make_ (α := Int) gok rfl rfl rfl rfl (makeCO_of e) H ?_; clear e H; intro h15 w14 hx H
  clear hx
  refine sq ?_
  refine fld gok rfl rfl rfl rfl ?_
  refine load1 (H.bx 2 rfl (j := 2) rfl) ?_
  refine lenE (H.rs (α := List Int) 4 rfl).len ?_
  have hmx78 := (H.rs (α := List Int) 4 rfl).max
  obtain ⟨r79, e, hF80⟩ := bindS hF13; clear hF13
  refine loopS _ g__2.length (fun (k17 : Nat) (s76 : List Int) (_ : Unit) => [(1, (.pointer (some ⟨b5, 0, none⟩))), (4, (h10).v), (5, (h15).v), (23, (g__2h).v), (24, (.int .i64 ((g__2.length : Nat) : Int))), (25, (.int .i64 ((k17 : Nat) : Int)))]) (fun _ (s76 : List Int) (_ : Unit) w' => Cx w0 fp0 S0 w' [Bx b5 [(.int .i64 g__0), (g__1h).v, (g__2h).v, (g__3h).v], Es (List (Int × Int × List Int × List Int)) g__1 g__1h, Es (List Int) g__2 g__2h, Es (List Int) g__3 g__3h, E (List Int) s76 h10, E (List Int) a12 h15]) a7 () e ⟨rfl, rfl, rfl, rfl, rfl, rfl, trivial⟩ (H.sel [2, 3, 4, 5, 1, 0] rfl) ?_ ?_
  · clear H e
    rintro T82 k17 s76 _ w81 o83 hk (H : Cx w0 fp0 S0 w81 [Bx b5 [(.int .i64 g__0), (g__1h).v, (g__2h).v, (g__3h).v], Es (List (Int × Int × List Int × List Int)) g__1 g__1h, Es (List Int) g__2 g__2h, Es (List Int) g__3 g__3h, E (List Int) s76 h10, E (List Int) a12 h15]) hF84
    refine boolE (z := true) (ltLen hk) ?_
    refine sq ?_
    refine sq ?_
    obtain ⟨a91, e, hF92⟩ := bindS hF84; clear hF84
    obtain ⟨p89, m90, c85, c86, c87, c88⟩ := (H.rs (α := List Int) 2 rfl).at1 e; clear e
    refine idxE c85 c86 c87 ?_; clear c85 c86 c87
    refine load1 c88 ?_; clear c88
    obtain ⟨a99, e, hF100⟩ := bindS hF92; clear hF92
    obtain ⟨p97, m98, c93, c94, c95, c96⟩ := (H.ro (α := List Int) 4 rfl).at1 e; clear e
    refine idxE c93 c94 c95 ?_; clear c93 c94 c95
    refine load1 c96 ?_; clear c96
    obtain ⟨a101, e, hF102⟩ := bindS hF100; clear hF100
    refine arO e ?_; clear e
    obtain ⟨a109, e, hF110⟩ := bindS hF102; clear hF102
    have ea109 := e; clear e
    obtain ⟨p107, m108, c103, c104, c105⟩ := (H.ro (α := List Int) 4 rfl).setp ea109
    refine idxE c103 c104 c105 ?_
    replace H := H.sel [4, 0, 1, 2, 3, 5] rfl
    refine setS (α := Int) H c103 c104 ea109 ?_; clear H c103 c104 c105 ea109; intro w111 H
    refine arK hk hmx78 ?_
    have hs := Option.some.inj hF110; subst hs; clear hF110
    exact ⟨(), ⟨rfl, rfl, rfl, rfl, rfl, rfl, trivial⟩, H.sel [1, 2, 3, 4, 0, 5] rfl⟩
  · clear H e
    rintro T113 _ w112 (H : Cx w0 fp0 S0 w112 [Bx b5 [(.int .i64 g__0), (g__1h).v, (g__2h).v, (g__3h).v], Es (List (Int × Int × List Int × List Int)) g__1 g__1h, Es (List Int) g__2 g__2h, Es (List Int) g__3 g__3h, E (List Int) r79 h10, E (List Int) a12 h15])
    refine boolE (z := false) geLen ?_
    refine sq ?_
    refine sq ?_
    refine fld gok rfl rfl rfl rfl ?_
    refine load1 (H.bx 0 rfl (j := 3) rfl) ?_
    refine lenE (H.rs (α := List Int) 3 rfl).len ?_
    have hmx177 := (H.rs (α := List Int) 3 rfl).max
    obtain ⟨r178, e, hF179⟩ := bindS hF80; clear hF80
    refine loopS _ g__3.length (fun (k116 : Nat) (s175 : List Int) (_ : Unit) => [(1, (.pointer (some ⟨b5, 0, none⟩))), (4, (h10).v), (5, (h15).v), (37, (g__3h).v), (38, (.int .i64 ((g__3.length : Nat) : Int))), (39, (.int .i64 ((k116 : Nat) : Int)))]) (fun _ (s175 : List Int) (_ : Unit) w' => Cx w0 fp0 S0 w' [Bx b5 [(.int .i64 g__0), (g__1h).v, (g__2h).v, (g__3h).v], Es (List (Int × Int × List Int × List Int)) g__1 g__1h, Es (List Int) g__2 g__2h, Es (List Int) g__3 g__3h, E (List Int) r79 h10, E (List Int) s175 h15]) a12 () e ⟨rfl, rfl, rfl, rfl, rfl, rfl, trivial⟩ (H.sel [0, 1, 2, 3, 4, 5] rfl) ?_ ?_
    · clear H e
      rintro T181 k116 s175 _ w180 o182 hk (H : Cx w0 fp0 S0 w180 [Bx b5 [(.int .i64 g__0), (g__1h).v, (g__2h).v, (g__3h).v], Es (List (Int × Int × List Int × List Int)) g__1 g__1h, Es (List Int) g__2 g__2h, Es (List Int) g__3 g__3h, E (List Int) r79 h10, E (List Int) s175 h15]) hF183
      refine boolE (z := true) (ltLen hk) ?_
      refine sq ?_
      refine sq ?_
      obtain ⟨a190, e, hF191⟩ := bindS hF183; clear hF183
      obtain ⟨p188, m189, c184, c185, c186, c187⟩ := (H.rs (α := List Int) 3 rfl).at1 e; clear e
      refine idxE c184 c185 c186 ?_; clear c184 c185 c186
      refine load1 c187 ?_; clear c187
      obtain ⟨a198, e, hF199⟩ := bindS hF191; clear hF191
      obtain ⟨p196, m197, c192, c193, c194, c195⟩ := (H.ro (α := List Int) 5 rfl).at1 e; clear e
      refine idxE c192 c193 c194 ?_; clear c192 c193 c194
      refine load1 c195 ?_; clear c195
      obtain ⟨a200, e, hF201⟩ := bindS hF199; clear hF199
      refine arO e ?_; clear e
      obtain ⟨a208, e, hF209⟩ := bindS hF201; clear hF201
      have ea208 := e; clear e
      obtain ⟨p206, m207, c202, c203, c204⟩ := (H.ro (α := List Int) 5 rfl).setp ea208
      refine idxE c202 c203 c204 ?_
      replace H := H.sel [5, 0, 1, 2, 3, 4] rfl
      refine setS (α := Int) H c202 c203 ea208 ?_; clear H c202 c203 c204 ea208; intro w210 H
      refine arK hk hmx177 ?_
      have hs := Option.some.inj hF209; subst hs; clear hF209
      exact ⟨(), ⟨rfl, rfl, rfl, rfl, rfl, rfl, trivial⟩, H.sel [1, 2, 3, 4, 5, 0] rfl⟩
    · clear H e
      rintro T212 _ w211 (H : Cx w0 fp0 S0 w211 [Bx b5 [(.int .i64 g__0), (g__1h).v, (g__2h).v, (g__3h).v], Es (List (Int × Int × List Int × List Int)) g__1 g__1h, Es (List Int) g__2 g__2h, Es (List Int) g__3 g__3h, E (List Int) r79 h10, E (List Int) r178 h15])
      refine boolE (z := false) geLen ?_
      refine sq ?_
      refine sq ?_
      refine fld gok rfl rfl rfl rfl ?_
      refine load1 (H.bx 0 rfl (j := 1) rfl) ?_
      refine lenE (H.rs (α := List (Int × Int × List Int × List Int)) 1 rfl).len ?_
      have hmx654 := (H.rs (α := List (Int × Int × List Int × List Int)) 1 rfl).max
      obtain ⟨r655, e, hF656⟩ := bindS hF179; clear hF179
      refine loopS _ g__1.length (fun (k215 : Nat) (s652 : List Int × List Int) (_ : Unit) => [(4, (h10).v), (5, (h15).v), (51, (g__1h).v), (52, (.int .i64 ((g__1.length : Nat) : Int))), (53, (.int .i64 ((k215 : Nat) : Int)))]) (fun _ (s652 : List Int × List Int) (_ : Unit) w' => Cx w0 fp0 S0 w' [E (List Int) s652.1 h10, E (List Int) s652.2 h15, Es (List (Int × Int × List Int × List Int)) g__1 g__1h]) (r79, r178) () e ⟨rfl, rfl, rfl, rfl, rfl, trivial⟩ (H.sel [4, 5, 1] rfl) ?_ ?_
      · clear H e
        rintro T658 k215 ⟨s652_0, s652_1⟩ _ w657 o659 hk (H : Cx w0 fp0 S0 w657 [E (List Int) s652_0 h10, E (List Int) s652_1 h15, Es (List (Int × Int × List Int × List Int)) g__1 g__1h]) hF660
        refine boolE (z := true) (ltLen hk) ?_
        refine sq ?_
        refine sq ?_
        obtain ⟨a667, e, hF668⟩ := bindS hF660; clear hF660
        have HH := H; clear H; obtain ⟨p665, m666, g669, c661, c662, c663, c664, H⟩ := HH.el (α := Int × Int × List Int × List Int) 2 rfl e; clear HH
        clear e
        obtain ⟨a667_0, a667_1, a667_2, a667_3⟩ := a667
        obtain ⟨_, _, h671, h672⟩ := g669
        replace H := H.part (β := List Int) a667_2 (h671 : Hd) 0 rfl (fun S h => (And.left (And.right (And.right h))))
        replace H := H.part (β := List Int) a667_3 (h672 : Hd) 1 rfl (fun S h => (And.right (And.right (And.right h))))
        replace H := H.sel [0, 1, 3, 4, 5] rfl
        refine idxE c661 c662 c663 ?_; clear c661 c662 c663
        refine loadN [(.int .i64 a667_0), (.int .i64 a667_1), (h671).v, (h672).v] rfl c664 ?_; clear c664
        refine alloc_ gok rfl H ?_; clear H; intro b676 w675 hx H
        clear hx
        replace H : Cx w0 fp0 S0 w675 [Bx b676 [(.int .i64 0), (.int .i64 0), (.slice none 0 0), (.slice none 0 0)], Es (List Int) a667_3 h672, Es (List Int) a667_2 h671, E (List Int) s652_0 h10, E (List Int) s652_1 h15, Es (List (Int × Int × List Int × List Int)) g__1 g__1h] := H
        refine stA gok [(.int .i64 a667_0), (.int .i64 a667_1), (h671).v, (h672).v] rfl H rfl rfl rfl ?_; clear H; intro w678 H
        replace H : Cx w0 fp0 S0 w678 [Bx b676 [(.int .i64 a667_0), (.int .i64 a667_1), (h671).v, (h672).v], Es (List Int) a667_3 h672, Es (List Int) a667_2 h671, E (List Int) s652_0 h10, E (List Int) s652_1 h15, Es (List (Int × Int × List Int × List Int)) g__1 g__1h] := H
        refine sq ?_
        refine fld gok rfl rfl rfl rfl ?_
        refine load1 (H.bx 0 rfl (j := 3) rfl) ?_
        refine lenE (H.rs (α := List Int) 1 rfl).len ?_
        have hmx740 := (H.rs (α := List Int) 1 rfl).max
        obtain ⟨r741, e, hF742⟩ := bindS hF668; clear hF668
        refine loopS _ a667_3.length (fun (k679 : Nat) (s738 : List Int) (_ : Unit) => [(4, (h10).v), (5, (h15).v), (11, (.pointer (some ⟨b676, 0, none⟩))), (51, (g__1h).v), (52, (.int .i64 ((g__1.length : Nat) : Int))), (53, (.int .i64 ((k215 : Nat) : Int))), (58, (h672).v), (59, (.int .i64 ((a667_3.length : Nat) : Int))), (60, (.int .i64 ((k679 : Nat) : Int)))]) (fun _ (s738 : List Int) (_ : Unit) w' => Cx w0 fp0 S0 w' [E (List Int) s738 h10, E (List Int) s652_1 h15, Bx b676 [(.int .i64 a667_0), (.int .i64 a667_1), (h671).v, (h672).v], Es (List Int) a667_2 h671, Es (List Int) a667_3 h672, Es (List (Int × Int × List Int × List Int)) g__1 g__1h]) s652_0 () e ⟨rfl, rfl, rfl, rfl, rfl, rfl, rfl, rfl, rfl, trivial⟩ (H.sel [3, 4, 0, 2, 1, 5] rfl) ?_ ?_
        · clear H e
          rintro T744 k679 s738 _ w743 o745 hk (H : Cx w0 fp0 S0 w743 [E (List Int) s738 h10, E (List Int) s652_1 h15, Bx b676 [(.int .i64 a667_0), (.int .i64 a667_1), (h671).v, (h672).v], Es (List Int) a667_2 h671, Es (List Int) a667_3 h672, Es (List (Int × Int × List Int × List Int)) g__1 g__1h]) hF746
          refine boolE (z := true) (ltLen hk) ?_
          refine sq ?_
          refine sq ?_
          obtain ⟨a753, e, hF754⟩ := bindS hF746; clear hF746
          obtain ⟨p751, m752, c747, c748, c749, c750⟩ := (H.rs (α := List Int) 4 rfl).at1 e; clear e
          refine idxE c747 c748 c749 ?_; clear c747 c748 c749
          refine load1 c750 ?_; clear c750
          obtain ⟨a761, e, hF762⟩ := bindS hF754; clear hF754
          obtain ⟨p759, m760, c755, c756, c757, c758⟩ := (H.ro (α := List Int) 0 rfl).at1 e; clear e
          refine idxE c755 c756 c757 ?_; clear c755 c756 c757
          refine load1 c758 ?_; clear c758
          obtain ⟨a763, e, hF764⟩ := bindS hF762; clear hF762
          refine arO e ?_; clear e
          obtain ⟨a771, e, hF772⟩ := bindS hF764; clear hF764
          have ea771 := e; clear e
          obtain ⟨p769, m770, c765, c766, c767⟩ := (H.ro (α := List Int) 0 rfl).setp ea771
          refine idxE c765 c766 c767 ?_
          refine setS (α := Int) H c765 c766 ea771 ?_; clear H c765 c766 c767 ea771; intro w773 H
          refine arK hk hmx740 ?_
          have hs := Option.some.inj hF772; subst hs; clear hF772
          exact ⟨(), ⟨rfl, rfl, rfl, rfl, rfl, rfl, rfl, rfl, rfl, trivial⟩, H.sel [0, 1, 2, 3, 4, 5] rfl⟩
        · clear H e
          rintro T775 _ w774 (H : Cx w0 fp0 S0 w774 [E (List Int) r741 h10, E (List Int) s652_1 h15, Bx b676 [(.int .i64 a667_0), (.int .i64 a667_1), (h671).v, (h672).v], Es (List Int) a667_2 h671, Es (List Int) a667_3 h672, Es (List (Int × Int × List Int × List Int)) g__1 g__1h])
          refine boolE (z := false) geLen ?_
          refine sq ?_
          refine fld gok rfl rfl rfl rfl ?_
          refine load1 (H.bx 2 rfl (j := 2) rfl) ?_
          refine lenE (H.rs (α := List Int) 3 rfl).len ?_
          have hmx839 := (H.rs (α := List Int) 3 rfl).max
          obtain ⟨r840, e, hF841⟩ := bindS hF742; clear hF742
          refine loopS _ a667_2.length (fun (k778 : Nat) (s837 : List Int) (_ : Unit) => [(4, (h10).v), (5, (h15).v), (51, (g__1h).v), (52, (.int .i64 ((g__1.length : Nat) : Int))), (53, (.int .i64 ((k215 : Nat) : Int))), (72, (h671).v), (73, (.int .i64 ((a667_2.length : Nat) : Int))), (74, (.int .i64 ((k778 : Nat) : Int)))]) (fun _ (s837 : List Int) (_ : Unit) w' => Cx w0 fp0 S0 w' [E (List Int) r741 h10, E (List Int) s837 h15, Es (List (Int × Int × List Int × List Int)) g__1 g__1h, Es (List Int) a667_2 h671]) s652_1 () e ⟨rfl, rfl, rfl, rfl, rfl, rfl, rfl, rfl, trivial⟩ (H.sel [0, 1, 5, 3] rfl) ?_ ?_
          · clear H e
            rintro T843 k778 s837 _ w842 o844 hk (H : Cx w0 fp0 S0 w842 [E (List Int) r741 h10, E (List Int) s837 h15, Es (List (Int × Int × List Int × List Int)) g__1 g__1h, Es (List Int) a667_2 h671]) hF845
            refine boolE (z := true) (ltLen hk) ?_
            refine sq ?_
            refine sq ?_
            obtain ⟨a852, e, hF853⟩ := bindS hF845; clear hF845
            obtain ⟨p850, m851, c846, c847, c848, c849⟩ := (H.rs (α := List Int) 3 rfl).at1 e; clear e
            refine idxE c846 c847 c848 ?_; clear c846 c847 c848
            refine load1 c849 ?_; clear c849
            obtain ⟨a860, e, hF861⟩ := bindS hF853; clear hF853
            obtain ⟨p858, m859, c854, c855, c856, c857⟩ := (H.ro (α := List Int) 1 rfl).at1 e; clear e
            refine idxE c854 c855 c856 ?_; clear c854 c855 c856
            refine load1 c857 ?_; clear c857
            obtain ⟨a862, e, hF863⟩ := bindS hF861; clear hF861
            refine arO e ?_; clear e
            obtain ⟨a870, e, hF871⟩ := bindS hF863; clear hF863
            have ea870 := e; clear e
            obtain ⟨p868, m869, c864, c865, c866⟩ := (H.ro (α := List Int) 1 rfl).setp ea870
            refine idxE c864 c865 c866 ?_
            replace H := H.sel [1, 0, 2, 3] rfl
            refine setS (α := Int) H c864 c865 ea870 ?_; clear H c864 c865 c866 ea870; intro w872 H
            refine arK hk hmx839 ?_
            have hs := Option.some.inj hF871; subst hs; clear hF871
            exact ⟨(), ⟨rfl, rfl, rfl, rfl, rfl, rfl, rfl, rfl, trivial⟩, H.sel [1, 0, 2, 3] rfl⟩
          · clear H e
            rintro T874 _ w873 (H : Cx w0 fp0 S0 w873 [E (List Int) r741 h10, E (List Int) r840 h15, Es (List (Int × Int × List Int × List Int)) g__1 g__1h, Es (List Int) a667_2 h671])
            refine boolE (z := false) geLen ?_
            refine sq ?_
            refine arK hk hmx654 ?_
            have hs := Option.some.inj hF841; subst hs; clear hF841
            exact ⟨(), ⟨rfl, rfl, rfl, rfl, rfl, trivial⟩, H.sel [0, 1, 2] rfl⟩
      · clear H e
        obtain ⟨s879_0, s879_1⟩ := r655
        rintro T878 _ w877 (H : Cx w0 fp0 S0 w877 [E (List Int) s879_0 h10, E (List Int) s879_1 h15, Es (List (Int × Int × List Int × List Int)) g__1 g__1h])
        refine boolE (z := false) geLen ?_
        refine sq ?_
        cases hF656
        exact ⟨_, _, rfl, ⟨h10, h15, rfl, rfl⟩, (H.sel [0, 1] rfl).close ⟨cloE, cloE, trivial⟩⟩
end Go.Proofs.Ytaiddnddgmkfnaa
