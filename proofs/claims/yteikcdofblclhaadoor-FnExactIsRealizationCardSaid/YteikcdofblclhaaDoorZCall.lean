/-
  Contracts, printed by a program (wip/y/gen.py): each function of Go computes its partial function. Condition of each: its partial function yields a value.
-/
import Derived.Test.YteikcdofblclhaaDoorZEng
import Derived.Test.YteikcdofblclhaaDoorZFn
namespace Go.Proofs.YteikcdofblclhaaDoor
open Go Go.Proofs.YteikcdofblclhaaDoor.RW
set_option maxRecDepth 100000
set_option linter.unusedVariables false

theorem laws_szIntS_c (a_ : List Int) (a_h : Hd) (left_ : Int) (y : Int) (hF : F_laws_szIntS a_ left_ = some y) :
    ConF Tryd.prog 130 #[(a_h).v, (.int .i64 left_)] [Es (List Int) a_ a_h] [] (fun v Γ' => v = (.int .i64 y) ∧ Γ' = []) := by
  intro w0 S0 fp0 hI hS
  have H : Cx w0 fp0 S0 w0 [Es (List Int) a_ a_h] := Cx.start hI hS
  clear hI hS
  refine enterC (args := [_, _]) gok Tryd.func130 rfl _ rfl rfl rfl ?_
  refine lenE (H.rs (α := List Int) 0 rfl).len ?_
  obtain ⟨a2, e, hF3⟩ := bindS hF; clear hF
  refine arO e ?_; clear e
  refine sq ?_
  obtain ⟨a4, e, hF5⟩ := bindS hF3; clear hF3
  refine boolO e ?_; clear e
  cases a4
  · have hF6 := condF hF5; clear hF5
    cases hF6
    exact ⟨_, _, rfl, ⟨rfl, rfl⟩, (H.sel [] rfl).close trivial⟩
  · have hF7 := condT hF5; clear hF5
    cases hF7
    exact ⟨_, _, rfl, ⟨rfl, rfl⟩, (H.sel [] rfl).close trivial⟩

theorem laws_szIntSS_c (a_ : List (List Int)) (a_h : Hd) (left_ : Int) (y : Int) (hF : F_laws_szIntSS a_ left_ = some y) :
    ConF Tryd.prog 65 #[(a_h).v, (.int .i64 left_)] [Es (List (List Int)) a_ a_h] [] (fun v Γ' => v = (.int .i64 y) ∧ Γ' = []) := by
  intro w0 S0 fp0 hI hS
  have H : Cx w0 fp0 S0 w0 [Es (List (List Int)) a_ a_h] := Cx.start hI hS
  clear hI hS
  refine enterC (args := [_, _]) gok Tryd.func65 rfl _ rfl rfl rfl ?_
  refine lenE (H.rs (α := List (List Int)) 0 rfl).len ?_
  obtain ⟨a2, e, hF3⟩ := bindS hF; clear hF
  refine arO e ?_; clear e
  refine sq ?_
  obtain ⟨a4, e, hF5⟩ := bindS hF3; clear hF3
  refine boolO e ?_; clear e
  cases a4
  · have hF6 := condF hF5; clear hF5
    obtain ⟨r93, hF95, hF94⟩ := bindS hF6; clear hF6
    refine cut (fun (q96 : Int) => [(1, (.int .i64 q96))]) (fun (q96 : Int) w' => .inl q96 = r93 ∧ Cx w0 fp0 S0 w' []) ?_ ?_
    · skip
      refine loopW _ (fun (s147 : Int × Int) (_ : Unit) => [(0, (a_h).v), (1, (.int .i64 s147.1)), (5, (.int .i64 s147.2))]) (fun (s147 : Int × Int) (_ : Unit) w' => Cx w0 fp0 S0 w' [Es (List (List Int)) a_ a_h]) (a2, 0) () hF95 ⟨rfl, rfl, rfl, trivial⟩ (H.sel [0] rfl) ?_
      · clear H
        rintro T153 ⟨s147_0, s147_1⟩ _ w152 o154 (H : Cx w0 fp0 S0 w152 [Es (List (List Int)) a_ a_h]) hrt hF155
        refine sq ?_
        refine lenE (H.rs (α := List (List Int)) 0 rfl).len ?_
        obtain ⟨a156, e, hF157⟩ := bindS hF155; clear hF155
        refine boolO e ?_; clear e
        cases a156
        · have hF158 := condF hF157; clear hF157
          have hs := Option.some.inj hF158; subst hs; clear hF158
          have hF159 : some _ = some _ := congrArg some (hrt _ rfl).symm
          exact ⟨s147_0, ⟨rfl, trivial⟩, Option.some.inj hF159, H.sel [] rfl⟩
        · have hF160 := condT hF157; clear hF157
          refine sq ?_
          obtain ⟨a167, e, hF168⟩ := bindS hF160; clear hF160
          have HH := H; clear H; obtain ⟨p165, m166, h169, c161, c162, c163, c164, H⟩ := HH.elL 0 rfl e; clear HH
          clear e
          refine idxE c161 c162 c163 ?_; clear c161 c162 c163
          refine load1 c164 ?_; clear c164
          obtain ⟨y171, e, hF172⟩ := bindS hF168; clear hF168
          have ey171 := e; clear e
          refine callF (laws_szIntS_c a167 h169 s147_0 y171 ey171) (Γi := []) H ⟨Vw.sh 0 rfl, trivial⟩ ?_; clear H ey171
          rintro _ _ w173 ⟨rfl, rfl⟩ (H : Cx w0 fp0 S0 w173 [Es (List Int) a167 h169, Es (List (List Int)) a_ a_h])
          obtain ⟨a174, e, hF175⟩ := bindS hF172; clear hF172
          refine boolO e ?_; clear e
          cases a174
          · have hF176 := condF hF175; clear hF175
            obtain ⟨a177, e, hF178⟩ := bindS hF176; clear hF176
            refine arO e ?_; clear e
            have hs := Option.some.inj hF178; subst hs; clear hF178
            exact ⟨(y171, a177), (), rfl, ⟨rfl, rfl, rfl, trivial⟩, H.sel [1] rfl⟩
          · have hF179 := condT hF175; clear hF175
            have hs := Option.some.inj hF179; subst hs; clear hF179
            have hF180 : some _ = some _ := congrArg some (hrt _ rfl).symm
            have hs := Option.some.inj hF180; subst hs; clear hF180
            have hF181 : some _ = some _ := hF94; clear hF94
            cases hF181
            exact ⟨_, _, rfl, ⟨rfl, rfl⟩, (H.sel [] rfl).close trivial⟩
    · clear hF95 H
      rintro T183 s91 w182 ⟨hr, (H : Cx w0 fp0 S0 w182 [])⟩
      subst hr
      cases hF94
      exact ⟨_, _, rfl, ⟨rfl, rfl⟩, (H.sel [] rfl).close trivial⟩
  · have hF184 := condT hF5; clear hF5
    cases hF184
    exact ⟨_, _, rfl, ⟨rfl, rfl⟩, (H.sel [] rfl).close trivial⟩

theorem laws_szStateSpace_c (a__0 : Int) (a__1 : Int) (a__2 : Int) (a__3 : List (List Int)) (a__3h : Hd) (a__4 : List (List Int)) (a__4h : Hd) (a__5 : List (List Int)) (a__5h : Hd) (a__6 : List (List Int)) (a__6h : Hd) (left_ : Int) (y : Int) (hF : F_laws_szStateSpace (a__0, a__1, a__2, a__3, a__4, a__5, a__6) left_ = some y) :
    ConF Tryd.prog 15 #[(.agg #[(.int .i64 a__0), (.int .i64 a__1), (.int .i64 a__2), (a__3h).v, (a__4h).v, (a__5h).v, (a__6h).v]), (.int .i64 left_)] [Es (List (List Int)) a__3 a__3h, Es (List (List Int)) a__4 a__4h, Es (List (List Int)) a__5 a__5h, Es (List (List Int)) a__6 a__6h] [] (fun v Γ' => v = (.int .i64 y) ∧ Γ' = []) := by
  intro w0 S0 fp0 hI hS
  have H : Cx w0 fp0 S0 w0 [Es (List (List Int)) a__3 a__3h, Es (List (List Int)) a__4 a__4h, Es (List (List Int)) a__5 a__5h, Es (List (List Int)) a__6 a__6h] := Cx.start hI hS
  clear hI hS
  refine enterC (args := [_, _]) gok Tryd.func15 rfl _ rfl rfl rfl ?_
  refine box_ H ?_; clear H; intro b6 w5 hx H
  clear hx
  replace H : Cx w0 fp0 S0 w5 [Bx b6 [(.int .i64 a__0), (.int .i64 a__1), (.int .i64 a__2), (a__3h).v, (a__4h).v, (a__5h).v, (a__6h).v], Es (List (List Int)) a__3 a__3h, Es (List (List Int)) a__4 a__4h, Es (List (List Int)) a__5 a__5h, Es (List (List Int)) a__6 a__6h] := H
  refine fld gok rfl rfl rfl rfl ?_
  refine load1 (H.bx 0 rfl (j := 3) rfl) ?_
  obtain ⟨y8, e, hF9⟩ := bindS hF; clear hF
  have ey8 := e; clear e
  refine callF (laws_szIntSS_c a__3 a__3h left_ y8 ey8) (Γi := []) H ⟨Vw.sh 1 rfl, trivial⟩ ?_; clear H ey8
  rintro _ _ w10 ⟨rfl, rfl⟩ (H : Cx w0 fp0 S0 w10 [Bx b6 [(.int .i64 a__0), (.int .i64 a__1), (.int .i64 a__2), (a__3h).v, (a__4h).v, (a__5h).v, (a__6h).v], Es (List (List Int)) a__3 a__3h, Es (List (List Int)) a__4 a__4h, Es (List (List Int)) a__5 a__5h, Es (List (List Int)) a__6 a__6h])
  refine sq ?_
  obtain ⟨a11, e, hF12⟩ := bindS hF9; clear hF9
  refine boolO e ?_; clear e
  cases a11
  · have hF13 := condF hF12; clear hF12
    refine fld gok rfl rfl rfl rfl ?_
    refine load1 (H.bx 0 rfl (j := 4) rfl) ?_
    obtain ⟨y14, e, hF15⟩ := bindS hF13; clear hF13
    have ey14 := e; clear e
    refine callF (laws_szIntSS_c a__4 a__4h y8 y14 ey14) (Γi := []) H ⟨Vw.sh 2 rfl, trivial⟩ ?_; clear H ey14
    rintro _ _ w16 ⟨rfl, rfl⟩ (H : Cx w0 fp0 S0 w16 [Bx b6 [(.int .i64 a__0), (.int .i64 a__1), (.int .i64 a__2), (a__3h).v, (a__4h).v, (a__5h).v, (a__6h).v], Es (List (List Int)) a__3 a__3h, Es (List (List Int)) a__4 a__4h, Es (List (List Int)) a__5 a__5h, Es (List (List Int)) a__6 a__6h])
    refine sq ?_
    obtain ⟨a17, e, hF18⟩ := bindS hF15; clear hF15
    refine boolO e ?_; clear e
    cases a17
    · have hF19 := condF hF18; clear hF18
      refine fld gok rfl rfl rfl rfl ?_
      refine load1 (H.bx 0 rfl (j := 5) rfl) ?_
      obtain ⟨y20, e, hF21⟩ := bindS hF19; clear hF19
      have ey20 := e; clear e
      refine callF (laws_szIntSS_c a__5 a__5h y14 y20 ey20) (Γi := []) H ⟨Vw.sh 3 rfl, trivial⟩ ?_; clear H ey20
      rintro _ _ w22 ⟨rfl, rfl⟩ (H : Cx w0 fp0 S0 w22 [Bx b6 [(.int .i64 a__0), (.int .i64 a__1), (.int .i64 a__2), (a__3h).v, (a__4h).v, (a__5h).v, (a__6h).v], Es (List (List Int)) a__3 a__3h, Es (List (List Int)) a__4 a__4h, Es (List (List Int)) a__5 a__5h, Es (List (List Int)) a__6 a__6h])
      refine sq ?_
      obtain ⟨a23, e, hF24⟩ := bindS hF21; clear hF21
      refine boolO e ?_; clear e
      cases a23
      · have hF25 := condF hF24; clear hF24
        refine fld gok rfl rfl rfl rfl ?_
        refine load1 (H.bx 0 rfl (j := 6) rfl) ?_
        obtain ⟨y26, e, hF27⟩ := bindS hF25; clear hF25
        have ey26 := e; clear e
        refine callF (laws_szIntSS_c a__6 a__6h y20 y26 ey26) (Γi := []) H ⟨Vw.sh 4 rfl, trivial⟩ ?_; clear H ey26
        rintro _ _ w28 ⟨rfl, rfl⟩ (H : Cx w0 fp0 S0 w28 [Bx b6 [(.int .i64 a__0), (.int .i64 a__1), (.int .i64 a__2), (a__3h).v, (a__4h).v, (a__5h).v, (a__6h).v], Es (List (List Int)) a__3 a__3h, Es (List (List Int)) a__4 a__4h, Es (List (List Int)) a__5 a__5h, Es (List (List Int)) a__6 a__6h])
        refine sq ?_
        obtain ⟨a29, e, hF30⟩ := bindS hF27; clear hF27
        refine boolO e ?_; clear e
        cases a29
        · have hF31 := condF hF30; clear hF30
          cases hF31
          exact ⟨_, _, rfl, ⟨rfl, rfl⟩, (H.sel [] rfl).close trivial⟩
        · have hF32 := condT hF30; clear hF30
          cases hF32
          exact ⟨_, _, rfl, ⟨rfl, rfl⟩, (H.sel [] rfl).close trivial⟩
      · have hF33 := condT hF24; clear hF24
        cases hF33
        exact ⟨_, _, rfl, ⟨rfl, rfl⟩, (H.sel [] rfl).close trivial⟩
    · have hF34 := condT hF18; clear hF18
      cases hF34
      exact ⟨_, _, rfl, ⟨rfl, rfl⟩, (H.sel [] rfl).close trivial⟩
  · have hF35 := condT hF12; clear hF12
    cases hF35
    exact ⟨_, _, rfl, ⟨rfl, rfl⟩, (H.sel [] rfl).close trivial⟩

theorem laws_szMatrix_c (a__0 : Int) (a__1 : List (List Int)) (a__1h : Hd) (left_ : Int) (y : Int) (hF : F_laws_szMatrix (a__0, a__1) left_ = some y) :
    ConF Tryd.prog 29 #[(.agg #[(.int .i64 a__0), (a__1h).v]), (.int .i64 left_)] [Es (List (List Int)) a__1 a__1h] [] (fun v Γ' => v = (.int .i64 y) ∧ Γ' = []) := by
  intro w0 S0 fp0 hI hS
  have H : Cx w0 fp0 S0 w0 [Es (List (List Int)) a__1 a__1h] := Cx.start hI hS
  clear hI hS
  refine enterC (args := [_, _]) gok Tryd.func29 rfl _ rfl rfl rfl ?_
  refine box_ H ?_; clear H; intro b3 w2 hx H
  clear hx
  replace H : Cx w0 fp0 S0 w2 [Bx b3 [(.int .i64 a__0), (a__1h).v], Es (List (List Int)) a__1 a__1h] := H
  refine fld gok rfl rfl rfl rfl ?_
  refine load1 (H.bx 0 rfl (j := 1) rfl) ?_
  obtain ⟨y5, e, hF6⟩ := bindS hF; clear hF
  have ey5 := e; clear e
  refine callF (laws_szIntSS_c a__1 a__1h left_ y5 ey5) (Γi := []) H ⟨Vw.sh 1 rfl, trivial⟩ ?_; clear H ey5
  rintro _ _ w7 ⟨rfl, rfl⟩ (H : Cx w0 fp0 S0 w7 [Bx b3 [(.int .i64 a__0), (a__1h).v], Es (List (List Int)) a__1 a__1h])
  refine sq ?_
  obtain ⟨a8, e, hF9⟩ := bindS hF6; clear hF6
  refine boolO e ?_; clear e
  cases a8
  · have hF10 := condF hF9; clear hF9
    cases hF10
    exact ⟨_, _, rfl, ⟨rfl, rfl⟩, (H.sel [] rfl).close trivial⟩
  · have hF11 := condT hF9; clear hF9
    cases hF11
    exact ⟨_, _, rfl, ⟨rfl, rfl⟩, (H.sel [] rfl).close trivial⟩

theorem laws_szMatrixS_c (a_ : List (Int × List (List Int))) (a_h : Hd) (left_ : Int) (y : Int) (hF : F_laws_szMatrixS a_ left_ = some y) :
    ConF Tryd.prog 16 #[(a_h).v, (.int .i64 left_)] [Es (List (Int × List (List Int))) a_ a_h] [] (fun v Γ' => v = (.int .i64 y) ∧ Γ' = []) := by
  intro w0 S0 fp0 hI hS
  have H : Cx w0 fp0 S0 w0 [Es (List (Int × List (List Int))) a_ a_h] := Cx.start hI hS
  clear hI hS
  refine enterC (args := [_, _]) gok Tryd.func16 rfl _ rfl rfl rfl ?_
  refine lenE (H.rs (α := List (Int × List (List Int))) 0 rfl).len ?_
  obtain ⟨a2, e, hF3⟩ := bindS hF; clear hF
  refine arO e ?_; clear e
  refine sq ?_
  obtain ⟨a4, e, hF5⟩ := bindS hF3; clear hF3
  refine boolO e ?_; clear e
  cases a4
  · have hF6 := condF hF5; clear hF5
    obtain ⟨r99, hF101, hF100⟩ := bindS hF6; clear hF6
    refine cut (fun (q102 : Int) => [(1, (.int .i64 q102))]) (fun (q102 : Int) w' => .inl q102 = r99 ∧ Cx w0 fp0 S0 w' []) ?_ ?_
    · skip
      refine loopW _ (fun (s157 : Int × Int) (_ : Unit) => [(0, (a_h).v), (1, (.int .i64 s157.1)), (5, (.int .i64 s157.2))]) (fun (s157 : Int × Int) (_ : Unit) w' => Cx w0 fp0 S0 w' [Es (List (Int × List (List Int))) a_ a_h]) (a2, 0) () hF101 ⟨rfl, rfl, rfl, trivial⟩ (H.sel [0] rfl) ?_
      · clear H
        rintro T163 ⟨s157_0, s157_1⟩ _ w162 o164 (H : Cx w0 fp0 S0 w162 [Es (List (Int × List (List Int))) a_ a_h]) hrt hF165
        refine sq ?_
        refine lenE (H.rs (α := List (Int × List (List Int))) 0 rfl).len ?_
        obtain ⟨a166, e, hF167⟩ := bindS hF165; clear hF165
        refine boolO e ?_; clear e
        cases a166
        · have hF168 := condF hF167; clear hF167
          have hs := Option.some.inj hF168; subst hs; clear hF168
          have hF169 : some _ = some _ := congrArg some (hrt _ rfl).symm
          exact ⟨s157_0, ⟨rfl, trivial⟩, Option.some.inj hF169, H.sel [] rfl⟩
        · have hF170 := condT hF167; clear hF167
          refine sq ?_
          obtain ⟨a177, e, hF178⟩ := bindS hF170; clear hF170
          have HH := H; clear H; obtain ⟨p175, m176, g179, c171, c172, c173, c174, H⟩ := HH.el (α := Int × List (List Int)) 0 rfl e; clear HH
          clear e
          obtain ⟨a177_0, a177_1⟩ := a177
          obtain ⟨_, h181⟩ := g179
          replace H := H.part (β := List (List Int)) a177_1 (h181 : Hd) 0 rfl (fun S h => (And.right h))
          replace H := H.sel [0, 2] rfl
          refine idxE c171 c172 c173 ?_; clear c171 c172 c173
          refine loadN [(.int .i64 a177_0), (h181).v] rfl c174 ?_; clear c174
          obtain ⟨y183, e, hF184⟩ := bindS hF178; clear hF178
          have ey183 := e; clear e
          refine callF (laws_szMatrix_c a177_0 a177_1 h181 s157_0 y183 ey183) (Γi := []) H ⟨Vw.sh 0 rfl, trivial⟩ ?_; clear H ey183
          rintro _ _ w185 ⟨rfl, rfl⟩ (H : Cx w0 fp0 S0 w185 [Es (List (List Int)) a177_1 h181, Es (List (Int × List (List Int))) a_ a_h])
          obtain ⟨a186, e, hF187⟩ := bindS hF184; clear hF184
          refine boolO e ?_; clear e
          cases a186
          · have hF188 := condF hF187; clear hF187
            obtain ⟨a189, e, hF190⟩ := bindS hF188; clear hF188
            refine arO e ?_; clear e
            have hs := Option.some.inj hF190; subst hs; clear hF190
            exact ⟨(y183, a189), (), rfl, ⟨rfl, rfl, rfl, trivial⟩, H.sel [1] rfl⟩
          · have hF191 := condT hF187; clear hF187
            have hs := Option.some.inj hF191; subst hs; clear hF191
            have hF192 : some _ = some _ := congrArg some (hrt _ rfl).symm
            have hs := Option.some.inj hF192; subst hs; clear hF192
            have hF193 : some _ = some _ := hF100; clear hF100
            cases hF193
            exact ⟨_, _, rfl, ⟨rfl, rfl⟩, (H.sel [] rfl).close trivial⟩
    · clear hF101 H
      rintro T195 s97 w194 ⟨hr, (H : Cx w0 fp0 S0 w194 [])⟩
      subst hr
      cases hF100
      exact ⟨_, _, rfl, ⟨rfl, rfl⟩, (H.sel [] rfl).close trivial⟩
  · have hF196 := condT hF5; clear hF5
    cases hF196
    exact ⟨_, _, rfl, ⟨rfl, rfl⟩, (H.sel [] rfl).close trivial⟩

theorem laws_toIntS_c (a_ : List Int) (a_h : Hd) (y : List Int) (hF : F_laws_toIntS a_ = some y) :
    ConF Tryd.prog 31 #[(a_h).v] [Es (List Int) a_ a_h] [] (fun v Γ' => ∃ z0 : Hd, v = (z0).v ∧ Γ' = [E (List Int) y z0]) := by
  intro w0 S0 fp0 hI hS
  have H : Cx w0 fp0 S0 w0 [Es (List Int) a_ a_h] := Cx.start hI hS
  clear hI hS
  refine enterC (args := [_]) gok Tryd.func31 rfl _ rfl rfl rfl ?_
  refine lenE (H.rs (α := List Int) 0 rfl).len ?_
  obtain ⟨a2, e, hF3⟩ := bindS hF; clear hF
  refine make_ (α := Int) gok rfl rfl rfl rfl (makeCO_of e) H ?_; clear e H; intro h5 w4 hx H
  clear hx
  obtain ⟨r92, hF94, hF93⟩ := bindS hF3; clear hF3
  refine cut (fun (q95 : List Int) => [(3, (h5).v)]) (fun (q95 : List Int) w' => q95 = r92 ∧ Cx w0 fp0 S0 w' [E (List Int) q95 h5]) ?_ ?_
  · skip
    refine loopW _ (fun (s146 : List Int × Int) (_ : Unit) => [(0, (a_h).v), (3, (h5).v), (4, (.int .i64 s146.2))]) (fun (s146 : List Int × Int) (_ : Unit) w' => Cx w0 fp0 S0 w' [Es (List Int) a_ a_h, E (List Int) s146.1 h5]) (a2, 0) () hF94 ⟨rfl, rfl, rfl, trivial⟩ (H.sel [1, 0] rfl) ?_
    · clear H
      rintro T152 ⟨s146_0, s146_1⟩ _ w151 o153 (H : Cx w0 fp0 S0 w151 [Es (List Int) a_ a_h, E (List Int) s146_0 h5]) hrt hF154
      refine sq ?_
      refine lenE (H.rs (α := List Int) 0 rfl).len ?_
      obtain ⟨a155, e, hF156⟩ := bindS hF154; clear hF154
      refine boolO e ?_; clear e
      cases a155
      · have hF157 := condF hF156; clear hF156
        have hs := Option.some.inj hF157; subst hs; clear hF157
        have hF158 : some _ = some _ := congrArg some (hrt _ rfl).symm
        exact ⟨s146_0, ⟨rfl, trivial⟩, Option.some.inj hF158, H.sel [1] rfl⟩
      · have hF159 := condT hF156; clear hF156
        refine sq ?_
        obtain ⟨a166, e, hF167⟩ := bindS hF159; clear hF159
        obtain ⟨p164, m165, c160, c161, c162, c163⟩ := (H.rs (α := List Int) 0 rfl).at1 e; clear e
        refine idxE c160 c161 c162 ?_; clear c160 c161 c162
        refine load1 c163 ?_; clear c163
        obtain ⟨a174, e, hF175⟩ := bindS hF167; clear hF167
        have ea174 := e; clear e
        obtain ⟨p172, m173, c168, c169, c170⟩ := (H.ro (α := List Int) 1 rfl).setp ea174
        refine idxE c168 c169 c170 ?_
        replace H := H.sel [1, 0] rfl
        refine setS (α := Int) H c168 c169 ea174 ?_; clear H c168 c169 c170 ea174; intro w176 H
        obtain ⟨a177, e, hF178⟩ := bindS hF175; clear hF175
        refine arO e ?_; clear e
        have hs := Option.some.inj hF178; subst hs; clear hF178
        exact ⟨(a174, a177), (), rfl, ⟨rfl, rfl, rfl, trivial⟩, H.sel [1, 0] rfl⟩
  · clear hF94 H
    rintro T180 s90 w179 ⟨hr, (H : Cx w0 fp0 S0 w179 [E (List Int) s90 h5])⟩
    subst hr
    cases hF93
    exact ⟨_, _, rfl, ⟨h5, rfl, rfl⟩, (H.sel [0] rfl).close ⟨cloE, trivial⟩⟩

theorem laws_toIntSS_c (a_ : List (List Int)) (a_h : Hd) (y : List (List Int)) (hF : F_laws_toIntSS a_ = some y) :
    ConF Tryd.prog 69 #[(a_h).v] [Es (List (List Int)) a_ a_h] [] (fun v Γ' => ∃ z0 : Hd, v = (z0).v ∧ Γ' = [E (List (List Int)) y z0]) := by
  intro w0 S0 fp0 hI hS
  have H : Cx w0 fp0 S0 w0 [Es (List (List Int)) a_ a_h] := Cx.start hI hS
  clear hI hS
  refine enterC (args := [_]) gok Tryd.func69 rfl _ rfl rfl rfl ?_
  refine lenE (H.rs (α := List (List Int)) 0 rfl).len ?_
  obtain ⟨a2, e, hF3⟩ := bindS hF; clear hF
  refine make_ (α := List Int) gok rfl rfl rfl rfl (makeCO_of e) H ?_; clear e H; intro h5 w4 hx H
  clear hx
  obtain ⟨r113, hF115, hF114⟩ := bindS hF3; clear hF3
  refine cut (fun (q116 : List (List Int)) => [(3, (h5).v)]) (fun (q116 : List (List Int)) w' => q116 = r113 ∧ Cx w0 fp0 S0 w' [E (List (List Int)) q116 h5]) ?_ ?_
  · skip
    refine loopW _ (fun (s181 : List (List Int) × Int) (_ : Unit) => [(0, (a_h).v), (3, (h5).v), (4, (.int .i64 s181.2))]) (fun (s181 : List (List Int) × Int) (_ : Unit) w' => Cx w0 fp0 S0 w' [Es (List (List Int)) a_ a_h, E (List (List Int)) s181.1 h5]) (a2, 0) () hF115 ⟨rfl, rfl, rfl, trivial⟩ (H.sel [1, 0] rfl) ?_
    · clear H
      rintro T187 ⟨s181_0, s181_1⟩ _ w186 o188 (H : Cx w0 fp0 S0 w186 [Es (List (List Int)) a_ a_h, E (List (List Int)) s181_0 h5]) hrt hF189
      refine sq ?_
      refine lenE (H.rs (α := List (List Int)) 0 rfl).len ?_
      obtain ⟨a190, e, hF191⟩ := bindS hF189; clear hF189
      refine boolO e ?_; clear e
      cases a190
      · have hF192 := condF hF191; clear hF191
        have hs := Option.some.inj hF192; subst hs; clear hF192
        have hF193 : some _ = some _ := congrArg some (hrt _ rfl).symm
        exact ⟨s181_0, ⟨rfl, trivial⟩, Option.some.inj hF193, H.sel [1] rfl⟩
      · have hF194 := condT hF191; clear hF191
        refine sq ?_
        obtain ⟨a201, e, hF202⟩ := bindS hF194; clear hF194
        have HH := H; clear H; obtain ⟨p199, m200, h203, c195, c196, c197, c198, H⟩ := HH.elL 0 rfl e; clear HH
        clear e
        refine idxE c195 c196 c197 ?_; clear c195 c196 c197
        refine load1 c198 ?_; clear c198
        obtain ⟨y205, e, hF206⟩ := bindS hF202; clear hF202
        have ey205 := e; clear e
        refine callF (laws_toIntS_c a201 h203 y205 ey205) (Γi := []) H ⟨Vw.sh 0 rfl, trivial⟩ ?_; clear H ey205
        rintro _ _ w207 ⟨h208, rfl, rfl⟩ (H : Cx w0 fp0 S0 w207 [E (List Int) y205 h208, Es (List Int) a201 h203, Es (List (List Int)) a_ a_h, E (List (List Int)) s181_0 h5])
        obtain ⟨a216, e, hF217⟩ := bindS hF206; clear hF206
        have ea216 := e; clear e
        obtain ⟨p214, m215, c210, c211, c212⟩ := (H.ro (α := List (List Int)) 3 rfl).setp ea216
        refine idxE c210 c211 c212 ?_
        replace H := H.sel [3, 0, 1, 2] rfl
        refine setL H c210 c211 ea216 ?_; clear H c210 c211 c212 ea216; intro w218 H
        obtain ⟨a219, e, hF220⟩ := bindS hF217; clear hF217
        refine arO e ?_; clear e
        have hs := Option.some.inj hF220; subst hs; clear hF220
        exact ⟨(a216, a219), (), rfl, ⟨rfl, rfl, rfl, trivial⟩, H.sel [2, 0] rfl⟩
  · clear hF115 H
    rintro T222 s111 w221 ⟨hr, (H : Cx w0 fp0 S0 w221 [E (List (List Int)) s111 h5])⟩
    subst hr
    cases hF114
    exact ⟨_, _, rfl, ⟨h5, rfl, rfl⟩, (H.sel [0] rfl).close ⟨cloE, trivial⟩⟩

theorem laws_toStateSpace_c (a__0 : Int) (a__1 : Int) (a__2 : Int) (a__3 : List (List Int)) (a__3h : Hd) (a__4 : List (List Int)) (a__4h : Hd) (a__5 : List (List Int)) (a__5h : Hd) (a__6 : List (List Int)) (a__6h : Hd) (y_0 : Int) (y_1 : Int) (y_2 : Int) (y_3 : List (List Int)) (y_4 : List (List Int)) (y_5 : List (List Int)) (y_6 : List (List Int)) (hF : F_laws_toStateSpace (a__0, a__1, a__2, a__3, a__4, a__5, a__6) = some (y_0, y_1, y_2, y_3, y_4, y_5, y_6)) :
    ConF Tryd.prog 18 #[(.agg #[(.int .i64 a__0), (.int .i64 a__1), (.int .i64 a__2), (a__3h).v, (a__4h).v, (a__5h).v, (a__6h).v])] [Es (List (List Int)) a__3 a__3h, Es (List (List Int)) a__4 a__4h, Es (List (List Int)) a__5 a__5h, Es (List (List Int)) a__6 a__6h] [] (fun v Γ' => ∃ z0 z1 z2 z3 : Hd, v = (.agg #[(.int .i64 y_0), (.int .i64 y_1), (.int .i64 y_2), (z0).v, (z1).v, (z2).v, (z3).v]) ∧ Γ' = [E (List (List Int)) y_3 z0, E (List (List Int)) y_4 z1, E (List (List Int)) y_5 z2, E (List (List Int)) y_6 z3]) := by
  intro w0 S0 fp0 hI hS
  have H : Cx w0 fp0 S0 w0 [Es (List (List Int)) a__3 a__3h, Es (List (List Int)) a__4 a__4h, Es (List (List Int)) a__5 a__5h, Es (List (List Int)) a__6 a__6h] := Cx.start hI hS
  clear hI hS
  refine enterC (args := [_]) gok Tryd.func18 rfl _ rfl rfl rfl ?_
  refine box_ H ?_; clear H; intro b6 w5 hx H
  clear hx
  replace H : Cx w0 fp0 S0 w5 [Bx b6 [(.int .i64 a__0), (.int .i64 a__1), (.int .i64 a__2), (a__3h).v, (a__4h).v, (a__5h).v, (a__6h).v], Es (List (List Int)) a__3 a__3h, Es (List (List Int)) a__4 a__4h, Es (List (List Int)) a__5 a__5h, Es (List (List Int)) a__6 a__6h] := H
  refine alloc_ gok rfl H ?_; clear H; intro b9 w8 hx H
  clear hx
  replace H : Cx w0 fp0 S0 w8 [Bx b9 [(.int .i64 0), (.int .i64 0), (.int .i64 0), (.slice none 0 0), (.slice none 0 0), (.slice none 0 0), (.slice none 0 0)], Bx b6 [(.int .i64 a__0), (.int .i64 a__1), (.int .i64 a__2), (a__3h).v, (a__4h).v, (a__5h).v, (a__6h).v], Es (List (List Int)) a__3 a__3h, Es (List (List Int)) a__4 a__4h, Es (List (List Int)) a__5 a__5h, Es (List (List Int)) a__6 a__6h] := H
  refine alloc_ gok rfl H ?_; clear H; intro b12 w11 hx H
  clear hx
  replace H : Cx w0 fp0 S0 w11 [Bx b12 [(.int .i64 0), (.int .i64 0), (.int .i64 0), (.slice none 0 0), (.slice none 0 0), (.slice none 0 0), (.slice none 0 0)], Bx b9 [(.int .i64 0), (.int .i64 0), (.int .i64 0), (.slice none 0 0), (.slice none 0 0), (.slice none 0 0), (.slice none 0 0)], Bx b6 [(.int .i64 a__0), (.int .i64 a__1), (.int .i64 a__2), (a__3h).v, (a__4h).v, (a__5h).v, (a__6h).v], Es (List (List Int)) a__3 a__3h, Es (List (List Int)) a__4 a__4h, Es (List (List Int)) a__5 a__5h, Es (List (List Int)) a__6 a__6h] := H
  refine fld gok rfl rfl rfl rfl ?_
  refine load1 (H.bx 2 rfl (j := 0) rfl) ?_
  refine fld gok rfl rfl rfl rfl ?_
  refine stB (j := 0) H rfl rfl ?_; clear H; intro w14 H
  replace H : Cx w0 fp0 S0 w14 [Bx b12 [(.int .i64 a__0), (.int .i64 0), (.int .i64 0), (.slice none 0 0), (.slice none 0 0), (.slice none 0 0), (.slice none 0 0)], Bx b9 [(.int .i64 0), (.int .i64 0), (.int .i64 0), (.slice none 0 0), (.slice none 0 0), (.slice none 0 0), (.slice none 0 0)], Bx b6 [(.int .i64 a__0), (.int .i64 a__1), (.int .i64 a__2), (a__3h).v, (a__4h).v, (a__5h).v, (a__6h).v], Es (List (List Int)) a__3 a__3h, Es (List (List Int)) a__4 a__4h, Es (List (List Int)) a__5 a__5h, Es (List (List Int)) a__6 a__6h] := H
  refine fld gok rfl rfl rfl rfl ?_
  refine load1 (H.bx 2 rfl (j := 1) rfl) ?_
  refine fld gok rfl rfl rfl rfl ?_
  refine stB (j := 1) H rfl rfl ?_; clear H; intro w15 H
  replace H : Cx w0 fp0 S0 w15 [Bx b12 [(.int .i64 a__0), (.int .i64 a__1), (.int .i64 0), (.slice none 0 0), (.slice none 0 0), (.slice none 0 0), (.slice none 0 0)], Bx b9 [(.int .i64 0), (.int .i64 0), (.int .i64 0), (.slice none 0 0), (.slice none 0 0), (.slice none 0 0), (.slice none 0 0)], Bx b6 [(.int .i64 a__0), (.int .i64 a__1), (.int .i64 a__2), (a__3h).v, (a__4h).v, (a__5h).v, (a__6h).v], Es (List (List Int)) a__3 a__3h, Es (List (List Int)) a__4 a__4h, Es (List (List Int)) a__5 a__5h, Es (List (List Int)) a__6 a__6h] := H
  refine fld gok rfl rfl rfl rfl ?_
  refine load1 (H.bx 2 rfl (j := 2) rfl) ?_
  refine fld gok rfl rfl rfl rfl ?_
  refine stB (j := 2) H rfl rfl ?_; clear H; intro w16 H
  replace H : Cx w0 fp0 S0 w16 [Bx b12 [(.int .i64 a__0), (.int .i64 a__1), (.int .i64 a__2), (.slice none 0 0), (.slice none 0 0), (.slice none 0 0), (.slice none 0 0)], Bx b9 [(.int .i64 0), (.int .i64 0), (.int .i64 0), (.slice none 0 0), (.slice none 0 0), (.slice none 0 0), (.slice none 0 0)], Bx b6 [(.int .i64 a__0), (.int .i64 a__1), (.int .i64 a__2), (a__3h).v, (a__4h).v, (a__5h).v, (a__6h).v], Es (List (List Int)) a__3 a__3h, Es (List (List Int)) a__4 a__4h, Es (List (List Int)) a__5 a__5h, Es (List (List Int)) a__6 a__6h] := H
  refine fld gok rfl rfl rfl rfl ?_
  refine load1 (H.bx 2 rfl (j := 3) rfl) ?_
  obtain ⟨y17, e, hF18⟩ := bindS hF; clear hF
  have ey17 := e; clear e
  refine callF (laws_toIntSS_c a__3 a__3h y17 ey17) (Γi := []) H ⟨Vw.sh 3 rfl, trivial⟩ ?_; clear H ey17
  rintro _ _ w19 ⟨h20, rfl, rfl⟩ (H : Cx w0 fp0 S0 w19 [E (List (List Int)) y17 h20, Bx b12 [(.int .i64 a__0), (.int .i64 a__1), (.int .i64 a__2), (.slice none 0 0), (.slice none 0 0), (.slice none 0 0), (.slice none 0 0)], Bx b9 [(.int .i64 0), (.int .i64 0), (.int .i64 0), (.slice none 0 0), (.slice none 0 0), (.slice none 0 0), (.slice none 0 0)], Bx b6 [(.int .i64 a__0), (.int .i64 a__1), (.int .i64 a__2), (a__3h).v, (a__4h).v, (a__5h).v, (a__6h).v], Es (List (List Int)) a__3 a__3h, Es (List (List Int)) a__4 a__4h, Es (List (List Int)) a__5 a__5h, Es (List (List Int)) a__6 a__6h])
  refine fld gok rfl rfl rfl rfl ?_
  replace H := H.sel [1, 0, 2, 3, 4, 5, 6, 7] rfl
  refine stB (j := 3) H rfl rfl ?_; clear H; intro w22 H
  replace H : Cx w0 fp0 S0 w22 [Bx b12 [(.int .i64 a__0), (.int .i64 a__1), (.int .i64 a__2), (h20).v, (.slice none 0 0), (.slice none 0 0), (.slice none 0 0)], E (List (List Int)) y17 h20, Bx b9 [(.int .i64 0), (.int .i64 0), (.int .i64 0), (.slice none 0 0), (.slice none 0 0), (.slice none 0 0), (.slice none 0 0)], Bx b6 [(.int .i64 a__0), (.int .i64 a__1), (.int .i64 a__2), (a__3h).v, (a__4h).v, (a__5h).v, (a__6h).v], Es (List (List Int)) a__3 a__3h, Es (List (List Int)) a__4 a__4h, Es (List (List Int)) a__5 a__5h, Es (List (List Int)) a__6 a__6h] := H
  refine fld gok rfl rfl rfl rfl ?_
  refine load1 (H.bx 3 rfl (j := 4) rfl) ?_
  obtain ⟨y23, e, hF24⟩ := bindS hF18; clear hF18
  have ey23 := e; clear e
  refine callF (laws_toIntSS_c a__4 a__4h y23 ey23) (Γi := []) H ⟨Vw.sh 5 rfl, trivial⟩ ?_; clear H ey23
  rintro _ _ w25 ⟨h26, rfl, rfl⟩ (H : Cx w0 fp0 S0 w25 [E (List (List Int)) y23 h26, Bx b12 [(.int .i64 a__0), (.int .i64 a__1), (.int .i64 a__2), (h20).v, (.slice none 0 0), (.slice none 0 0), (.slice none 0 0)], E (List (List Int)) y17 h20, Bx b9 [(.int .i64 0), (.int .i64 0), (.int .i64 0), (.slice none 0 0), (.slice none 0 0), (.slice none 0 0), (.slice none 0 0)], Bx b6 [(.int .i64 a__0), (.int .i64 a__1), (.int .i64 a__2), (a__3h).v, (a__4h).v, (a__5h).v, (a__6h).v], Es (List (List Int)) a__3 a__3h, Es (List (List Int)) a__4 a__4h, Es (List (List Int)) a__5 a__5h, Es (List (List Int)) a__6 a__6h])
  refine fld gok rfl rfl rfl rfl ?_
  replace H := H.sel [1, 0, 2, 3, 4, 5, 6, 7, 8] rfl
  refine stB (j := 4) H rfl rfl ?_; clear H; intro w28 H
  replace H : Cx w0 fp0 S0 w28 [Bx b12 [(.int .i64 a__0), (.int .i64 a__1), (.int .i64 a__2), (h20).v, (h26).v, (.slice none 0 0), (.slice none 0 0)], E (List (List Int)) y23 h26, E (List (List Int)) y17 h20, Bx b9 [(.int .i64 0), (.int .i64 0), (.int .i64 0), (.slice none 0 0), (.slice none 0 0), (.slice none 0 0), (.slice none 0 0)], Bx b6 [(.int .i64 a__0), (.int .i64 a__1), (.int .i64 a__2), (a__3h).v, (a__4h).v, (a__5h).v, (a__6h).v], Es (List (List Int)) a__3 a__3h, Es (List (List Int)) a__4 a__4h, Es (List (List Int)) a__5 a__5h, Es (List (List Int)) a__6 a__6h] := H
  refine fld gok rfl rfl rfl rfl ?_
  refine load1 (H.bx 4 rfl (j := 5) rfl) ?_
  obtain ⟨y29, e, hF30⟩ := bindS hF24; clear hF24
  have ey29 := e; clear e
  refine callF (laws_toIntSS_c a__5 a__5h y29 ey29) (Γi := []) H ⟨Vw.sh 7 rfl, trivial⟩ ?_; clear H ey29
  rintro _ _ w31 ⟨h32, rfl, rfl⟩ (H : Cx w0 fp0 S0 w31 [E (List (List Int)) y29 h32, Bx b12 [(.int .i64 a__0), (.int .i64 a__1), (.int .i64 a__2), (h20).v, (h26).v, (.slice none 0 0), (.slice none 0 0)], E (List (List Int)) y23 h26, E (List (List Int)) y17 h20, Bx b9 [(.int .i64 0), (.int .i64 0), (.int .i64 0), (.slice none 0 0), (.slice none 0 0), (.slice none 0 0), (.slice none 0 0)], Bx b6 [(.int .i64 a__0), (.int .i64 a__1), (.int .i64 a__2), (a__3h).v, (a__4h).v, (a__5h).v, (a__6h).v], Es (List (List Int)) a__3 a__3h, Es (List (List Int)) a__4 a__4h, Es (List (List Int)) a__5 a__5h, Es (List (List Int)) a__6 a__6h])
  refine fld gok rfl rfl rfl rfl ?_
  replace H := H.sel [1, 0, 2, 3, 4, 5, 6, 7, 8, 9] rfl
  refine stB (j := 5) H rfl rfl ?_; clear H; intro w34 H
  replace H : Cx w0 fp0 S0 w34 [Bx b12 [(.int .i64 a__0), (.int .i64 a__1), (.int .i64 a__2), (h20).v, (h26).v, (h32).v, (.slice none 0 0)], E (List (List Int)) y29 h32, E (List (List Int)) y23 h26, E (List (List Int)) y17 h20, Bx b9 [(.int .i64 0), (.int .i64 0), (.int .i64 0), (.slice none 0 0), (.slice none 0 0), (.slice none 0 0), (.slice none 0 0)], Bx b6 [(.int .i64 a__0), (.int .i64 a__1), (.int .i64 a__2), (a__3h).v, (a__4h).v, (a__5h).v, (a__6h).v], Es (List (List Int)) a__3 a__3h, Es (List (List Int)) a__4 a__4h, Es (List (List Int)) a__5 a__5h, Es (List (List Int)) a__6 a__6h] := H
  refine fld gok rfl rfl rfl rfl ?_
  refine load1 (H.bx 5 rfl (j := 6) rfl) ?_
  obtain ⟨y35, e, hF36⟩ := bindS hF30; clear hF30
  have ey35 := e; clear e
  refine callF (laws_toIntSS_c a__6 a__6h y35 ey35) (Γi := []) H ⟨Vw.sh 9 rfl, trivial⟩ ?_; clear H ey35
  rintro _ _ w37 ⟨h38, rfl, rfl⟩ (H : Cx w0 fp0 S0 w37 [E (List (List Int)) y35 h38, Bx b12 [(.int .i64 a__0), (.int .i64 a__1), (.int .i64 a__2), (h20).v, (h26).v, (h32).v, (.slice none 0 0)], E (List (List Int)) y29 h32, E (List (List Int)) y23 h26, E (List (List Int)) y17 h20, Bx b9 [(.int .i64 0), (.int .i64 0), (.int .i64 0), (.slice none 0 0), (.slice none 0 0), (.slice none 0 0), (.slice none 0 0)], Bx b6 [(.int .i64 a__0), (.int .i64 a__1), (.int .i64 a__2), (a__3h).v, (a__4h).v, (a__5h).v, (a__6h).v], Es (List (List Int)) a__3 a__3h, Es (List (List Int)) a__4 a__4h, Es (List (List Int)) a__5 a__5h, Es (List (List Int)) a__6 a__6h])
  refine fld gok rfl rfl rfl rfl ?_
  replace H := H.sel [1, 0, 2, 3, 4, 5, 6, 7, 8, 9, 10] rfl
  refine stB (j := 6) H rfl rfl ?_; clear H; intro w40 H
  replace H : Cx w0 fp0 S0 w40 [Bx b12 [(.int .i64 a__0), (.int .i64 a__1), (.int .i64 a__2), (h20).v, (h26).v, (h32).v, (h38).v], E (List (List Int)) y35 h38, E (List (List Int)) y29 h32, E (List (List Int)) y23 h26, E (List (List Int)) y17 h20, Bx b9 [(.int .i64 0), (.int .i64 0), (.int .i64 0), (.slice none 0 0), (.slice none 0 0), (.slice none 0 0), (.slice none 0 0)], Bx b6 [(.int .i64 a__0), (.int .i64 a__1), (.int .i64 a__2), (a__3h).v, (a__4h).v, (a__5h).v, (a__6h).v], Es (List (List Int)) a__3 a__3h, Es (List (List Int)) a__4 a__4h, Es (List (List Int)) a__5 a__5h, Es (List (List Int)) a__6 a__6h] := H
  refine loadN [(.int .i64 a__0), (.int .i64 a__1), (.int .i64 a__2), (h20).v, (h26).v, (h32).v, (h38).v] rfl (fun j u hj => H.bx 0 rfl hj) ?_
  replace H := H.sel [5, 0, 1, 2, 3, 4, 6, 7, 8, 9, 10] rfl
  refine stA gok [(.int .i64 a__0), (.int .i64 a__1), (.int .i64 a__2), (h20).v, (h26).v, (h32).v, (h38).v] rfl H rfl rfl rfl ?_; clear H; intro w41 H
  replace H : Cx w0 fp0 S0 w41 [Bx b9 [(.int .i64 a__0), (.int .i64 a__1), (.int .i64 a__2), (h20).v, (h26).v, (h32).v, (h38).v], Bx b12 [(.int .i64 a__0), (.int .i64 a__1), (.int .i64 a__2), (h20).v, (h26).v, (h32).v, (h38).v], E (List (List Int)) y35 h38, E (List (List Int)) y29 h32, E (List (List Int)) y23 h26, E (List (List Int)) y17 h20, Bx b6 [(.int .i64 a__0), (.int .i64 a__1), (.int .i64 a__2), (a__3h).v, (a__4h).v, (a__5h).v, (a__6h).v], Es (List (List Int)) a__3 a__3h, Es (List (List Int)) a__4 a__4h, Es (List (List Int)) a__5 a__5h, Es (List (List Int)) a__6 a__6h] := H
  refine loadN [(.int .i64 a__0), (.int .i64 a__1), (.int .i64 a__2), (h20).v, (h26).v, (h32).v, (h38).v] rfl (fun j u hj => H.bx 0 rfl hj) ?_
  cases hF36
  exact ⟨_, _, rfl, ⟨h20, h26, h32, h38, rfl, rfl⟩, (H.sel [5, 4, 3, 2] rfl).close ⟨cloE, cloE, cloE, cloE, trivial⟩⟩

theorem laws_toMatrix_c (a__0 : Int) (a__1 : List (List Int)) (a__1h : Hd) (y_0 : Int) (y_1 : List (List Int)) (hF : F_laws_toMatrix (a__0, a__1) = some (y_0, y_1)) :
    ConF Tryd.prog 32 #[(.agg #[(.int .i64 a__0), (a__1h).v])] [Es (List (List Int)) a__1 a__1h] [] (fun v Γ' => ∃ z0 : Hd, v = (.agg #[(.int .i64 y_0), (z0).v]) ∧ Γ' = [E (List (List Int)) y_1 z0]) := by
  intro w0 S0 fp0 hI hS
  have H : Cx w0 fp0 S0 w0 [Es (List (List Int)) a__1 a__1h] := Cx.start hI hS
  clear hI hS
  refine enterC (args := [_]) gok Tryd.func32 rfl _ rfl rfl rfl ?_
  refine box_ H ?_; clear H; intro b3 w2 hx H
  clear hx
  replace H : Cx w0 fp0 S0 w2 [Bx b3 [(.int .i64 a__0), (a__1h).v], Es (List (List Int)) a__1 a__1h] := H
  refine alloc_ gok rfl H ?_; clear H; intro b6 w5 hx H
  clear hx
  replace H : Cx w0 fp0 S0 w5 [Bx b6 [(.int .i64 0), (.slice none 0 0)], Bx b3 [(.int .i64 a__0), (a__1h).v], Es (List (List Int)) a__1 a__1h] := H
  refine alloc_ gok rfl H ?_; clear H; intro b9 w8 hx H
  clear hx
  replace H : Cx w0 fp0 S0 w8 [Bx b9 [(.int .i64 0), (.slice none 0 0)], Bx b6 [(.int .i64 0), (.slice none 0 0)], Bx b3 [(.int .i64 a__0), (a__1h).v], Es (List (List Int)) a__1 a__1h] := H
  refine fld gok rfl rfl rfl rfl ?_
  refine load1 (H.bx 2 rfl (j := 0) rfl) ?_
  refine fld gok rfl rfl rfl rfl ?_
  refine stB (j := 0) H rfl rfl ?_; clear H; intro w11 H
  replace H : Cx w0 fp0 S0 w11 [Bx b9 [(.int .i64 a__0), (.slice none 0 0)], Bx b6 [(.int .i64 0), (.slice none 0 0)], Bx b3 [(.int .i64 a__0), (a__1h).v], Es (List (List Int)) a__1 a__1h] := H
  refine fld gok rfl rfl rfl rfl ?_
  refine load1 (H.bx 2 rfl (j := 1) rfl) ?_
  obtain ⟨y12, e, hF13⟩ := bindS hF; clear hF
  have ey12 := e; clear e
  refine callF (laws_toIntSS_c a__1 a__1h y12 ey12) (Γi := []) H ⟨Vw.sh 3 rfl, trivial⟩ ?_; clear H ey12
  rintro _ _ w14 ⟨h15, rfl, rfl⟩ (H : Cx w0 fp0 S0 w14 [E (List (List Int)) y12 h15, Bx b9 [(.int .i64 a__0), (.slice none 0 0)], Bx b6 [(.int .i64 0), (.slice none 0 0)], Bx b3 [(.int .i64 a__0), (a__1h).v], Es (List (List Int)) a__1 a__1h])
  refine fld gok rfl rfl rfl rfl ?_
  replace H := H.sel [1, 0, 2, 3, 4] rfl
  refine stB (j := 1) H rfl rfl ?_; clear H; intro w17 H
  replace H : Cx w0 fp0 S0 w17 [Bx b9 [(.int .i64 a__0), (h15).v], E (List (List Int)) y12 h15, Bx b6 [(.int .i64 0), (.slice none 0 0)], Bx b3 [(.int .i64 a__0), (a__1h).v], Es (List (List Int)) a__1 a__1h] := H
  refine loadN [(.int .i64 a__0), (h15).v] rfl (fun j u hj => H.bx 0 rfl hj) ?_
  replace H := H.sel [2, 0, 1, 3, 4] rfl
  refine stA gok [(.int .i64 a__0), (h15).v] rfl H rfl rfl rfl ?_; clear H; intro w18 H
  replace H : Cx w0 fp0 S0 w18 [Bx b6 [(.int .i64 a__0), (h15).v], Bx b9 [(.int .i64 a__0), (h15).v], E (List (List Int)) y12 h15, Bx b3 [(.int .i64 a__0), (a__1h).v], Es (List (List Int)) a__1 a__1h] := H
  refine loadN [(.int .i64 a__0), (h15).v] rfl (fun j u hj => H.bx 0 rfl hj) ?_
  cases hF13
  exact ⟨_, _, rfl, ⟨h15, rfl, rfl⟩, (H.sel [2] rfl).close ⟨cloE, trivial⟩⟩

theorem laws_toMatrixS_c (a_ : List (Int × List (List Int))) (a_h : Hd) (y : List (Int × List (List Int))) (hF : F_laws_toMatrixS a_ = some y) :
    ConF Tryd.prog 19 #[(a_h).v] [Es (List (Int × List (List Int))) a_ a_h] [] (fun v Γ' => ∃ z0 : Hd, v = (z0).v ∧ Γ' = [E (List (Int × List (List Int))) y z0]) := by
  intro w0 S0 fp0 hI hS
  have H : Cx w0 fp0 S0 w0 [Es (List (Int × List (List Int))) a_ a_h] := Cx.start hI hS
  clear hI hS
  refine enterC (args := [_]) gok Tryd.func19 rfl _ rfl rfl rfl ?_
  refine lenE (H.rs (α := List (Int × List (List Int))) 0 rfl).len ?_
  obtain ⟨a2, e, hF3⟩ := bindS hF; clear hF
  refine make_ (α := Int × List (List Int)) gok rfl rfl rfl rfl (makeCO_of e) H ?_; clear e H; intro h5 w4 hx H
  clear hx
  obtain ⟨r125, hF127, hF126⟩ := bindS hF3; clear hF3
  refine cut (fun (q128 : List (Int × List (List Int))) => [(3, (h5).v)]) (fun (q128 : List (Int × List (List Int))) w' => q128 = r125 ∧ Cx w0 fp0 S0 w' [E (List (Int × List (List Int))) q128 h5]) ?_ ?_
  · skip
    refine loopW _ (fun (s201 : (List (Int × List (List Int))) × Int) (_ : Unit) => [(0, (a_h).v), (3, (h5).v), (4, (.int .i64 s201.2))]) (fun (s201 : (List (Int × List (List Int))) × Int) (_ : Unit) w' => Cx w0 fp0 S0 w' [Es (List (Int × List (List Int))) a_ a_h, E (List (Int × List (List Int))) s201.1 h5]) (a2, 0) () hF127 ⟨rfl, rfl, rfl, trivial⟩ (H.sel [1, 0] rfl) ?_
    · clear H
      rintro T207 ⟨s201_0, s201_1⟩ _ w206 o208 (H : Cx w0 fp0 S0 w206 [Es (List (Int × List (List Int))) a_ a_h, E (List (Int × List (List Int))) s201_0 h5]) hrt hF209
      refine sq ?_
      refine lenE (H.rs (α := List (Int × List (List Int))) 0 rfl).len ?_
      obtain ⟨a210, e, hF211⟩ := bindS hF209; clear hF209
      refine boolO e ?_; clear e
      cases a210
      · have hF212 := condF hF211; clear hF211
        have hs := Option.some.inj hF212; subst hs; clear hF212
        have hF213 : some _ = some _ := congrArg some (hrt _ rfl).symm
        exact ⟨s201_0, ⟨rfl, trivial⟩, Option.some.inj hF213, H.sel [1] rfl⟩
      · have hF214 := condT hF211; clear hF211
        refine sq ?_
        obtain ⟨a221, e, hF222⟩ := bindS hF214; clear hF214
        have HH := H; clear H; obtain ⟨p219, m220, g223, c215, c216, c217, c218, H⟩ := HH.el (α := Int × List (List Int)) 0 rfl e; clear HH
        clear e
        obtain ⟨a221_0, a221_1⟩ := a221
        obtain ⟨_, h225⟩ := g223
        replace H := H.part (β := List (List Int)) a221_1 (h225 : Hd) 0 rfl (fun S h => (And.right h))
        replace H := H.sel [0, 2, 3] rfl
        refine idxE c215 c216 c217 ?_; clear c215 c216 c217
        refine loadN [(.int .i64 a221_0), (h225).v] rfl c218 ?_; clear c218
        obtain ⟨y227, e, hF228⟩ := bindS hF222; clear hF222
        obtain ⟨y227_0, y227_1⟩ := y227
        have ey227 := e; clear e
        refine callF (laws_toMatrix_c a221_0 a221_1 h225 y227_0 y227_1 ey227) (Γi := []) H ⟨Vw.sh 0 rfl, trivial⟩ ?_; clear H ey227
        rintro _ _ w229 ⟨h230, rfl, rfl⟩ (H : Cx w0 fp0 S0 w229 [E (List (List Int)) y227_1 h230, Es (List (List Int)) a221_1 h225, Es (List (Int × List (List Int))) a_ a_h, E (List (Int × List (List Int))) s201_0 h5])
        replace H := H.sc (α := Int) y227_0
        replace H := H.join (α := Int) (β := List (List Int))
        obtain ⟨a240, e, hF241⟩ := bindS hF228; clear hF228
        have ea240 := e; clear e
        replace H := H.sel [3, 0, 1, 2] rfl
        have HH := H; clear H; obtain ⟨p236, m237, c235, c232, c233, c234, H⟩ := HH.hole (α := Int × List (List Int)) ea240; clear HH
        refine idxE c232 c233 c234 ?_
        refine stXA (α := Int × List (List Int)) gok [(.int .i64 y227_0), (h230).v] rfl rfl H c232 rfl rfl ?_; clear H; intro w242 H
        replace H := H.sel [1, 0, 2, 3] rfl
        replace H := H.put c233 ea240; clear c232 c233 c234 ea240
        obtain ⟨a243, e, hF244⟩ := bindS hF241; clear hF241
        refine arO e ?_; clear e
        have hs := Option.some.inj hF244; subst hs; clear hF244
        exact ⟨(a240, a243), (), rfl, ⟨rfl, rfl, rfl, trivial⟩, H.sel [2, 0] rfl⟩
  · clear hF127 H
    rintro T246 s123 w245 ⟨hr, (H : Cx w0 fp0 S0 w245 [E (List (Int × List (List Int))) s123 h5])⟩
    subst hr
    cases hF126
    exact ⟨_, _, rfl, ⟨h5, rfl, rfl⟩, (H.sel [0] rfl).close ⟨cloE, trivial⟩⟩

theorem spec_l1In_c (n_ : Int) (lo_ : Int) (hi_ : Int) (y : Bool) (hF : F_spec_l1In n_ lo_ hi_ = some y) :
    ConF Tryd.prog 80 #[(.int .i64 n_), (.int .i64 lo_), (.int .i64 hi_)] [] [] (fun v Γ' => v = (.bool y) ∧ Γ' = []) := by
  intro w0 S0 fp0 hI hS
  have H : Cx w0 fp0 S0 w0 [] := Cx.start hI hS
  clear hI hS
  refine enterC (args := [_, _, _]) gok Tryd.func80 rfl _ rfl rfl rfl ?_
  obtain ⟨r9, hF11, hF10⟩ := bindS hF; clear hF
  refine cut (fun (q12 : Bool) => [(6, (.bool q12))]) (fun (q12 : Bool) w' => q12 = r9 ∧ Cx w0 fp0 S0 w' []) ?_ ?_
  · skip
    obtain ⟨a13, e, hF14⟩ := bindS hF11; clear hF11
    refine boolO e ?_; clear e
    cases a13
    · have hF15 := condF hF14; clear hF14
      exact ⟨false, ⟨rfl, trivial⟩, Option.some.inj hF15, H.sel [] rfl⟩
    · have hF16 := condT hF14; clear hF14
      obtain ⟨a17, e, hF18⟩ := bindS hF16; clear hF16
      refine boolO e ?_; clear e
      exact ⟨a17, ⟨rfl, trivial⟩, Option.some.inj hF18, H.sel [] rfl⟩
  · clear hF11 H
    rintro T20 s7 w19 ⟨hr, (H : Cx w0 fp0 S0 w19 [])⟩
    subst hr
    cases hF10
    exact ⟨_, _, rfl, ⟨rfl, rfl⟩, (H.sel [] rfl).close trivial⟩

theorem spec_fdGood_c (p_ : Int) (y : Bool) (hF : F_spec_fdGood p_ = some y) :
    ConF Tryd.prog 131 #[(.int .i64 p_)] [] [] (fun v Γ' => v = (.bool y) ∧ Γ' = []) := by
  intro w0 S0 fp0 hI hS
  have H : Cx w0 fp0 S0 w0 [] := Cx.start hI hS
  clear hI hS
  refine enterC (args := [_]) gok Tryd.func131 rfl _ rfl rfl rfl ?_
  refine sq ?_
  obtain ⟨y1, e, hF2⟩ := bindS hF; clear hF
  have ey1 := e; clear e
  refine callF (spec_l1In_c p_ 2 97 y1 ey1) (Γi := []) H trivial ?_; clear H ey1
  rintro _ _ w3 ⟨rfl, rfl⟩ (H : Cx w0 fp0 S0 w3 [])
  obtain ⟨a4, e, hF5⟩ := bindS hF2; clear hF2
  refine boolO e ?_; clear e
  cases a4
  · have hF6 := condF hF5; clear hF5
    obtain ⟨r66, hF68, hF67⟩ := bindS hF6; clear hF6
    refine cut (fun (q69 : Unit) => []) (fun (q69 : Unit) w' => .inl () = r66 ∧ Cx w0 fp0 S0 w' []) ?_ ?_
    · skip
      refine loopW _ (fun (s102 : Int) (_ : Unit) => [(0, (.int .i64 p_)), (3, (.int .i64 s102))]) (fun (s102 : Int) (_ : Unit) w' => Cx w0 fp0 S0 w' []) 2 () hF68 ⟨rfl, rfl, trivial⟩ (H.sel [] rfl) ?_
      · clear H
        rintro T108 s102 _ w107 o109 (H : Cx w0 fp0 S0 w107 []) hrt hF110
        refine sq ?_
        obtain ⟨a111, e, hF112⟩ := bindS hF110; clear hF110
        refine arO e ?_; clear e
        obtain ⟨a113, e, hF114⟩ := bindS hF112; clear hF112
        refine boolO e ?_; clear e
        cases a113
        · have hF115 := condF hF114; clear hF114
          have hs := Option.some.inj hF115; subst hs; clear hF115
          have hF116 : some _ = some _ := congrArg some (hrt _ rfl).symm
          exact ⟨(), trivial, Option.some.inj hF116, H.sel [] rfl⟩
        · have hF117 := condT hF114; clear hF114
          refine sq ?_
          obtain ⟨a118, e, hF119⟩ := bindS hF117; clear hF117
          refine remO_ e ?_; clear e
          obtain ⟨a120, e, hF121⟩ := bindS hF119; clear hF119
          refine boolO e ?_; clear e
          cases a120
          · have hF122 := condF hF121; clear hF121
            obtain ⟨a123, e, hF124⟩ := bindS hF122; clear hF122
            refine arO e ?_; clear e
            have hs := Option.some.inj hF124; subst hs; clear hF124
            exact ⟨a123, (), rfl, ⟨rfl, rfl, trivial⟩, H.sel [] rfl⟩
          · have hF125 := condT hF121; clear hF121
            have hs := Option.some.inj hF125; subst hs; clear hF125
            have hF126 : some _ = some _ := congrArg some (hrt _ rfl).symm
            have hs := Option.some.inj hF126; subst hs; clear hF126
            have hF127 : some _ = some _ := hF67; clear hF67
            cases hF127
            exact ⟨_, _, rfl, ⟨rfl, rfl⟩, (H.sel [] rfl).close trivial⟩
    · clear hF68 H
      rintro T129 _ w128 ⟨hr, (H : Cx w0 fp0 S0 w128 [])⟩
      subst hr
      cases hF67
      exact ⟨_, _, rfl, ⟨rfl, rfl⟩, (H.sel [] rfl).close trivial⟩
  · have hF130 := condT hF5; clear hF5
    cases hF130
    exact ⟨_, _, rfl, ⟨rfl, rfl⟩, (H.sel [] rfl).close trivial⟩

theorem spec_l1All_c (l_ : List Int) (l_h : Hd) (lo_ : Int) (hi_ : Int) (y : Bool) (hF : F_spec_l1All l_ lo_ hi_ = some y) :
    ConF Tryd.prog 178 #[(l_h).v, (.int .i64 lo_), (.int .i64 hi_)] [Es (List Int) l_ l_h] [] (fun v Γ' => v = (.bool y) ∧ Γ' = []) := by
  intro w0 S0 fp0 hI hS
  have H : Cx w0 fp0 S0 w0 [Es (List Int) l_ l_h] := Cx.start hI hS
  clear hI hS
  refine enterC (args := [_, _, _]) gok Tryd.func178 rfl _ rfl rfl rfl ?_
  refine sq ?_
  refine lenE (H.rs (α := List Int) 0 rfl).len ?_
  have hmx22 := (H.rs (α := List Int) 0 rfl).max
  obtain ⟨r23, e, hF24⟩ := bindS hF; clear hF
  refine loopO _ l_.length (fun (k2 : Nat) (_ : Unit) (_ : Unit) => [(1, (.int .i64 lo_)), (2, (.int .i64 hi_)), (9, (l_h).v), (10, (.int .i64 ((l_.length : Nat) : Int))), (11, (.int .i64 ((k2 : Nat) : Int)))]) (fun _ (_ : Unit) (_ : Unit) w' => Cx w0 fp0 S0 w' [Es (List Int) l_ l_h]) () () e ⟨rfl, rfl, rfl, rfl, rfl, trivial⟩ (H.sel [0] rfl) ?_ ?_
  · clear H e
    rintro T26 k2 _ _ w25 o27 hk (H : Cx w0 fp0 S0 w25 [Es (List Int) l_ l_h]) hrt hF28
    refine boolE (z := true) (ltLen hk) ?_
    refine sq ?_
    refine sq ?_
    obtain ⟨a35, e, hF36⟩ := bindS hF28; clear hF28
    obtain ⟨p33, m34, c29, c30, c31, c32⟩ := (H.rs (α := List Int) 0 rfl).at1 e; clear e
    refine idxE c29 c30 c31 ?_; clear c29 c30 c31
    refine load1 c32 ?_; clear c32
    obtain ⟨y37, e, hF38⟩ := bindS hF36; clear hF36
    have ey37 := e; clear e
    refine callF (spec_l1In_c a35 lo_ hi_ y37 ey37) (Γi := []) H trivial ?_; clear H ey37
    rintro _ _ w39 ⟨rfl, rfl⟩ (H : Cx w0 fp0 S0 w39 [Es (List Int) l_ l_h])
    obtain ⟨a40, e, hF41⟩ := bindS hF38; clear hF38
    refine boolO e ?_; clear e
    cases a40
    · have hF42 := condF hF41; clear hF41
      refine arK hk hmx22 ?_
      have hs := Option.some.inj hF42; subst hs; clear hF42
      exact ⟨(), (), rfl, ⟨rfl, rfl, rfl, rfl, rfl, trivial⟩, H.sel [0] rfl⟩
    · have hF43 := condT hF41; clear hF41
      have hs := Option.some.inj hF43; subst hs; clear hF43
      have hr := hrt _ rfl; subst hr
      have hF44 : some _ = some _ := hF24
      cases hF44
      exact ⟨_, _, rfl, ⟨rfl, rfl⟩, (H.sel [] rfl).close trivial⟩
  · clear H e
    rintro T46 _ _ w45 hr (H : Cx w0 fp0 S0 w45 [Es (List Int) l_ l_h])
    subst hr
    refine boolE (z := false) geLen ?_
    refine sq ?_
    cases hF24
    exact ⟨_, _, rfl, ⟨rfl, rfl⟩, (H.sel [] rfl).close trivial⟩

theorem spec_fdIn_c (p_ : Int) (l_ : List Int) (l_h : Hd) (y : Bool) (hF : F_spec_fdIn p_ l_ = some y) :
    ConF Tryd.prog 142 #[(.int .i64 p_), (l_h).v] [Es (List Int) l_ l_h] [] (fun v Γ' => v = (.bool y) ∧ Γ' = []) := by
  intro w0 S0 fp0 hI hS
  have H : Cx w0 fp0 S0 w0 [Es (List Int) l_ l_h] := Cx.start hI hS
  clear hI hS
  refine enterC (args := [_, _]) gok Tryd.func142 rfl _ rfl rfl rfl ?_
  obtain ⟨a2, e, hF3⟩ := bindS hF; clear hF
  refine arO e ?_; clear e
  obtain ⟨y4, e, hF5⟩ := bindS hF3; clear hF3
  have ey4 := e; clear e
  refine callF (spec_l1All_c l_ l_h 0 a2 y4 ey4) (Γi := []) H ⟨Vw.sh 0 rfl, trivial⟩ ?_; clear H ey4
  rintro _ _ w6 ⟨rfl, rfl⟩ (H : Cx w0 fp0 S0 w6 [Es (List Int) l_ l_h])
  cases hF5
  exact ⟨_, _, rfl, ⟨rfl, rfl⟩, (H.sel [] rfl).close trivial⟩

theorem spec_spRows_c (p_ : Int) (size_ : Int) (rows_ : List (List Int)) (rows_h : Hd) (y : Bool) (hF : F_spec_spRows p_ size_ rows_ = some y) :
    ConF Tryd.prog 173 #[(.int .i64 p_), (.int .i64 size_), (rows_h).v] [Es (List (List Int)) rows_ rows_h] [] (fun v Γ' => v = (.bool y) ∧ Γ' = []) := by
  intro w0 S0 fp0 hI hS
  have H : Cx w0 fp0 S0 w0 [Es (List (List Int)) rows_ rows_h] := Cx.start hI hS
  clear hI hS
  refine enterC (args := [_, _, _]) gok Tryd.func173 rfl _ rfl rfl rfl ?_
  refine sq ?_
  refine lenE (H.rs (α := List (List Int)) 0 rfl).len ?_
  have hmx45 := (H.rs (α := List (List Int)) 0 rfl).max
  obtain ⟨r46, e, hF47⟩ := bindS hF; clear hF
  refine loopO _ rows_.length (fun (k2 : Nat) (_ : Unit) (_ : Unit) => [(0, (.int .i64 p_)), (1, (.int .i64 size_)), (9, (rows_h).v), (10, (.int .i64 ((rows_.length : Nat) : Int))), (11, (.int .i64 ((k2 : Nat) : Int)))]) (fun _ (_ : Unit) (_ : Unit) w' => Cx w0 fp0 S0 w' [Es (List (List Int)) rows_ rows_h]) () () e ⟨rfl, rfl, rfl, rfl, rfl, trivial⟩ (H.sel [0] rfl) ?_ ?_
  · clear H e
    rintro T49 k2 _ _ w48 o50 hk (H : Cx w0 fp0 S0 w48 [Es (List (List Int)) rows_ rows_h]) hrt hF51
    refine boolE (z := true) (ltLen hk) ?_
    refine sq ?_
    refine sq ?_
    obtain ⟨a58, e, hF59⟩ := bindS hF51; clear hF51
    have HH := H; clear H; obtain ⟨p56, m57, h60, c52, c53, c54, c55, H⟩ := HH.elL 0 rfl e; clear HH
    clear e
    refine idxE c52 c53 c54 ?_; clear c52 c53 c54
    refine load1 c55 ?_; clear c55
    obtain ⟨r73, hF75, hF74⟩ := bindS hF59; clear hF59
    refine cut (fun (q76 : Bool) => [(0, (.int .i64 p_)), (1, (.int .i64 size_)), (9, (rows_h).v), (10, (.int .i64 ((rows_.length : Nat) : Int))), (11, (.int .i64 ((k2 : Nat) : Int))), (24, (.bool q76))]) (fun (q76 : Bool) w' => q76 = r73 ∧ Cx w0 fp0 S0 w' [Es (List (List Int)) rows_ rows_h]) ?_ ?_
    · skip
      refine lenE (H.rs (α := List Int) 0 rfl).len ?_
      obtain ⟨a77, e, hF78⟩ := bindS hF75; clear hF75
      refine boolO e ?_; clear e
      cases a77
      · have hF79 := condF hF78; clear hF78
        obtain ⟨y80, e, hF81⟩ := bindS hF79; clear hF79
        have ey80 := e; clear e
        refine callF (spec_fdIn_c p_ a58 h60 y80 ey80) (Γi := []) H ⟨Vw.sh 0 rfl, trivial⟩ ?_; clear H ey80
        rintro _ _ w82 ⟨rfl, rfl⟩ (H : Cx w0 fp0 S0 w82 [Es (List Int) a58 h60, Es (List (List Int)) rows_ rows_h])
        obtain ⟨a83, e, hF84⟩ := bindS hF81; clear hF81
        refine boolO e ?_; clear e
        exact ⟨a83, ⟨rfl, rfl, rfl, rfl, rfl, rfl, trivial⟩, Option.some.inj hF84, H.sel [1] rfl⟩
      · have hF85 := condT hF78; clear hF78
        exact ⟨true, ⟨rfl, rfl, rfl, rfl, rfl, rfl, trivial⟩, Option.some.inj hF85, H.sel [1] rfl⟩
    · clear hF75 H
      rintro T87 s71 w86 ⟨hr, (H : Cx w0 fp0 S0 w86 [Es (List (List Int)) rows_ rows_h])⟩
      subst hr
      cases s71
      · have hF88 := condF hF74; clear hF74
        refine arK hk hmx45 ?_
        have hs := Option.some.inj hF88; subst hs; clear hF88
        exact ⟨(), (), rfl, ⟨rfl, rfl, rfl, rfl, rfl, trivial⟩, H.sel [0] rfl⟩
      · have hF89 := condT hF74; clear hF74
        have hs := Option.some.inj hF89; subst hs; clear hF89
        have hr := hrt _ rfl; subst hr
        have hF90 : some _ = some _ := hF47
        cases hF90
        exact ⟨_, _, rfl, ⟨rfl, rfl⟩, (H.sel [] rfl).close trivial⟩
  · clear H e
    rintro T92 _ _ w91 hr (H : Cx w0 fp0 S0 w91 [Es (List (List Int)) rows_ rows_h])
    subst hr
    refine boolE (z := false) geLen ?_
    refine sq ?_
    cases hF47
    exact ⟨_, _, rfl, ⟨rfl, rfl⟩, (H.sel [] rfl).close trivial⟩

theorem spec_ssTable_c (p_ : Int) (rows_ : Int) (cols_ : Int) (m_ : List (List Int)) (m_h : Hd) (y : Bool) (hF : F_spec_ssTable p_ rows_ cols_ m_ = some y) :
    ConF Tryd.prog 132 #[(.int .i64 p_), (.int .i64 rows_), (.int .i64 cols_), (m_h).v] [Es (List (List Int)) m_ m_h] [] (fun v Γ' => v = (.bool y) ∧ Γ' = []) := by
  intro w0 S0 fp0 hI hS
  have H : Cx w0 fp0 S0 w0 [Es (List (List Int)) m_ m_h] := Cx.start hI hS
  clear hI hS
  refine enterC (args := [_, _, _, _]) gok Tryd.func132 rfl _ rfl rfl rfl ?_
  obtain ⟨r11, hF13, hF12⟩ := bindS hF; clear hF
  refine cut (fun (q14 : Bool) => [(8, (.bool q14))]) (fun (q14 : Bool) w' => q14 = r11 ∧ Cx w0 fp0 S0 w' []) ?_ ?_
  · skip
    refine lenE (H.rs (α := List (List Int)) 0 rfl).len ?_
    obtain ⟨a15, e, hF16⟩ := bindS hF13; clear hF13
    refine boolO e ?_; clear e
    cases a15
    · have hF17 := condF hF16; clear hF16
      exact ⟨false, ⟨rfl, trivial⟩, Option.some.inj hF17, H.sel [] rfl⟩
    · have hF18 := condT hF16; clear hF16
      obtain ⟨y19, e, hF20⟩ := bindS hF18; clear hF18
      have ey19 := e; clear e
      refine callF (spec_spRows_c p_ cols_ m_ m_h y19 ey19) (Γi := []) H ⟨Vw.sh 0 rfl, trivial⟩ ?_; clear H ey19
      rintro _ _ w21 ⟨rfl, rfl⟩ (H : Cx w0 fp0 S0 w21 [Es (List (List Int)) m_ m_h])
      exact ⟨y19, ⟨rfl, trivial⟩, Option.some.inj hF20, H.sel [] rfl⟩
  · clear hF13 H
    rintro T23 s9 w22 ⟨hr, (H : Cx w0 fp0 S0 w22 [])⟩
    subst hr
    cases hF12
    exact ⟨_, _, rfl, ⟨rfl, rfl⟩, (H.sel [] rfl).close trivial⟩

theorem spec_ssGood_c (p_ : Int) (s__0 : Int) (s__1 : Int) (s__2 : Int) (s__3 : List (List Int)) (s__3h : Hd) (s__4 : List (List Int)) (s__4h : Hd) (s__5 : List (List Int)) (s__5h : Hd) (s__6 : List (List Int)) (s__6h : Hd) (y : Bool) (hF : F_spec_ssGood p_ (s__0, s__1, s__2, s__3, s__4, s__5, s__6) = some y) :
    ConF Tryd.prog 66 #[(.int .i64 p_), (.agg #[(.int .i64 s__0), (.int .i64 s__1), (.int .i64 s__2), (s__3h).v, (s__4h).v, (s__5h).v, (s__6h).v])] [Es (List (List Int)) s__3 s__3h, Es (List (List Int)) s__4 s__4h, Es (List (List Int)) s__5 s__5h, Es (List (List Int)) s__6 s__6h] [] (fun v Γ' => v = (.bool y) ∧ Γ' = []) := by
  intro w0 S0 fp0 hI hS
  have H : Cx w0 fp0 S0 w0 [Es (List (List Int)) s__3 s__3h, Es (List (List Int)) s__4 s__4h, Es (List (List Int)) s__5 s__5h, Es (List (List Int)) s__6 s__6h] := Cx.start hI hS
  clear hI hS
  refine enterC (args := [_, _]) gok Tryd.func66 rfl _ rfl rfl rfl ?_
  refine box_ H ?_; clear H; intro b6 w5 hx H
  clear hx
  replace H : Cx w0 fp0 S0 w5 [Bx b6 [(.int .i64 s__0), (.int .i64 s__1), (.int .i64 s__2), (s__3h).v, (s__4h).v, (s__5h).v, (s__6h).v], Es (List (List Int)) s__3 s__3h, Es (List (List Int)) s__4 s__4h, Es (List (List Int)) s__5 s__5h, Es (List (List Int)) s__6 s__6h] := H
  obtain ⟨r48, hF50, hF49⟩ := bindS hF; clear hF
  refine cut (fun (q51 : Bool) => [(4, (.bool q51))]) (fun (q51 : Bool) w' => q51 = r48 ∧ Cx w0 fp0 S0 w' []) ?_ ?_
  · skip
    obtain ⟨y52, e, hF53⟩ := bindS hF50; clear hF50
    have ey52 := e; clear e
    refine callF (spec_fdGood_c p_ y52 ey52) (Γi := []) H trivial ?_; clear H ey52
    rintro _ _ w54 ⟨rfl, rfl⟩ (H : Cx w0 fp0 S0 w54 [Bx b6 [(.int .i64 s__0), (.int .i64 s__1), (.int .i64 s__2), (s__3h).v, (s__4h).v, (s__5h).v, (s__6h).v], Es (List (List Int)) s__3 s__3h, Es (List (List Int)) s__4 s__4h, Es (List (List Int)) s__5 s__5h, Es (List (List Int)) s__6 s__6h])
    cases y52
    · have hF55 := condF hF53; clear hF53
      exact ⟨false, ⟨rfl, trivial⟩, Option.some.inj hF55, H.sel [] rfl⟩
    · have hF56 := condT hF53; clear hF53
      refine fld gok rfl rfl rfl rfl ?_
      refine load1 (H.bx 0 rfl (j := 0) rfl) ?_
      obtain ⟨y57, e, hF58⟩ := bindS hF56; clear hF56
      have ey57 := e; clear e
      refine callF (spec_l1In_c s__0 0 24 y57 ey57) (Γi := []) H trivial ?_; clear H ey57
      rintro _ _ w59 ⟨rfl, rfl⟩ (H : Cx w0 fp0 S0 w59 [Bx b6 [(.int .i64 s__0), (.int .i64 s__1), (.int .i64 s__2), (s__3h).v, (s__4h).v, (s__5h).v, (s__6h).v], Es (List (List Int)) s__3 s__3h, Es (List (List Int)) s__4 s__4h, Es (List (List Int)) s__5 s__5h, Es (List (List Int)) s__6 s__6h])
      cases y57
      · have hF60 := condF hF58; clear hF58
        exact ⟨false, ⟨rfl, trivial⟩, Option.some.inj hF60, H.sel [] rfl⟩
      · have hF61 := condT hF58; clear hF58
        refine fld gok rfl rfl rfl rfl ?_
        refine load1 (H.bx 0 rfl (j := 1) rfl) ?_
        obtain ⟨y62, e, hF63⟩ := bindS hF61; clear hF61
        have ey62 := e; clear e
        refine callF (spec_l1In_c s__1 0 8 y62 ey62) (Γi := []) H trivial ?_; clear H ey62
        rintro _ _ w64 ⟨rfl, rfl⟩ (H : Cx w0 fp0 S0 w64 [Bx b6 [(.int .i64 s__0), (.int .i64 s__1), (.int .i64 s__2), (s__3h).v, (s__4h).v, (s__5h).v, (s__6h).v], Es (List (List Int)) s__3 s__3h, Es (List (List Int)) s__4 s__4h, Es (List (List Int)) s__5 s__5h, Es (List (List Int)) s__6 s__6h])
        cases y62
        · have hF65 := condF hF63; clear hF63
          exact ⟨false, ⟨rfl, trivial⟩, Option.some.inj hF65, H.sel [] rfl⟩
        · have hF66 := condT hF63; clear hF63
          refine fld gok rfl rfl rfl rfl ?_
          refine load1 (H.bx 0 rfl (j := 2) rfl) ?_
          obtain ⟨y67, e, hF68⟩ := bindS hF66; clear hF66
          have ey67 := e; clear e
          refine callF (spec_l1In_c s__2 0 8 y67 ey67) (Γi := []) H trivial ?_; clear H ey67
          rintro _ _ w69 ⟨rfl, rfl⟩ (H : Cx w0 fp0 S0 w69 [Bx b6 [(.int .i64 s__0), (.int .i64 s__1), (.int .i64 s__2), (s__3h).v, (s__4h).v, (s__5h).v, (s__6h).v], Es (List (List Int)) s__3 s__3h, Es (List (List Int)) s__4 s__4h, Es (List (List Int)) s__5 s__5h, Es (List (List Int)) s__6 s__6h])
          cases y67
          · have hF70 := condF hF68; clear hF68
            exact ⟨false, ⟨rfl, trivial⟩, Option.some.inj hF70, H.sel [] rfl⟩
          · have hF71 := condT hF68; clear hF68
            refine fld gok rfl rfl rfl rfl ?_
            refine load1 (H.bx 0 rfl (j := 0) rfl) ?_
            refine fld gok rfl rfl rfl rfl ?_
            refine load1 (H.bx 0 rfl (j := 0) rfl) ?_
            refine fld gok rfl rfl rfl rfl ?_
            refine load1 (H.bx 0 rfl (j := 3) rfl) ?_
            obtain ⟨y72, e, hF73⟩ := bindS hF71; clear hF71
            have ey72 := e; clear e
            refine callF (spec_ssTable_c p_ s__0 s__0 s__3 s__3h y72 ey72) (Γi := []) H ⟨Vw.sh 1 rfl, trivial⟩ ?_; clear H ey72
            rintro _ _ w74 ⟨rfl, rfl⟩ (H : Cx w0 fp0 S0 w74 [Bx b6 [(.int .i64 s__0), (.int .i64 s__1), (.int .i64 s__2), (s__3h).v, (s__4h).v, (s__5h).v, (s__6h).v], Es (List (List Int)) s__3 s__3h, Es (List (List Int)) s__4 s__4h, Es (List (List Int)) s__5 s__5h, Es (List (List Int)) s__6 s__6h])
            cases y72
            · have hF75 := condF hF73; clear hF73
              exact ⟨false, ⟨rfl, trivial⟩, Option.some.inj hF75, H.sel [] rfl⟩
            · have hF76 := condT hF73; clear hF73
              refine fld gok rfl rfl rfl rfl ?_
              refine load1 (H.bx 0 rfl (j := 1) rfl) ?_
              refine fld gok rfl rfl rfl rfl ?_
              refine load1 (H.bx 0 rfl (j := 0) rfl) ?_
              refine fld gok rfl rfl rfl rfl ?_
              refine load1 (H.bx 0 rfl (j := 4) rfl) ?_
              obtain ⟨y77, e, hF78⟩ := bindS hF76; clear hF76
              have ey77 := e; clear e
              refine callF (spec_ssTable_c p_ s__1 s__0 s__4 s__4h y77 ey77) (Γi := []) H ⟨Vw.sh 2 rfl, trivial⟩ ?_; clear H ey77
              rintro _ _ w79 ⟨rfl, rfl⟩ (H : Cx w0 fp0 S0 w79 [Bx b6 [(.int .i64 s__0), (.int .i64 s__1), (.int .i64 s__2), (s__3h).v, (s__4h).v, (s__5h).v, (s__6h).v], Es (List (List Int)) s__3 s__3h, Es (List (List Int)) s__4 s__4h, Es (List (List Int)) s__5 s__5h, Es (List (List Int)) s__6 s__6h])
              cases y77
              · have hF80 := condF hF78; clear hF78
                exact ⟨false, ⟨rfl, trivial⟩, Option.some.inj hF80, H.sel [] rfl⟩
              · have hF81 := condT hF78; clear hF78
                refine fld gok rfl rfl rfl rfl ?_
                refine load1 (H.bx 0 rfl (j := 0) rfl) ?_
                refine fld gok rfl rfl rfl rfl ?_
                refine load1 (H.bx 0 rfl (j := 2) rfl) ?_
                refine fld gok rfl rfl rfl rfl ?_
                refine load1 (H.bx 0 rfl (j := 5) rfl) ?_
                obtain ⟨y82, e, hF83⟩ := bindS hF81; clear hF81
                have ey82 := e; clear e
                refine callF (spec_ssTable_c p_ s__0 s__2 s__5 s__5h y82 ey82) (Γi := []) H ⟨Vw.sh 3 rfl, trivial⟩ ?_; clear H ey82
                rintro _ _ w84 ⟨rfl, rfl⟩ (H : Cx w0 fp0 S0 w84 [Bx b6 [(.int .i64 s__0), (.int .i64 s__1), (.int .i64 s__2), (s__3h).v, (s__4h).v, (s__5h).v, (s__6h).v], Es (List (List Int)) s__3 s__3h, Es (List (List Int)) s__4 s__4h, Es (List (List Int)) s__5 s__5h, Es (List (List Int)) s__6 s__6h])
                cases y82
                · have hF85 := condF hF83; clear hF83
                  exact ⟨false, ⟨rfl, trivial⟩, Option.some.inj hF85, H.sel [] rfl⟩
                · have hF86 := condT hF83; clear hF83
                  refine fld gok rfl rfl rfl rfl ?_
                  refine load1 (H.bx 0 rfl (j := 1) rfl) ?_
                  refine fld gok rfl rfl rfl rfl ?_
                  refine load1 (H.bx 0 rfl (j := 2) rfl) ?_
                  refine fld gok rfl rfl rfl rfl ?_
                  refine load1 (H.bx 0 rfl (j := 6) rfl) ?_
                  obtain ⟨y87, e, hF88⟩ := bindS hF86; clear hF86
                  have ey87 := e; clear e
                  refine callF (spec_ssTable_c p_ s__1 s__2 s__6 s__6h y87 ey87) (Γi := []) H ⟨Vw.sh 4 rfl, trivial⟩ ?_; clear H ey87
                  rintro _ _ w89 ⟨rfl, rfl⟩ (H : Cx w0 fp0 S0 w89 [Bx b6 [(.int .i64 s__0), (.int .i64 s__1), (.int .i64 s__2), (s__3h).v, (s__4h).v, (s__5h).v, (s__6h).v], Es (List (List Int)) s__3 s__3h, Es (List (List Int)) s__4 s__4h, Es (List (List Int)) s__5 s__5h, Es (List (List Int)) s__6 s__6h])
                  exact ⟨y87, ⟨rfl, trivial⟩, Option.some.inj hF88, H.sel [] rfl⟩
  · clear hF50 H
    rintro T91 s46 w90 ⟨hr, (H : Cx w0 fp0 S0 w90 [])⟩
    subst hr
    cases hF49
    exact ⟨_, _, rfl, ⟨rfl, rfl⟩, (H.sel [] rfl).close trivial⟩

theorem spec_mxGood_c (p_ : Int) (m__0 : Int) (m__1 : List (List Int)) (m__1h : Hd) (y : Bool) (hF : F_spec_mxGood p_ (m__0, m__1) = some y) :
    ConF Tryd.prog 81 #[(.int .i64 p_), (.agg #[(.int .i64 m__0), (m__1h).v])] [Es (List (List Int)) m__1 m__1h] [] (fun v Γ' => v = (.bool y) ∧ Γ' = []) := by
  intro w0 S0 fp0 hI hS
  have H : Cx w0 fp0 S0 w0 [Es (List (List Int)) m__1 m__1h] := Cx.start hI hS
  clear hI hS
  refine enterC (args := [_, _]) gok Tryd.func81 rfl _ rfl rfl rfl ?_
  refine box_ H ?_; clear H; intro b3 w2 hx H
  clear hx
  replace H : Cx w0 fp0 S0 w2 [Bx b3 [(.int .i64 m__0), (m__1h).v], Es (List (List Int)) m__1 m__1h] := H
  refine sq ?_
  obtain ⟨r23, hF25, hF24⟩ := bindS hF; clear hF
  refine cut (fun (q26 : Bool) => [(0, (.int .i64 p_)), (3, (.pointer (some ⟨b3, 0, none⟩))), (21, (.bool q26))]) (fun (q26 : Bool) w' => q26 = r23 ∧ Cx w0 fp0 S0 w' [Bx b3 [(.int .i64 m__0), (m__1h).v], Es (List (List Int)) m__1 m__1h]) ?_ ?_
  · skip
    obtain ⟨y27, e, hF28⟩ := bindS hF25; clear hF25
    have ey27 := e; clear e
    refine callF (spec_fdGood_c p_ y27 ey27) (Γi := []) H trivial ?_; clear H ey27
    rintro _ _ w29 ⟨rfl, rfl⟩ (H : Cx w0 fp0 S0 w29 [Bx b3 [(.int .i64 m__0), (m__1h).v], Es (List (List Int)) m__1 m__1h])
    obtain ⟨a30, e, hF31⟩ := bindS hF28; clear hF28
    refine boolO e ?_; clear e
    cases a30
    · have hF32 := condF hF31; clear hF31
      refine fld gok rfl rfl rfl rfl ?_
      refine load1 (H.bx 0 rfl (j := 0) rfl) ?_
      obtain ⟨y33, e, hF34⟩ := bindS hF32; clear hF32
      have ey33 := e; clear e
      refine callF (spec_l1In_c m__0 0 24 y33 ey33) (Γi := []) H trivial ?_; clear H ey33
      rintro _ _ w35 ⟨rfl, rfl⟩ (H : Cx w0 fp0 S0 w35 [Bx b3 [(.int .i64 m__0), (m__1h).v], Es (List (List Int)) m__1 m__1h])
      obtain ⟨a36, e, hF37⟩ := bindS hF34; clear hF34
      refine boolO e ?_; clear e
      cases a36
      · have hF38 := condF hF37; clear hF37
        refine fld gok rfl rfl rfl rfl ?_
        refine load1 (H.bx 0 rfl (j := 1) rfl) ?_
        refine lenE (H.rs (α := List (List Int)) 1 rfl).len ?_
        obtain ⟨a39, e, hF40⟩ := bindS hF38; clear hF38
        refine boolO e ?_; clear e
        exact ⟨a39, ⟨rfl, rfl, rfl, trivial⟩, Option.some.inj hF40, H.sel [0, 1] rfl⟩
      · have hF41 := condT hF37; clear hF37
        exact ⟨true, ⟨rfl, rfl, rfl, trivial⟩, Option.some.inj hF41, H.sel [0, 1] rfl⟩
    · have hF42 := condT hF31; clear hF31
      exact ⟨true, ⟨rfl, rfl, rfl, trivial⟩, Option.some.inj hF42, H.sel [0, 1] rfl⟩
  · clear hF25 H
    rintro T44 s21 w43 ⟨hr, (H : Cx w0 fp0 S0 w43 [Bx b3 [(.int .i64 m__0), (m__1h).v], Es (List (List Int)) m__1 m__1h])⟩
    subst hr
    cases s21
    · have hF45 := condF hF24; clear hF24
      refine sq ?_
      refine fld gok rfl rfl rfl rfl ?_
      refine load1 (H.bx 0 rfl (j := 1) rfl) ?_
      refine lenE (H.rs (α := List (List Int)) 1 rfl).len ?_
      have hmx89 := (H.rs (α := List (List Int)) 1 rfl).max
      obtain ⟨r90, e, hF91⟩ := bindS hF45; clear hF45
      refine loopO _ m__1.length (fun (k46 : Nat) (_ : Unit) (_ : Unit) => [(0, (.int .i64 p_)), (3, (.pointer (some ⟨b3, 0, none⟩))), (23, (m__1h).v), (24, (.int .i64 ((m__1.length : Nat) : Int))), (25, (.int .i64 ((k46 : Nat) : Int)))]) (fun _ (_ : Unit) (_ : Unit) w' => Cx w0 fp0 S0 w' [Bx b3 [(.int .i64 m__0), (m__1h).v], Es (List (List Int)) m__1 m__1h]) () () e ⟨rfl, rfl, rfl, rfl, rfl, trivial⟩ (H.sel [0, 1] rfl) ?_ ?_
      · clear H e
        rintro T93 k46 _ _ w92 o94 hk (H : Cx w0 fp0 S0 w92 [Bx b3 [(.int .i64 m__0), (m__1h).v], Es (List (List Int)) m__1 m__1h]) hrt hF95
        refine boolE (z := true) (ltLen hk) ?_
        refine sq ?_
        refine sq ?_
        obtain ⟨a102, e, hF103⟩ := bindS hF95; clear hF95
        have HH := H; clear H; obtain ⟨p100, m101, h104, c96, c97, c98, c99, H⟩ := HH.elL 1 rfl e; clear HH
        clear e
        refine idxE c96 c97 c98 ?_; clear c96 c97 c98
        refine load1 c99 ?_; clear c99
        obtain ⟨r117, hF119, hF118⟩ := bindS hF103; clear hF103
        refine cut (fun (q120 : Bool) => [(0, (.int .i64 p_)), (3, (.pointer (some ⟨b3, 0, none⟩))), (23, (m__1h).v), (24, (.int .i64 ((m__1.length : Nat) : Int))), (25, (.int .i64 ((k46 : Nat) : Int))), (39, (.bool q120))]) (fun (q120 : Bool) w' => q120 = r117 ∧ Cx w0 fp0 S0 w' [Bx b3 [(.int .i64 m__0), (m__1h).v], Es (List (List Int)) m__1 m__1h]) ?_ ?_
        · skip
          refine lenE (H.rs (α := List Int) 0 rfl).len ?_
          refine fld gok rfl rfl rfl rfl ?_
          refine load1 (H.bx 1 rfl (j := 0) rfl) ?_
          obtain ⟨a121, e, hF122⟩ := bindS hF119; clear hF119
          refine boolO e ?_; clear e
          cases a121
          · have hF123 := condF hF122; clear hF122
            obtain ⟨y124, e, hF125⟩ := bindS hF123; clear hF123
            have ey124 := e; clear e
            refine callF (spec_fdIn_c p_ a102 h104 y124 ey124) (Γi := []) H ⟨Vw.sh 0 rfl, trivial⟩ ?_; clear H ey124
            rintro _ _ w126 ⟨rfl, rfl⟩ (H : Cx w0 fp0 S0 w126 [Es (List Int) a102 h104, Bx b3 [(.int .i64 m__0), (m__1h).v], Es (List (List Int)) m__1 m__1h])
            obtain ⟨a127, e, hF128⟩ := bindS hF125; clear hF125
            refine boolO e ?_; clear e
            exact ⟨a127, ⟨rfl, rfl, rfl, rfl, rfl, rfl, trivial⟩, Option.some.inj hF128, H.sel [1, 2] rfl⟩
          · have hF129 := condT hF122; clear hF122
            exact ⟨true, ⟨rfl, rfl, rfl, rfl, rfl, rfl, trivial⟩, Option.some.inj hF129, H.sel [1, 2] rfl⟩
        · clear hF119 H
          rintro T131 s115 w130 ⟨hr, (H : Cx w0 fp0 S0 w130 [Bx b3 [(.int .i64 m__0), (m__1h).v], Es (List (List Int)) m__1 m__1h])⟩
          subst hr
          cases s115
          · have hF132 := condF hF118; clear hF118
            refine arK hk hmx89 ?_
            have hs := Option.some.inj hF132; subst hs; clear hF132
            exact ⟨(), (), rfl, ⟨rfl, rfl, rfl, rfl, rfl, trivial⟩, H.sel [0, 1] rfl⟩
          · have hF133 := condT hF118; clear hF118
            have hs := Option.some.inj hF133; subst hs; clear hF133
            have hr := hrt _ rfl; subst hr
            have hF134 : some _ = some _ := hF91
            cases hF134
            exact ⟨_, _, rfl, ⟨rfl, rfl⟩, (H.sel [] rfl).close trivial⟩
      · clear H e
        rintro T136 _ _ w135 hr (H : Cx w0 fp0 S0 w135 [Bx b3 [(.int .i64 m__0), (m__1h).v], Es (List (List Int)) m__1 m__1h])
        subst hr
        refine boolE (z := false) geLen ?_
        refine sq ?_
        cases hF91
        exact ⟨_, _, rfl, ⟨rfl, rfl⟩, (H.sel [] rfl).close trivial⟩
    · have hF139 := condT hF24; clear hF24
      cases hF139
      exact ⟨_, _, rfl, ⟨rfl, rfl⟩, (H.sel [] rfl).close trivial⟩

theorem spec_rzResponse_c (p_ : Int) (m_ : List (Int × List (List Int))) (m_h : Hd) (y : Bool) (hF : F_spec_rzResponse p_ m_ = some y) :
    ConF Tryd.prog 67 #[(.int .i64 p_), (m_h).v] [Es (List (Int × List (List Int))) m_ m_h] [] (fun v Γ' => v = (.bool y) ∧ Γ' = []) := by
  intro w0 S0 fp0 hI hS
  have H : Cx w0 fp0 S0 w0 [Es (List (Int × List (List Int))) m_ m_h] := Cx.start hI hS
  clear hI hS
  refine enterC (args := [_, _]) gok Tryd.func67 rfl _ rfl rfl rfl ?_
  refine sq ?_
  obtain ⟨r16, hF18, hF17⟩ := bindS hF; clear hF
  refine cut (fun (q19 : Bool) => [(0, (.int .i64 p_)), (1, (m_h).v), (15, (.bool q19))]) (fun (q19 : Bool) w' => q19 = r16 ∧ Cx w0 fp0 S0 w' [Es (List (Int × List (List Int))) m_ m_h]) ?_ ?_
  · skip
    obtain ⟨y20, e, hF21⟩ := bindS hF18; clear hF18
    have ey20 := e; clear e
    refine callF (spec_fdGood_c p_ y20 ey20) (Γi := []) H trivial ?_; clear H ey20
    rintro _ _ w22 ⟨rfl, rfl⟩ (H : Cx w0 fp0 S0 w22 [Es (List (Int × List (List Int))) m_ m_h])
    obtain ⟨a23, e, hF24⟩ := bindS hF21; clear hF21
    refine boolO e ?_; clear e
    cases a23
    · have hF25 := condF hF24; clear hF24
      refine lenE (H.rs (α := List (Int × List (List Int))) 0 rfl).len ?_
      obtain ⟨y26, e, hF27⟩ := bindS hF25; clear hF25
      have ey26 := e; clear e
      refine callF (spec_l1In_c ((m_.length : Nat) : Int) 1 60 y26 ey26) (Γi := []) H trivial ?_; clear H ey26
      rintro _ _ w28 ⟨rfl, rfl⟩ (H : Cx w0 fp0 S0 w28 [Es (List (Int × List (List Int))) m_ m_h])
      obtain ⟨a29, e, hF30⟩ := bindS hF27; clear hF27
      refine boolO e ?_; clear e
      exact ⟨a29, ⟨rfl, rfl, rfl, trivial⟩, Option.some.inj hF30, H.sel [0] rfl⟩
    · have hF31 := condT hF24; clear hF24
      exact ⟨true, ⟨rfl, rfl, rfl, trivial⟩, Option.some.inj hF31, H.sel [0] rfl⟩
  · clear hF18 H
    rintro T33 s14 w32 ⟨hr, (H : Cx w0 fp0 S0 w32 [Es (List (Int × List (List Int))) m_ m_h])⟩
    subst hr
    cases s14
    · have hF34 := condF hF17; clear hF17
      refine sq ?_
      refine lenE (H.rs (α := List (Int × List (List Int))) 0 rfl).len ?_
      have hmx142 := (H.rs (α := List (Int × List (List Int))) 0 rfl).max
      obtain ⟨r143, e, hF144⟩ := bindS hF34; clear hF34
      refine loopO _ m_.length (fun (k35 : Nat) (_ : Unit) (_ : Unit) => [(0, (.int .i64 p_)), (1, (m_h).v), (16, (m_h).v), (17, (.int .i64 ((m_.length : Nat) : Int))), (18, (.int .i64 ((k35 : Nat) : Int)))]) (fun _ (_ : Unit) (_ : Unit) w' => Cx w0 fp0 S0 w' [Es (List (Int × List (List Int))) m_ m_h]) () () e ⟨rfl, rfl, rfl, rfl, rfl, trivial⟩ (H.sel [0] rfl) ?_ ?_
      · clear H e
        rintro T146 k35 _ _ w145 o147 hk (H : Cx w0 fp0 S0 w145 [Es (List (Int × List (List Int))) m_ m_h]) hrt hF148
        refine boolE (z := true) (ltLen hk) ?_
        refine sq ?_
        refine sq ?_
        obtain ⟨a155, e, hF156⟩ := bindS hF148; clear hF148
        have HH := H; clear H; obtain ⟨p153, m154, g157, c149, c150, c151, c152, H⟩ := HH.el (α := Int × List (List Int)) 0 rfl e; clear HH
        clear e
        obtain ⟨a155_0, a155_1⟩ := a155
        obtain ⟨_, h159⟩ := g157
        replace H := H.part (β := List (List Int)) a155_1 (h159 : Hd) 0 rfl (fun S h => (And.right h))
        replace H := H.sel [0, 2] rfl
        refine idxE c149 c150 c151 ?_; clear c149 c150 c151
        refine loadN [(.int .i64 a155_0), (h159).v] rfl c152 ?_; clear c152
        refine alloc_ gok rfl H ?_; clear H; intro b162 w161 hx H
        clear hx
        replace H : Cx w0 fp0 S0 w161 [Bx b162 [(.int .i64 0), (.slice none 0 0)], Es (List (List Int)) a155_1 h159, Es (List (Int × List (List Int))) m_ m_h] := H
        refine stA gok [(.int .i64 a155_0), (h159).v] rfl H rfl rfl rfl ?_; clear H; intro w164 H
        replace H : Cx w0 fp0 S0 w164 [Bx b162 [(.int .i64 a155_0), (h159).v], Es (List (List Int)) a155_1 h159, Es (List (Int × List (List Int))) m_ m_h] := H
        obtain ⟨r205, hF207, hF206⟩ := bindS hF156; clear hF156
        refine cut (fun (q208 : Bool) => [(0, (.int .i64 p_)), (1, (m_h).v), (16, (m_h).v), (17, (.int .i64 ((m_.length : Nat) : Int))), (18, (.int .i64 ((k35 : Nat) : Int))), (45, (.bool q208))]) (fun (q208 : Bool) w' => q208 = r205 ∧ Cx w0 fp0 S0 w' [Es (List (Int × List (List Int))) m_ m_h]) ?_ ?_
        · skip
          refine heldX H [] (.fst 0 (.fst 1 (.act 2 (.fst 3 (.fst 4 (.fst 5 (.fst 8 (.fst 9 (.fst 10 (.fst 6 (.fst 7 (.fst 11 (.fst 12 (.fst 13 (.fst 14 (.fst 15 (.fst 16 (.fst 18 (.fst 19 (.fst 20 (.fst 17 (.fst 21 (.fst 22 (.fst 23 .done)))))))))))))))))))))))) mixed [] trivial (by kernel_rfl) ?_
          clear H; intro w209 H
          have hX : Ext w209 w209 := Upd.refl _ _
          have H0 := H
          refine loadNX [(.int .i64 a155_0), (h159).v] rfl (fun j u hj => H.bx 0 rfl hj) ?_
          obtain ⟨y210, e, hF211⟩ := bindS hF207; clear hF207
          have ey210 := e; clear e
          refine callFx (spec_mxGood_c p_ a155_0 a155_1 h159 y210 ey210) H ⟨Vw.sh 1 rfl, trivial⟩ ?_; clear H ey210
          rintro _ _ w212 ⟨rfl, rfl⟩ hx (H : Cx w0 fp0 S0 w212 [Bx b162 [(.int .i64 a155_0), (h159).v], Es (List (List Int)) a155_1 h159, Es (List (Int × List (List Int))) m_ m_h])
          replace hX := hX.trans0 hx; clear hx
          refine hold hX ?_
          obtain ⟨a213, e, hF214⟩ := bindS hF211; clear hF211
          refine boolO e ?_; clear e
          cases a213
          · have hF215 := condF hF214; clear hF214
            refine anyH (fun _ => fld gok rfl rfl rfl rfl ⟨rfl, rfl⟩) ?_
            obtain ⟨a222, e, hF223⟩ := bindS hF215; clear hF215
            have HH := H; clear H; obtain ⟨p220, m221, g224, c216, c217, c218, c219, H⟩ := HH.el (α := Int × List (List Int)) 2 rfl e; clear HH
            replace c219 := lateN hX (H0.rs (α := List (Int × List (List Int))) 2 rfl) rfl e c216 c219; clear e
            obtain ⟨a222_0, a222_1⟩ := a222
            obtain ⟨_, h226⟩ := g224
            replace H := H.part (β := List (List Int)) a222_1 (h226 : Hd) 0 rfl (fun S h => (And.right h))
            replace H := H.sel [0, 2, 3, 4] rfl
            refine idxE c216 c217 c218 ?_; clear c216 c217 c218
            refine anyH (fun _ => fld gok rfl rfl rfl rfl ⟨rfl, rfl⟩) ?_
            refine load1X (H0.bx 0 rfl (j := 1) rfl) ?_
            refine lenE (H.rs (α := List (List Int)) 2 rfl).len ?_
            refine load1X (c219 1 _ rfl) ?_
            refine lenE (H.rs (α := List (List Int)) 0 rfl).len ?_
            obtain ⟨a228, e, hF229⟩ := bindS hF223; clear hF223
            refine boolO e ?_; clear e
            cases a228
            · have hF230 := condF hF229; clear hF229
              refine anyH (fun _ => fld gok rfl rfl rfl rfl ⟨rfl, rfl⟩) ?_
              obtain ⟨a237, e, hF238⟩ := bindS hF230; clear hF230
              have HH := H; clear H; obtain ⟨p235, m236, g239, c231, c232, c233, c234, H⟩ := HH.el (α := Int × List (List Int)) 3 rfl e; clear HH
              replace c234 := lateN hX (H0.rs (α := List (Int × List (List Int))) 2 rfl) rfl e c231 c234; clear e
              obtain ⟨a237_0, a237_1⟩ := a237
              obtain ⟨_, h241⟩ := g239
              replace H := H.part (β := List (List Int)) a237_1 (h241 : Hd) 0 rfl (fun S h => (And.right h))
              replace H := H.sel [0, 2, 3, 4, 5] rfl
              refine idxE c231 c232 c233 ?_; clear c231 c232 c233
              refine anyH (fun _ => fld gok rfl rfl rfl rfl ⟨rfl, rfl⟩) ?_
              refine load1X (H0.bx 0 rfl (j := 0) rfl) ?_
              refine load1X (c234 0 _ rfl) ?_
              obtain ⟨a243, e, hF244⟩ := bindS hF238; clear hF238
              refine boolO e ?_; clear e
              exact ⟨a243, ⟨rfl, rfl, rfl, rfl, rfl, rfl, trivial⟩, Option.some.inj hF244, H.sel [4] rfl⟩
            · have hF245 := condT hF229; clear hF229
              exact ⟨true, ⟨rfl, rfl, rfl, rfl, rfl, rfl, trivial⟩, Option.some.inj hF245, H.sel [3] rfl⟩
          · have hF246 := condT hF214; clear hF214
            exact ⟨true, ⟨rfl, rfl, rfl, rfl, rfl, rfl, trivial⟩, Option.some.inj hF246, H.sel [2] rfl⟩
        · clear hF207 H
          rintro T248 s203 w247 ⟨hr, (H : Cx w0 fp0 S0 w247 [Es (List (Int × List (List Int))) m_ m_h])⟩
          subst hr
          cases s203
          · have hF249 := condF hF206; clear hF206
            refine arK hk hmx142 ?_
            have hs := Option.some.inj hF249; subst hs; clear hF249
            exact ⟨(), (), rfl, ⟨rfl, rfl, rfl, rfl, rfl, trivial⟩, H.sel [0] rfl⟩
          · have hF250 := condT hF206; clear hF206
            have hs := Option.some.inj hF250; subst hs; clear hF250
            have hr := hrt _ rfl; subst hr
            have hF251 : some _ = some _ := hF144
            cases hF251
            exact ⟨_, _, rfl, ⟨rfl, rfl⟩, (H.sel [] rfl).close trivial⟩
      · clear H e
        rintro T253 _ _ w252 hr (H : Cx w0 fp0 S0 w252 [Es (List (Int × List (List Int))) m_ m_h])
        subst hr
        refine boolE (z := false) geLen ?_
        refine sq ?_
        obtain ⟨r288, hF290, hF289⟩ := bindS hF144; clear hF144
        refine cut (fun (q291 : Bool) => [(4, (.bool q291))]) (fun (q291 : Bool) w' => q291 = r288 ∧ Cx w0 fp0 S0 w' []) ?_ ?_
        · skip
          obtain ⟨a298, e, hF299⟩ := bindS hF290; clear hF290
          have HH := H; clear H; obtain ⟨p296, m297, g300, c292, c293, c294, c295, H⟩ := HH.el (α := Int × List (List Int)) 0 rfl e; clear HH
          clear e
          obtain ⟨a298_0, a298_1⟩ := a298
          obtain ⟨_, h302⟩ := g300
          replace H := H.part (β := List (List Int)) a298_1 (h302 : Hd) 0 rfl (fun S h => (And.right h))
          replace H := H.sel [0, 2] rfl
          refine idxE c292 c293 c294 ?_; clear c292 c293 c294
          refine fld gok rfl rfl rfl rfl ?_
          refine load1 (c295 1 _ rfl) ?_
          refine lenE (H.rs (α := List (List Int)) 0 rfl).len ?_
          obtain ⟨a304, e, hF305⟩ := bindS hF299; clear hF299
          refine boolO e ?_; clear e
          cases a304
          · have hF306 := condF hF305; clear hF305
            exact ⟨false, ⟨rfl, trivial⟩, Option.some.inj hF306, H.sel [] rfl⟩
          · have hF307 := condT hF305; clear hF305
            obtain ⟨a314, e, hF315⟩ := bindS hF307; clear hF307
            have HH := H; clear H; obtain ⟨p312, m313, g316, c308, c309, c310, c311, H⟩ := HH.el (α := Int × List (List Int)) 1 rfl e; clear HH
            clear e
            obtain ⟨a314_0, a314_1⟩ := a314
            obtain ⟨_, h318⟩ := g316
            replace H := H.part (β := List (List Int)) a314_1 (h318 : Hd) 0 rfl (fun S h => (And.right h))
            replace H := H.sel [0, 2, 3] rfl
            refine idxE c308 c309 c310 ?_; clear c308 c309 c310
            refine fld gok rfl rfl rfl rfl ?_
            refine load1 (c311 0 _ rfl) ?_
            obtain ⟨a320, e, hF321⟩ := bindS hF315; clear hF315
            refine boolO e ?_; clear e
            exact ⟨a320, ⟨rfl, trivial⟩, Option.some.inj hF321, H.sel [] rfl⟩
        · clear hF290 H
          rintro T323 s286 w322 ⟨hr, (H : Cx w0 fp0 S0 w322 [])⟩
          subst hr
          cases hF289
          exact ⟨_, _, rfl, ⟨rfl, rfl⟩, (H.sel [] rfl).close trivial⟩
    · have hF324 := condT hF17; clear hF17
      cases hF324
      exact ⟨_, _, rfl, ⟨rfl, rfl⟩, (H.sel [] rfl).close trivial⟩

theorem spec_l1Own_c (l_ : List Int) (l_h : Hd) (y : List Int) (hF : F_spec_l1Own l_ = some y) :
    ConF Tryd.prog 144 #[(l_h).v] [Es (List Int) l_ l_h] [] (fun v Γ' => ∃ z0 : Hd, v = (z0).v ∧ Γ' = [E (List Int) y z0]) := by
  intro w0 S0 fp0 hI hS
  have H : Cx w0 fp0 S0 w0 [Es (List Int) l_ l_h] := Cx.start hI hS
  clear hI hS
  refine enterC (args := [_]) gok Tryd.func144 rfl _ rfl rfl rfl ?_
  refine lit0 (α := Int) gok rfl rfl H ?_; clear H; intro h3 w2 hx H
  clear hx
  obtain ⟨a5, e, hF6⟩ := bindS hF; clear hF
  refine appendS (α := Int) gok rfl rfl rfl rfl H (Vw.sh 0 rfl) e ?_; clear e H; intro h8 w7 H
  cases hF6
  exact ⟨_, _, rfl, ⟨h8, rfl, rfl⟩, (H.sel [0] rfl).close ⟨cloE, trivial⟩⟩

theorem spec_ssCopy_c (m_ : List (List Int)) (m_h : Hd) (y : List (List Int)) (hF : F_spec_ssCopy m_ = some y) :
    ConF Tryd.prog 120 #[(m_h).v] [Es (List (List Int)) m_ m_h] [] (fun v Γ' => ∃ z0 : Hd, v = (z0).v ∧ Γ' = [E (List (List Int)) y z0]) := by
  intro w0 S0 fp0 hI hS
  have H : Cx w0 fp0 S0 w0 [Es (List (List Int)) m_ m_h] := Cx.start hI hS
  clear hI hS
  refine enterC (args := [_]) gok Tryd.func120 rfl _ rfl rfl rfl ?_
  refine sq ?_
  refine lenE (H.rs (α := List (List Int)) 0 rfl).len ?_
  have hmx58 := (H.rs (α := List (List Int)) 0 rfl).max
  obtain ⟨r59, e, hF60⟩ := bindS hF; clear hF
  replace H := H.nil (α := List Int)
  refine loopS _ m_.length (fun (k2 : Nat) (s55 : List (List Int)) (g56 : Hd) => [(3, (g56).v), (6, (m_h).v), (7, (.int .i64 ((m_.length : Nat) : Int))), (8, (.int .i64 ((k2 : Nat) : Int)))]) (fun _ (s55 : List (List Int)) (g56 : Hd) w' => Cx w0 fp0 S0 w' [E (List (List Int)) s55 g56, Es (List (List Int)) m_ m_h]) [] nilH e ⟨rfl, rfl, rfl, rfl, trivial⟩ (H.sel [0, 1] rfl) ?_ ?_
  · clear H e
    rintro T63 k2 s55 g56 w62 o64 hk (H : Cx w0 fp0 S0 w62 [E (List (List Int)) s55 g56, Es (List (List Int)) m_ m_h]) hF65
    refine boolE (z := true) (ltLen hk) ?_
    refine sq ?_
    refine sq ?_
    obtain ⟨a72, e, hF73⟩ := bindS hF65; clear hF65
    have HH := H; clear H; obtain ⟨p70, m71, h74, c66, c67, c68, c69, H⟩ := HH.elL 1 rfl e; clear HH
    clear e
    refine idxE c66 c67 c68 ?_; clear c66 c67 c68
    refine load1 c69 ?_; clear c69
    obtain ⟨y76, e, hF77⟩ := bindS hF73; clear hF73
    have ey76 := e; clear e
    refine callF (spec_l1Own_c a72 h74 y76 ey76) (Γi := []) H ⟨Vw.sh 0 rfl, trivial⟩ ?_; clear H ey76
    rintro _ _ w78 ⟨h79, rfl, rfl⟩ (H : Cx w0 fp0 S0 w78 [E (List Int) y76 h79, Es (List Int) a72 h74, E (List (List Int)) s55 g56, Es (List (List Int)) m_ m_h])
    refine lit1 (α := List Int) (g := h79) gok rfl rfl rfl rfl rfl H ?_; clear H; intro h82 w81 hx H
    clear hx
    obtain ⟨a84, e, hF85⟩ := bindS hF77; clear hF77
    replace H := H.sel [2, 0, 1, 3] rfl
    refine append_ (α := List Int) gok rfl rfl rfl rfl H e ?_; clear e H; intro h87 w86 H
    refine arK hk hmx58 ?_
    have hs := Option.some.inj hF85; subst hs; clear hF85
    exact ⟨h87, ⟨rfl, rfl, rfl, rfl, trivial⟩, H.sel [0, 2] rfl⟩
  · clear H e
    rintro T90 g92 w89 (H : Cx w0 fp0 S0 w89 [E (List (List Int)) r59 g92, Es (List (List Int)) m_ m_h])
    refine boolE (z := false) geLen ?_
    refine sq ?_
    cases hF60
    exact ⟨_, _, rfl, ⟨g92, rfl, rfl⟩, (H.sel [0] rfl).close ⟨cloE, trivial⟩⟩

theorem spec_spSum_c (p_ : Int) (size_ : Int) (rows_ : List (List Int)) (rows_h : Hd) (coefs_ : List Int) (coefs_h : Hd) (y : List Int) (hF : F_spec_spSum p_ size_ rows_ coefs_ = some y) :
    ConF Tryd.prog 151 #[(.int .i64 p_), (.int .i64 size_), (rows_h).v, (coefs_h).v] [Es (List (List Int)) rows_ rows_h, Es (List Int) coefs_ coefs_h] [] (fun v Γ' => ∃ z0 : Hd, v = (z0).v ∧ Γ' = [E (List Int) y z0]) := by
  intro w0 S0 fp0 hI hS
  have H : Cx w0 fp0 S0 w0 [Es (List (List Int)) rows_ rows_h, Es (List Int) coefs_ coefs_h] := Cx.start hI hS
  clear hI hS
  refine enterC (args := [_, _, _, _]) gok Tryd.func151 rfl _ rfl rfl rfl ?_
  obtain ⟨a3, e, hF4⟩ := bindS hF; clear hF
  refine make_ (α := Int) gok rfl rfl rfl rfl (makeCO_of e) H ?_; clear e H; intro h6 w5 hx H
  clear hx
  refine sq ?_
  refine lenE (H.rs (α := List (List Int)) 1 rfl).len ?_
  have hmx311 := (H.rs (α := List (List Int)) 1 rfl).max
  obtain ⟨r312, e, hF313⟩ := bindS hF4; clear hF4
  refine loopS _ rows_.length (fun (k8 : Nat) (s309 : List Int) (_ : Unit) => [(0, (.int .i64 p_)), (3, (coefs_h).v), (9, (h6).v), (16, (rows_h).v), (17, (.int .i64 ((rows_.length : Nat) : Int))), (18, (.int .i64 ((k8 : Nat) : Int)))]) (fun _ (s309 : List Int) (_ : Unit) w' => Cx w0 fp0 S0 w' [Es (List Int) coefs_ coefs_h, E (List Int) s309 h6, Es (List (List Int)) rows_ rows_h]) a3 () e ⟨rfl, rfl, rfl, rfl, rfl, rfl, trivial⟩ (H.sel [2, 0, 1] rfl) ?_ ?_
  · clear H e
    rintro T315 k8 s309 _ w314 o316 hk (H : Cx w0 fp0 S0 w314 [Es (List Int) coefs_ coefs_h, E (List Int) s309 h6, Es (List (List Int)) rows_ rows_h]) hF317
    refine boolE (z := true) (ltLen hk) ?_
    refine sq ?_
    refine sq ?_
    obtain ⟨a324, e, hF325⟩ := bindS hF317; clear hF317
    have HH := H; clear H; obtain ⟨p322, m323, h326, c318, c319, c320, c321, H⟩ := HH.elL 2 rfl e; clear HH
    clear e
    refine idxE c318 c319 c320 ?_; clear c318 c319 c320
    refine load1 c321 ?_; clear c321
    refine lenE (H.rs (α := List Int) 0 rfl).len ?_
    have hmx415 := (H.rs (α := List Int) 0 rfl).max
    obtain ⟨r416, e, hF417⟩ := bindS hF325; clear hF325
    refine loopS _ a324.length (fun (k328 : Nat) (s413 : List Int) (_ : Unit) => [(0, (.int .i64 p_)), (3, (coefs_h).v), (9, (h6).v), (10, (.int .i64 ((k8 : Nat) : Int))), (16, (rows_h).v), (17, (.int .i64 ((rows_.length : Nat) : Int))), (18, (.int .i64 ((k8 : Nat) : Int))), (23, (h326).v), (24, (.int .i64 ((a324.length : Nat) : Int))), (25, (.int .i64 ((k328 : Nat) : Int)))]) (fun _ (s413 : List Int) (_ : Unit) w' => Cx w0 fp0 S0 w' [Es (List Int) coefs_ coefs_h, E (List Int) s413 h6, Es (List (List Int)) rows_ rows_h, Es (List Int) a324 h326]) s309 () e ⟨rfl, rfl, rfl, rfl, rfl, rfl, rfl, rfl, rfl, rfl, trivial⟩ (H.sel [1, 2, 3, 0] rfl) ?_ ?_
    · clear H e
      rintro T419 k328 s413 _ w418 o420 hk (H : Cx w0 fp0 S0 w418 [Es (List Int) coefs_ coefs_h, E (List Int) s413 h6, Es (List (List Int)) rows_ rows_h, Es (List Int) a324 h326]) hF421
      refine boolE (z := true) (ltLen hk) ?_
      refine sq ?_
      refine sq ?_
      obtain ⟨a428, e, hF429⟩ := bindS hF421; clear hF421
      obtain ⟨p426, m427, c422, c423, c424, c425⟩ := (H.rs (α := List Int) 3 rfl).at1 e; clear e
      refine idxE c422 c423 c424 ?_; clear c422 c423 c424
      refine load1 c425 ?_; clear c425
      refine heldX H [16] (.fst 0 (.fst 1 (.fst 2 (.fst 3 (.fst 4 (.fst 6 (.fst 7 (.fst 8 (.fst 10 (.fst 13 (.fst 5 (.fst 9 (.fst 11 (.fst 12 (.fst 14 (.fst 15 (.act 16 .done))))))))))))))))) mixed [] trivial (by kernel_rfl) ?_
      clear H; intro w430 H
      have hX : Ext w430 w430 := Upd.refl _ _
      have H0 := H
      obtain ⟨a437, e, hF438⟩ := bindS hF429; clear hF429
      obtain ⟨p435, m436, c431, c432, c433, c434⟩ := (H.ro (α := List Int) 1 rfl).at1 e; clear e
      refine idxE c431 c432 c433 ?_; clear c431 c432 c433
      obtain ⟨a445, e, hF446⟩ := bindS hF438; clear hF438
      obtain ⟨p443, m444, c439, c440, c441, c442⟩ := (H.rs (α := List Int) 0 rfl).at1 e; clear e
      refine idxE c439 c440 c441 ?_; clear c439 c440 c441
      refine load1X c434 ?_; clear c434
      refine load1X c442 ?_; clear c442
      obtain ⟨a447, e, hF448⟩ := bindS hF446; clear hF446
      refine arO e ?_; clear e
      obtain ⟨a449, e, hF450⟩ := bindS hF448; clear hF448
      refine arO e ?_; clear e
      obtain ⟨a451, e, hF452⟩ := bindS hF450; clear hF450
      refine remO_ e ?_; clear e
      obtain ⟨a459, e, hF460⟩ := bindS hF452; clear hF452
      have ea459 := e; clear e
      obtain ⟨p457, m458, c453, c454, c455⟩ := (H.ro (α := List Int) 1 rfl).setp ea459
      refine idxE c453 c454 c455 ?_
      replace H := H.sel [1, 0, 2, 3] rfl
      refine setS (α := Int) H c453 c454 ea459 ?_; clear H c453 c454 c455 ea459; intro w461 H
      refine hold trivial ?_
      refine arK hk hmx415 ?_
      have hs := Option.some.inj hF460; subst hs; clear hF460
      exact ⟨(), ⟨rfl, rfl, rfl, rfl, rfl, rfl, rfl, rfl, rfl, rfl, trivial⟩, H.sel [1, 0, 2, 3] rfl⟩
    · clear H e
      rintro T463 _ w462 (H : Cx w0 fp0 S0 w462 [Es (List Int) coefs_ coefs_h, E (List Int) r416 h6, Es (List (List Int)) rows_ rows_h, Es (List Int) a324 h326])
      refine boolE (z := false) geLen ?_
      refine sq ?_
      refine arK hk hmx311 ?_
      have hs := Option.some.inj hF417; subst hs; clear hF417
      exact ⟨(), ⟨rfl, rfl, rfl, rfl, rfl, rfl, trivial⟩, H.sel [0, 1, 2] rfl⟩
  · clear H e
    rintro T467 _ w466 (H : Cx w0 fp0 S0 w466 [Es (List Int) coefs_ coefs_h, E (List Int) r312 h6, Es (List (List Int)) rows_ rows_h])
    refine boolE (z := false) geLen ?_
    refine sq ?_
    cases hF313
    exact ⟨_, _, rfl, ⟨h6, rfl, rfl⟩, (H.sel [1] rfl).close ⟨cloE, trivial⟩⟩

theorem spec_ssTimes_c (p_ : Int) (cols_ : Int) (rows_ : List (List Int)) (rows_h : Hd) (m_ : List (List Int)) (m_h : Hd) (y : List (List Int)) (hF : F_spec_ssTimes p_ cols_ rows_ m_ = some y) :
    ConF Tryd.prog 121 #[(.int .i64 p_), (.int .i64 cols_), (rows_h).v, (m_h).v] [Es (List (List Int)) rows_ rows_h, Es (List (List Int)) m_ m_h] [] (fun v Γ' => ∃ z0 : Hd, v = (z0).v ∧ Γ' = [E (List (List Int)) y z0]) := by
  intro w0 S0 fp0 hI hS
  have H : Cx w0 fp0 S0 w0 [Es (List (List Int)) rows_ rows_h, Es (List (List Int)) m_ m_h] := Cx.start hI hS
  clear hI hS
  refine enterC (args := [_, _, _, _]) gok Tryd.func121 rfl _ rfl rfl rfl ?_
  refine sq ?_
  refine lenE (H.rs (α := List (List Int)) 0 rfl).len ?_
  have hmx59 := (H.rs (α := List (List Int)) 0 rfl).max
  obtain ⟨r60, e, hF61⟩ := bindS hF; clear hF
  replace H := H.nil (α := List Int)
  refine loopS _ rows_.length (fun (k3 : Nat) (s56 : List (List Int)) (g57 : Hd) => [(0, (.int .i64 p_)), (1, (.int .i64 cols_)), (3, (m_h).v), (9, (g57).v), (12, (rows_h).v), (13, (.int .i64 ((rows_.length : Nat) : Int))), (14, (.int .i64 ((k3 : Nat) : Int)))]) (fun _ (s56 : List (List Int)) (g57 : Hd) w' => Cx w0 fp0 S0 w' [Es (List (List Int)) m_ m_h, E (List (List Int)) s56 g57, Es (List (List Int)) rows_ rows_h]) [] nilH e ⟨rfl, rfl, rfl, rfl, rfl, rfl, rfl, trivial⟩ (H.sel [2, 0, 1] rfl) ?_ ?_
  · clear H e
    rintro T64 k3 s56 g57 w63 o65 hk (H : Cx w0 fp0 S0 w63 [Es (List (List Int)) m_ m_h, E (List (List Int)) s56 g57, Es (List (List Int)) rows_ rows_h]) hF66
    refine boolE (z := true) (ltLen hk) ?_
    refine sq ?_
    refine sq ?_
    obtain ⟨a73, e, hF74⟩ := bindS hF66; clear hF66
    have HH := H; clear H; obtain ⟨p71, m72, h75, c67, c68, c69, c70, H⟩ := HH.elL 2 rfl e; clear HH
    clear e
    refine idxE c67 c68 c69 ?_; clear c67 c68 c69
    refine load1 c70 ?_; clear c70
    obtain ⟨y77, e, hF78⟩ := bindS hF74; clear hF74
    have ey77 := e; clear e
    refine callF (spec_spSum_c p_ cols_ m_ m_h a73 h75 y77 ey77) (Γi := []) H ⟨Vw.sh 1 rfl, Vw.sh 0 rfl, trivial⟩ ?_; clear H ey77
    rintro _ _ w79 ⟨h80, rfl, rfl⟩ (H : Cx w0 fp0 S0 w79 [E (List Int) y77 h80, Es (List Int) a73 h75, Es (List (List Int)) m_ m_h, E (List (List Int)) s56 g57, Es (List (List Int)) rows_ rows_h])
    refine lit1 (α := List Int) (g := h80) gok rfl rfl rfl rfl rfl H ?_; clear H; intro h83 w82 hx H
    clear hx
    obtain ⟨a85, e, hF86⟩ := bindS hF78; clear hF78
    replace H := H.sel [3, 0, 1, 2, 4] rfl
    refine append_ (α := List Int) gok rfl rfl rfl rfl H e ?_; clear e H; intro h88 w87 H
    refine arK hk hmx59 ?_
    have hs := Option.some.inj hF86; subst hs; clear hF86
    exact ⟨h88, ⟨rfl, rfl, rfl, rfl, rfl, rfl, rfl, trivial⟩, H.sel [2, 0, 3] rfl⟩
  · clear H e
    rintro T91 g93 w90 (H : Cx w0 fp0 S0 w90 [Es (List (List Int)) m_ m_h, E (List (List Int)) r60 g93, Es (List (List Int)) rows_ rows_h])
    refine boolE (z := false) geLen ?_
    refine sq ?_
    cases hF61
    exact ⟨_, _, rfl, ⟨g93, rfl, rfl⟩, (H.sel [1] rfl).close ⟨cloE, trivial⟩⟩

theorem spec_ssMarkov_c (p_ : Int) (s__0 : Int) (s__1 : Int) (s__2 : Int) (s__3 : List (List Int)) (s__3h : Hd) (s__4 : List (List Int)) (s__4h : Hd) (s__5 : List (List Int)) (s__5h : Hd) (s__6 : List (List Int)) (s__6h : Hd) (n_ : Int) (y : List (Int × List (List Int))) (hF : F_spec_ssMarkov p_ (s__0, s__1, s__2, s__3, s__4, s__5, s__6) n_ = some y) :
    ConF Tryd.prog 133 #[(.int .i64 p_), (.agg #[(.int .i64 s__0), (.int .i64 s__1), (.int .i64 s__2), (s__3h).v, (s__4h).v, (s__5h).v, (s__6h).v]), (.int .i64 n_)] [Es (List (List Int)) s__3 s__3h, Es (List (List Int)) s__4 s__4h, Es (List (List Int)) s__5 s__5h, Es (List (List Int)) s__6 s__6h] [] (fun v Γ' => ∃ z0 : Hd, v = (z0).v ∧ Γ' = [E (List (Int × List (List Int))) y z0]) := by
  intro w0 S0 fp0 hI hS
  have H : Cx w0 fp0 S0 w0 [Es (List (List Int)) s__3 s__3h, Es (List (List Int)) s__4 s__4h, Es (List (List Int)) s__5 s__5h, Es (List (List Int)) s__6 s__6h] := Cx.start hI hS
  clear hI hS
  refine enterC (args := [_, _, _]) gok Tryd.func133 rfl _ rfl rfl rfl ?_
  refine box_ H ?_; clear H; intro b6 w5 hx H
  clear hx
  replace H : Cx w0 fp0 S0 w5 [Bx b6 [(.int .i64 s__0), (.int .i64 s__1), (.int .i64 s__2), (s__3h).v, (s__4h).v, (s__5h).v, (s__6h).v], Es (List (List Int)) s__3 s__3h, Es (List (List Int)) s__4 s__4h, Es (List (List Int)) s__5 s__5h, Es (List (List Int)) s__6 s__6h] := H
  refine fld gok rfl rfl rfl rfl ?_
  refine load1 (H.bx 0 rfl (j := 4) rfl) ?_
  obtain ⟨y8, e, hF9⟩ := bindS hF; clear hF
  have ey8 := e; clear e
  refine callF (spec_ssCopy_c s__4 s__4h y8 ey8) (Γi := []) H ⟨Vw.sh 2 rfl, trivial⟩ ?_; clear H ey8
  rintro _ _ w10 ⟨h11, rfl, rfl⟩ (H : Cx w0 fp0 S0 w10 [E (List (List Int)) y8 h11, Bx b6 [(.int .i64 s__0), (.int .i64 s__1), (.int .i64 s__2), (s__3h).v, (s__4h).v, (s__5h).v, (s__6h).v], Es (List (List Int)) s__3 s__3h, Es (List (List Int)) s__4 s__4h, Es (List (List Int)) s__5 s__5h, Es (List (List Int)) s__6 s__6h])
  obtain ⟨r333, hF335, hF334⟩ := bindS hF9; clear hF9
  refine cut (fun (q336 : (List (Int × List (List Int))) × Hd) => [(7, (q336.2).v)]) (fun (q336 : (List (Int × List (List Int))) × Hd) w' => q336.1 = r333 ∧ Cx w0 fp0 S0 w' [E (List (Int × List (List Int))) q336.1 q336.2]) ?_ ?_
  · skip
    replace H := H.nil (α := Int × List (List Int))
    refine loopW _ (fun (s543 : (List (Int × List (List Int))) × List (List Int) × Int) (g544 : Hd × Hd) => [(0, (.int .i64 p_)), (2, (.int .i64 n_)), (4, (.pointer (some ⟨b6, 0, none⟩))), (7, (g544.1).v), (8, (g544.2).v), (9, (.int .i64 s543.2.2))]) (fun (s543 : (List (Int × List (List Int))) × List (List Int) × Int) (g544 : Hd × Hd) w' => Cx w0 fp0 S0 w' [Bx b6 [(.int .i64 s__0), (.int .i64 s__1), (.int .i64 s__2), (s__3h).v, (s__4h).v, (s__5h).v, (s__6h).v], Es (List (List Int)) s__3 s__3h, Es (List (List Int)) s__4 s__4h, Es (List (List Int)) s__5 s__5h, Es (List (List Int)) s__6 s__6h, E (List (Int × List (List Int))) s543.1 g544.1, E (List (List Int)) s543.2.1 g544.2]) ([], y8, 0) (nilH, h11) hF335 ⟨rfl, rfl, rfl, rfl, rfl, rfl, trivial⟩ (H.sel [2, 3, 4, 5, 6, 0, 1] rfl) ?_
    · clear H
      rintro T552 ⟨s543_0, s543_1, s543_2⟩ ⟨g544_0, g544_1⟩ w551 o553 (H : Cx w0 fp0 S0 w551 [Bx b6 [(.int .i64 s__0), (.int .i64 s__1), (.int .i64 s__2), (s__3h).v, (s__4h).v, (s__5h).v, (s__6h).v], Es (List (List Int)) s__3 s__3h, Es (List (List Int)) s__4 s__4h, Es (List (List Int)) s__5 s__5h, Es (List (List Int)) s__6 s__6h, E (List (Int × List (List Int))) s543_0 g544_0, E (List (List Int)) s543_1 g544_1]) hrt hF554
      refine sq ?_
      obtain ⟨a555, e, hF556⟩ := bindS hF554; clear hF554
      refine boolO e ?_; clear e
      cases a555
      · have hF557 := condF hF556; clear hF556
        have hs := Option.some.inj hF557; subst hs; clear hF557
        have hF558 : some _ = some _ := congrArg some (hrt _ rfl).symm
        exact ⟨(s543_0, g544_0), ⟨rfl, trivial⟩, Option.some.inj hF558, H.sel [5] rfl⟩
      · have hF559 := condT hF556; clear hF556
        obtain ⟨r605, hF607, hF606⟩ := bindS hF559; clear hF559
        refine cut (fun (q608 : ((List (Int × List (List Int))) × List (List Int)) × (Hd × Hd)) => [(0, (.int .i64 p_)), (2, (.int .i64 n_)), (4, (.pointer (some ⟨b6, 0, none⟩))), (7, (q608.2.1).v), (8, (q608.2.2).v), (9, (.int .i64 s543_2))]) (fun (q608 : ((List (Int × List (List Int))) × List (List Int)) × (Hd × Hd)) w' => (q608.1.1, q608.1.2) = r605 ∧ Cx w0 fp0 S0 w' [Bx b6 [(.int .i64 s__0), (.int .i64 s__1), (.int .i64 s__2), (s__3h).v, (s__4h).v, (s__5h).v, (s__6h).v], Es (List (List Int)) s__3 s__3h, Es (List (List Int)) s__4 s__4h, Es (List (List Int)) s__5 s__5h, Es (List (List Int)) s__6 s__6h, E (List (Int × List (List Int))) q608.1.1 q608.2.1, E (List (List Int)) q608.1.2 q608.2.2]) ?_ ?_
        · skip
          refine sq ?_
          obtain ⟨a609, e, hF610⟩ := bindS hF607; clear hF607
          refine boolO e ?_; clear e
          cases a609
          · have hF611 := condF hF610; clear hF610
            refine heldX H [12, 13] (.fst 0 (.fst 1 (.fst 3 (.fst 4 (.fst 6 (.fst 7 (.fst 2 (.fst 5 (.fst 8 (.act 9 (.fst 10 (.act 11 (.act 12 (.act 13 .done)))))))))))))) mixed [] trivial (by kernel_rfl) ?_
            clear H; intro w612 H
            have hX : Ext w612 w612 := Upd.refl _ _
            have H0 := H
            refine anyH (fun _ => fld gok rfl rfl rfl rfl ⟨rfl, rfl⟩) ?_
            refine anyH (fun _ => fld gok rfl rfl rfl rfl ⟨rfl, rfl⟩) ?_
            refine anyH (fun _ => fld gok rfl rfl rfl rfl ⟨rfl, rfl⟩) ?_
            refine load1X (H.bx 0 rfl (j := 2) rfl) ?_
            refine load1X (H.bx 0 rfl (j := 2) rfl) ?_
            refine load1X (H.bx 0 rfl (j := 5) rfl) ?_
            obtain ⟨y613, e, hF614⟩ := bindS hF611; clear hF611
            have ey613 := e; clear e
            refine callFx (spec_ssTimes_c p_ s__2 s543_1 g544_1 s__5 s__5h y613 ey613) H ⟨Vw.own 6 rfl, Vw.sh 3 rfl, trivial⟩ ?_; clear H ey613
            rintro _ _ w615 ⟨h616, rfl, rfl⟩ hx (H : Cx w0 fp0 S0 w615 [E (List (List Int)) y613 h616, Bx b6 [(.int .i64 s__0), (.int .i64 s__1), (.int .i64 s__2), (s__3h).v, (s__4h).v, (s__5h).v, (s__6h).v], Es (List (List Int)) s__3 s__3h, Es (List (List Int)) s__4 s__4h, Es (List (List Int)) s__5 s__5h, Es (List (List Int)) s__6 s__6h, E (List (Int × List (List Int))) s543_0 g544_0, E (List (List Int)) s543_1 g544_1])
            replace hX := hX.trans0 hx; clear hx
            refine hold hX ?_
            refine anyH (fun _ => build_ (cs := #[(.int .i64 s__2), (h616).v]) gok rfl rfl rfl ⟨rfl, rfl⟩) ?_
            replace H := H.sc (α := Int) s__2
            replace H := H.join (α := Int) (β := List (List Int))
            refine lit1 (α := Int × List (List Int)) (g := ((), h616)) gok rfl rfl rfl rfl rfl H ?_; clear H; intro h619 w618 hx H
            replace hX := hX.trans0 hx; clear hx
            refine hold hX ?_
            obtain ⟨a623, e, hF624⟩ := bindS hF614; clear hF614
            replace H := H.sel [6, 0, 1, 2, 3, 4, 5, 7] rfl
            refine append_ (α := Int × List (List Int)) gok rfl rfl rfl rfl H e ?_; clear e H; intro h626 w625 H
            refine hold trivial ?_
            refine hold trivial ?_
            refine fld gok rfl rfl rfl rfl ?_
            refine load1 (H.bx 1 rfl (j := 0) rfl) ?_
            refine fld gok rfl rfl rfl rfl ?_
            refine load1 (H.bx 1 rfl (j := 3) rfl) ?_
            obtain ⟨y628, e, hF629⟩ := bindS hF624; clear hF624
            have ey628 := e; clear e
            refine callF (spec_ssTimes_c p_ s__0 s543_1 g544_1 s__3 s__3h y628 ey628) (Γi := []) H ⟨Vw.own 6 rfl, Vw.sh 2 rfl, trivial⟩ ?_; clear H ey628
            rintro _ _ w630 ⟨h631, rfl, rfl⟩ (H : Cx w0 fp0 S0 w630 [E (List (List Int)) y628 h631, E (List (Int × List (List Int))) a623 h626, Bx b6 [(.int .i64 s__0), (.int .i64 s__1), (.int .i64 s__2), (s__3h).v, (s__4h).v, (s__5h).v, (s__6h).v], Es (List (List Int)) s__3 s__3h, Es (List (List Int)) s__4 s__4h, Es (List (List Int)) s__5 s__5h, Es (List (List Int)) s__6 s__6h, E (List (List Int)) s543_1 g544_1])
            exact ⟨((a623, y628), (h626, h631)), ⟨rfl, rfl, rfl, rfl, rfl, rfl, trivial⟩, Option.some.inj hF629, H.sel [2, 3, 4, 5, 6, 1, 0] rfl⟩
          · have hF633 := condT hF610; clear hF610
            refine heldX H [8, 9] (.fst 0 (.fst 1 (.fst 3 (.fst 2 (.fst 4 (.act 5 (.fst 6 (.act 7 (.act 8 (.act 9 .done)))))))))) mixed [] trivial (by kernel_rfl) ?_
            clear H; intro w634 H
            have hX : Ext w634 w634 := Upd.refl _ _
            have H0 := H
            refine anyH (fun _ => fld gok rfl rfl rfl rfl ⟨rfl, rfl⟩) ?_
            refine anyH (fun _ => fld gok rfl rfl rfl rfl ⟨rfl, rfl⟩) ?_
            refine load1X (H.bx 0 rfl (j := 2) rfl) ?_
            refine load1X (H.bx 0 rfl (j := 6) rfl) ?_
            obtain ⟨y635, e, hF636⟩ := bindS hF633; clear hF633
            have ey635 := e; clear e
            refine callFx (spec_ssCopy_c s__6 s__6h y635 ey635) H ⟨Vw.sh 4 rfl, trivial⟩ ?_; clear H ey635
            rintro _ _ w637 ⟨h638, rfl, rfl⟩ hx (H : Cx w0 fp0 S0 w637 [E (List (List Int)) y635 h638, Bx b6 [(.int .i64 s__0), (.int .i64 s__1), (.int .i64 s__2), (s__3h).v, (s__4h).v, (s__5h).v, (s__6h).v], Es (List (List Int)) s__3 s__3h, Es (List (List Int)) s__4 s__4h, Es (List (List Int)) s__5 s__5h, Es (List (List Int)) s__6 s__6h, E (List (Int × List (List Int))) s543_0 g544_0, E (List (List Int)) s543_1 g544_1])
            replace hX := hX.trans0 hx; clear hx
            refine hold hX ?_
            refine anyH (fun _ => build_ (cs := #[(.int .i64 s__2), (h638).v]) gok rfl rfl rfl ⟨rfl, rfl⟩) ?_
            replace H := H.sc (α := Int) s__2
            replace H := H.join (α := Int) (β := List (List Int))
            refine lit1 (α := Int × List (List Int)) (g := ((), h638)) gok rfl rfl rfl rfl rfl H ?_; clear H; intro h641 w640 hx H
            replace hX := hX.trans0 hx; clear hx
            refine hold hX ?_
            obtain ⟨a645, e, hF646⟩ := bindS hF636; clear hF636
            replace H := H.sel [6, 0, 1, 2, 3, 4, 5, 7] rfl
            refine append_ (α := Int × List (List Int)) gok rfl rfl rfl rfl H e ?_; clear e H; intro h648 w647 H
            refine hold trivial ?_
            refine hold trivial ?_
            exact ⟨((a645, s543_1), (h648, g544_1)), ⟨rfl, rfl, rfl, rfl, rfl, rfl, trivial⟩, Option.some.inj hF646, H.sel [1, 2, 3, 4, 5, 0, 6] rfl⟩
        · clear hF607 H
          rintro T651 ⟨⟨s601_0, s601_1⟩, ⟨g602_0, g602_1⟩⟩ w650 ⟨hr, (H : Cx w0 fp0 S0 w650 [Bx b6 [(.int .i64 s__0), (.int .i64 s__1), (.int .i64 s__2), (s__3h).v, (s__4h).v, (s__5h).v, (s__6h).v], Es (List (List Int)) s__3 s__3h, Es (List (List Int)) s__4 s__4h, Es (List (List Int)) s__5 s__5h, Es (List (List Int)) s__6 s__6h, E (List (Int × List (List Int))) s601_0 g602_0, E (List (List Int)) s601_1 g602_1])⟩
          subst hr
          obtain ⟨a652, e, hF653⟩ := bindS hF606; clear hF606
          refine arO e ?_; clear e
          have hs := Option.some.inj hF653; subst hs; clear hF653
          exact ⟨(s601_0, s601_1, a652), (g602_0, g602_1), rfl, ⟨rfl, rfl, rfl, rfl, rfl, rfl, trivial⟩, H.sel [0, 1, 2, 3, 4, 5, 6] rfl⟩
  · clear hF335 H
    rintro T655 ⟨s330, g331⟩ w654 ⟨hr, (H : Cx w0 fp0 S0 w654 [E (List (Int × List (List Int))) s330 g331])⟩
    subst hr
    cases hF334
    exact ⟨_, _, rfl, ⟨g331, rfl, rfl⟩, (H.sel [0] rfl).close ⟨cloE, trivial⟩⟩

theorem spec_l1Same_c (a_ : List Int) (a_h : Hd) (b_ : List Int) (b_h : Hd) (y : Bool) (hF : F_spec_l1Same a_ b_ = some y) :
    ConF Tryd.prog 150 #[(a_h).v, (b_h).v] [Es (List Int) a_ a_h, Es (List Int) b_ b_h] [] (fun v Γ' => v = (.bool y) ∧ Γ' = []) := by
  intro w0 S0 fp0 hI hS
  have H : Cx w0 fp0 S0 w0 [Es (List Int) a_ a_h, Es (List Int) b_ b_h] := Cx.start hI hS
  clear hI hS
  refine enterC (args := [_, _]) gok Tryd.func150 rfl _ rfl rfl rfl ?_
  refine sq ?_
  refine lenE (H.rs (α := List Int) 0 rfl).len ?_
  refine lenE (H.rs (α := List Int) 1 rfl).len ?_
  obtain ⟨a3, e, hF4⟩ := bindS hF; clear hF
  refine boolO e ?_; clear e
  cases a3
  · have hF5 := condF hF4; clear hF4
    refine sq ?_
    refine lenE (H.rs (α := List Int) 0 rfl).len ?_
    have hmx32 := (H.rs (α := List Int) 0 rfl).max
    obtain ⟨r33, e, hF34⟩ := bindS hF5; clear hF5
    refine loopO _ a_.length (fun (k6 : Nat) (_ : Unit) (_ : Unit) => [(0, (a_h).v), (1, (b_h).v), (12, (.int .i64 ((a_.length : Nat) : Int))), (13, (.int .i64 ((k6 : Nat) : Int)))]) (fun _ (_ : Unit) (_ : Unit) w' => Cx w0 fp0 S0 w' [Es (List Int) a_ a_h, Es (List Int) b_ b_h]) () () e ⟨rfl, rfl, rfl, rfl, trivial⟩ (H.sel [0, 1] rfl) ?_ ?_
    · clear H e
      rintro T36 k6 _ _ w35 o37 hk (H : Cx w0 fp0 S0 w35 [Es (List Int) a_ a_h, Es (List Int) b_ b_h]) hrt hF38
      refine boolE (z := true) (ltLen hk) ?_
      refine sq ?_
      refine sq ?_
      refine heldX H [] (.fst 0 (.fst 1 (.fst 2 (.fst 4 (.fst 5 (.fst 6 (.fst 3 (.fst 7 (.fst 8 .done))))))))) mixed [] trivial (by kernel_rfl) ?_
      clear H; intro w39 H
      have hX : Ext w39 w39 := Upd.refl _ _
      have H0 := H
      obtain ⟨a46, e, hF47⟩ := bindS hF38; clear hF38
      obtain ⟨p44, m45, c40, c41, c42, c43⟩ := (H.rs (α := List Int) 0 rfl).at1 e; clear e
      refine idxE c40 c41 c42 ?_; clear c40 c41 c42
      obtain ⟨a54, e, hF55⟩ := bindS hF47; clear hF47
      obtain ⟨p52, m53, c48, c49, c50, c51⟩ := (H.rs (α := List Int) 1 rfl).at1 e; clear e
      refine idxE c48 c49 c50 ?_; clear c48 c49 c50
      refine load1X c43 ?_; clear c43
      refine load1X c51 ?_; clear c51
      obtain ⟨a56, e, hF57⟩ := bindS hF55; clear hF55
      refine boolO e ?_; clear e
      cases a56
      · have hF58 := condF hF57; clear hF57
        refine arK hk hmx32 ?_
        have hs := Option.some.inj hF58; subst hs; clear hF58
        exact ⟨(), (), rfl, ⟨rfl, rfl, rfl, rfl, trivial⟩, H.sel [0, 1] rfl⟩
      · have hF59 := condT hF57; clear hF57
        have hs := Option.some.inj hF59; subst hs; clear hF59
        have hr := hrt _ rfl; subst hr
        have hF60 : some _ = some _ := hF34
        cases hF60
        exact ⟨_, _, rfl, ⟨rfl, rfl⟩, (H.sel [] rfl).close trivial⟩
    · clear H e
      rintro T62 _ _ w61 hr (H : Cx w0 fp0 S0 w61 [Es (List Int) a_ a_h, Es (List Int) b_ b_h])
      subst hr
      refine boolE (z := false) geLen ?_
      refine sq ?_
      cases hF34
      exact ⟨_, _, rfl, ⟨rfl, rfl⟩, (H.sel [] rfl).close trivial⟩
  · have hF65 := condT hF4; clear hF4
    cases hF65
    exact ⟨_, _, rfl, ⟨rfl, rfl⟩, (H.sel [] rfl).close trivial⟩

theorem spec_spSame_c (a_ : List (List Int)) (a_h : Hd) (b_ : List (List Int)) (b_h : Hd) (y : Bool) (hF : F_spec_spSame a_ b_ = some y) :
    ConF Tryd.prog 134 #[(a_h).v, (b_h).v] [Es (List (List Int)) a_ a_h, Es (List (List Int)) b_ b_h] [] (fun v Γ' => v = (.bool y) ∧ Γ' = []) := by
  intro w0 S0 fp0 hI hS
  have H : Cx w0 fp0 S0 w0 [Es (List (List Int)) a_ a_h, Es (List (List Int)) b_ b_h] := Cx.start hI hS
  clear hI hS
  refine enterC (args := [_, _]) gok Tryd.func134 rfl _ rfl rfl rfl ?_
  refine sq ?_
  refine lenE (H.rs (α := List (List Int)) 0 rfl).len ?_
  refine lenE (H.rs (α := List (List Int)) 1 rfl).len ?_
  obtain ⟨a3, e, hF4⟩ := bindS hF; clear hF
  refine boolO e ?_; clear e
  cases a3
  · have hF5 := condF hF4; clear hF4
    refine sq ?_
    refine lenE (H.rs (α := List (List Int)) 0 rfl).len ?_
    have hmx39 := (H.rs (α := List (List Int)) 0 rfl).max
    obtain ⟨r40, e, hF41⟩ := bindS hF5; clear hF5
    refine loopO _ a_.length (fun (k6 : Nat) (_ : Unit) (_ : Unit) => [(0, (a_h).v), (1, (b_h).v), (12, (.int .i64 ((a_.length : Nat) : Int))), (13, (.int .i64 ((k6 : Nat) : Int)))]) (fun _ (_ : Unit) (_ : Unit) w' => Cx w0 fp0 S0 w' [Es (List (List Int)) a_ a_h, Es (List (List Int)) b_ b_h]) () () e ⟨rfl, rfl, rfl, rfl, trivial⟩ (H.sel [0, 1] rfl) ?_ ?_
    · clear H e
      rintro T43 k6 _ _ w42 o44 hk (H : Cx w0 fp0 S0 w42 [Es (List (List Int)) a_ a_h, Es (List (List Int)) b_ b_h]) hrt hF45
      refine boolE (z := true) (ltLen hk) ?_
      refine sq ?_
      refine sq ?_
      refine heldX H [] (.fst 0 (.fst 1 (.fst 2 (.fst 4 (.fst 5 (.fst 6 (.fst 3 (.fst 7 (.act 8 (.fst 9 .done)))))))))) mixed [] trivial (by kernel_rfl) ?_
      clear H; intro w46 H
      have hX : Ext w46 w46 := Upd.refl _ _
      have H0 := H
      obtain ⟨a53, e, hF54⟩ := bindS hF45; clear hF45
      have HH := H; clear H; obtain ⟨p51, m52, h55, c47, c48, c49, c50, H⟩ := HH.elL 0 rfl e; clear HH
      clear e
      refine idxE c47 c48 c49 ?_; clear c47 c48 c49
      obtain ⟨a63, e, hF64⟩ := bindS hF54; clear hF54
      have HH := H; clear H; obtain ⟨p61, m62, h65, c57, c58, c59, c60, H⟩ := HH.elL 2 rfl e; clear HH
      clear e
      refine idxE c57 c58 c59 ?_; clear c57 c58 c59
      refine load1X c50 ?_; clear c50
      refine load1X c60 ?_; clear c60
      obtain ⟨y67, e, hF68⟩ := bindS hF64; clear hF64
      have ey67 := e; clear e
      refine callFx (spec_l1Same_c a53 h55 a63 h65 y67 ey67) H ⟨Vw.sh 1 rfl, Vw.sh 0 rfl, trivial⟩ ?_; clear H ey67
      rintro _ _ w69 ⟨rfl, rfl⟩ hx (H : Cx w0 fp0 S0 w69 [Es (List Int) a63 h65, Es (List Int) a53 h55, Es (List (List Int)) a_ a_h, Es (List (List Int)) b_ b_h])
      replace hX := hX.trans0 hx; clear hx
      refine hold hX ?_
      obtain ⟨a70, e, hF71⟩ := bindS hF68; clear hF68
      refine boolO e ?_; clear e
      cases a70
      · have hF72 := condF hF71; clear hF71
        refine arK hk hmx39 ?_
        have hs := Option.some.inj hF72; subst hs; clear hF72
        exact ⟨(), (), rfl, ⟨rfl, rfl, rfl, rfl, trivial⟩, H.sel [2, 3] rfl⟩
      · have hF73 := condT hF71; clear hF71
        have hs := Option.some.inj hF73; subst hs; clear hF73
        have hr := hrt _ rfl; subst hr
        have hF74 : some _ = some _ := hF41
        cases hF74
        exact ⟨_, _, rfl, ⟨rfl, rfl⟩, (H.sel [] rfl).close trivial⟩
    · clear H e
      rintro T76 _ _ w75 hr (H : Cx w0 fp0 S0 w75 [Es (List (List Int)) a_ a_h, Es (List (List Int)) b_ b_h])
      subst hr
      refine boolE (z := false) geLen ?_
      refine sq ?_
      cases hF41
      exact ⟨_, _, rfl, ⟨rfl, rfl⟩, (H.sel [] rfl).close trivial⟩
  · have hF79 := condT hF4; clear hF4
    cases hF79
    exact ⟨_, _, rfl, ⟨rfl, rfl⟩, (H.sel [] rfl).close trivial⟩

theorem spec_rzIs_c (p_ : Int) (s__0 : Int) (s__1 : Int) (s__2 : Int) (s__3 : List (List Int)) (s__3h : Hd) (s__4 : List (List Int)) (s__4h : Hd) (s__5 : List (List Int)) (s__5h : Hd) (s__6 : List (List Int)) (s__6h : Hd) (m_ : List (Int × List (List Int))) (m_h : Hd) (y : Bool) (hF : F_spec_rzIs p_ (s__0, s__1, s__2, s__3, s__4, s__5, s__6) m_ = some y) :
    ConF Tryd.prog 68 #[(.int .i64 p_), (.agg #[(.int .i64 s__0), (.int .i64 s__1), (.int .i64 s__2), (s__3h).v, (s__4h).v, (s__5h).v, (s__6h).v]), (m_h).v] [Es (List (List Int)) s__3 s__3h, Es (List (List Int)) s__4 s__4h, Es (List (List Int)) s__5 s__5h, Es (List (List Int)) s__6 s__6h, Es (List (Int × List (List Int))) m_ m_h] [] (fun v Γ' => v = (.bool y) ∧ Γ' = []) := by
  intro w0 S0 fp0 hI hS
  have H : Cx w0 fp0 S0 w0 [Es (List (List Int)) s__3 s__3h, Es (List (List Int)) s__4 s__4h, Es (List (List Int)) s__5 s__5h, Es (List (List Int)) s__6 s__6h, Es (List (Int × List (List Int))) m_ m_h] := Cx.start hI hS
  clear hI hS
  refine enterC (args := [_, _, _]) gok Tryd.func68 rfl _ rfl rfl rfl ?_
  refine box_ H ?_; clear H; intro b7 w6 hx H
  clear hx
  replace H : Cx w0 fp0 S0 w6 [Bx b7 [(.int .i64 s__0), (.int .i64 s__1), (.int .i64 s__2), (s__3h).v, (s__4h).v, (s__5h).v, (s__6h).v], Es (List (List Int)) s__3 s__3h, Es (List (List Int)) s__4 s__4h, Es (List (List Int)) s__5 s__5h, Es (List (List Int)) s__6 s__6h, Es (List (Int × List (List Int))) m_ m_h] := H
  refine sq ?_
  refine loadN [(.int .i64 s__0), (.int .i64 s__1), (.int .i64 s__2), (s__3h).v, (s__4h).v, (s__5h).v, (s__6h).v] rfl (fun j u hj => H.bx 0 rfl hj) ?_
  refine lenE (H.rs (α := List (Int × List (List Int))) 5 rfl).len ?_
  obtain ⟨y9, e, hF10⟩ := bindS hF; clear hF
  have ey9 := e; clear e
  refine callF (spec_ssMarkov_c p_ s__0 s__1 s__2 s__3 s__3h s__4 s__4h s__5 s__5h s__6 s__6h ((m_.length : Nat) : Int) y9 ey9) (Γi := []) H ⟨Vw.sh 1 rfl, Vw.sh 2 rfl, Vw.sh 3 rfl, Vw.sh 4 rfl, trivial⟩ ?_; clear H ey9
  rintro _ _ w11 ⟨h12, rfl, rfl⟩ (H : Cx w0 fp0 S0 w11 [E (List (Int × List (List Int))) y9 h12, Bx b7 [(.int .i64 s__0), (.int .i64 s__1), (.int .i64 s__2), (s__3h).v, (s__4h).v, (s__5h).v, (s__6h).v], Es (List (List Int)) s__3 s__3h, Es (List (List Int)) s__4 s__4h, Es (List (List Int)) s__5 s__5h, Es (List (List Int)) s__6 s__6h, Es (List (Int × List (List Int))) m_ m_h])
  refine lenE (H.ro (α := List (Int × List (List Int))) 0 rfl).len ?_
  replace H := H.frz
  have hmx93 := (H.rs (α := List (Int × List (List Int))) 0 rfl).max
  obtain ⟨r94, e, hF95⟩ := bindS hF10; clear hF10
  refine loopO _ y9.length (fun (k14 : Nat) (_ : Unit) (_ : Unit) => [(2, (m_h).v), (13, (h12).v), (14, (.int .i64 ((y9.length : Nat) : Int))), (15, (.int .i64 ((k14 : Nat) : Int)))]) (fun _ (_ : Unit) (_ : Unit) w' => Cx w0 fp0 S0 w' [Es (List (Int × List (List Int))) m_ m_h, Es (List (Int × List (List Int))) y9 h12]) () () e ⟨rfl, rfl, rfl, rfl, trivial⟩ (H.sel [6, 0] rfl) ?_ ?_
  · clear H e
    rintro T97 k14 _ _ w96 o98 hk (H : Cx w0 fp0 S0 w96 [Es (List (Int × List (List Int))) m_ m_h, Es (List (Int × List (List Int))) y9 h12]) hrt hF99
    refine boolE (z := true) (ltLen hk) ?_
    refine sq ?_
    refine sq ?_
    obtain ⟨a106, e, hF107⟩ := bindS hF99; clear hF99
    have HH := H; clear H; obtain ⟨p104, m105, g108, c100, c101, c102, c103, H⟩ := HH.el (α := Int × List (List Int)) 1 rfl e; clear HH
    clear e
    obtain ⟨a106_0, a106_1⟩ := a106
    obtain ⟨_, h110⟩ := g108
    replace H := H.part (β := List (List Int)) a106_1 (h110 : Hd) 0 rfl (fun S h => (And.right h))
    replace H := H.sel [0, 2, 3] rfl
    refine idxE c100 c101 c102 ?_; clear c100 c101 c102
    refine loadN [(.int .i64 a106_0), (h110).v] rfl c103 ?_; clear c103
    refine alloc_ gok rfl H ?_; clear H; intro b113 w112 hx H
    clear hx
    replace H : Cx w0 fp0 S0 w112 [Bx b113 [(.int .i64 0), (.slice none 0 0)], Es (List (List Int)) a106_1 h110, Es (List (Int × List (List Int))) m_ m_h, Es (List (Int × List (List Int))) y9 h12] := H
    refine stA gok [(.int .i64 a106_0), (h110).v] rfl H rfl rfl rfl ?_; clear H; intro w115 H
    replace H : Cx w0 fp0 S0 w115 [Bx b113 [(.int .i64 a106_0), (h110).v], Es (List (List Int)) a106_1 h110, Es (List (Int × List (List Int))) m_ m_h, Es (List (Int × List (List Int))) y9 h12] := H
    refine heldX H [] (.fst 0 (.fst 2 (.fst 3 (.fst 4 (.fst 5 (.fst 1 (.fst 6 (.act 7 (.fst 8 .done))))))))) mixed [] trivial (by kernel_rfl) ?_
    clear H; intro w116 H
    have hX : Ext w116 w116 := Upd.refl _ _
    have H0 := H
    refine anyH (fun _ => fld gok rfl rfl rfl rfl ⟨rfl, rfl⟩) ?_
    obtain ⟨a123, e, hF124⟩ := bindS hF107; clear hF107
    have HH := H; clear H; obtain ⟨p121, m122, g125, c117, c118, c119, c120, H⟩ := HH.el (α := Int × List (List Int)) 2 rfl e; clear HH
    clear e
    obtain ⟨a123_0, a123_1⟩ := a123
    obtain ⟨_, h127⟩ := g125
    replace H := H.part (β := List (List Int)) a123_1 (h127 : Hd) 0 rfl (fun S h => (And.right h))
    replace H := H.sel [0, 2, 3, 4, 5] rfl
    refine idxE c117 c118 c119 ?_; clear c117 c118 c119
    refine anyH (fun _ => fld gok rfl rfl rfl rfl ⟨rfl, rfl⟩) ?_
    refine load1X (H.bx 1 rfl (j := 1) rfl) ?_
    refine load1X (c120 1 _ rfl) ?_
    obtain ⟨y129, e, hF130⟩ := bindS hF124; clear hF124
    have ey129 := e; clear e
    refine callFx (spec_spSame_c a106_1 h110 a123_1 h127 y129 ey129) H ⟨Vw.sh 2 rfl, Vw.sh 0 rfl, trivial⟩ ?_; clear H ey129
    rintro _ _ w131 ⟨rfl, rfl⟩ hx (H : Cx w0 fp0 S0 w131 [Es (List (List Int)) a123_1 h127, Bx b113 [(.int .i64 a106_0), (h110).v], Es (List (List Int)) a106_1 h110, Es (List (Int × List (List Int))) m_ m_h, Es (List (Int × List (List Int))) y9 h12])
    replace hX := hX.trans0 hx; clear hx
    refine hold hX ?_
    obtain ⟨a132, e, hF133⟩ := bindS hF130; clear hF130
    refine boolO e ?_; clear e
    cases a132
    · have hF134 := condF hF133; clear hF133
      refine arK hk hmx93 ?_
      have hs := Option.some.inj hF134; subst hs; clear hF134
      exact ⟨(), (), rfl, ⟨rfl, rfl, rfl, rfl, trivial⟩, H.sel [3, 4] rfl⟩
    · have hF135 := condT hF133; clear hF133
      have hs := Option.some.inj hF135; subst hs; clear hF135
      have hr := hrt _ rfl; subst hr
      have hF136 : some _ = some _ := hF95
      cases hF136
      exact ⟨_, _, rfl, ⟨rfl, rfl⟩, (H.sel [] rfl).close trivial⟩
  · clear H e
    rintro T138 _ _ w137 hr (H : Cx w0 fp0 S0 w137 [Es (List (Int × List (List Int))) m_ m_h, Es (List (Int × List (List Int))) y9 h12])
    subst hr
    refine boolE (z := false) geLen ?_
    refine sq ?_
    cases hF95
    exact ⟨_, _, rfl, ⟨rfl, rfl⟩, (H.sel [] rfl).close trivial⟩

theorem spec_IsRealization_c (p_ : Int) (s__0 : Int) (s__1 : Int) (s__2 : Int) (s__3 : List (List Int)) (s__3h : Hd) (s__4 : List (List Int)) (s__4h : Hd) (s__5 : List (List Int)) (s__5h : Hd) (s__6 : List (List Int)) (s__6h : Hd) (m_ : List (Int × List (List Int))) (m_h : Hd) (y0 : Bool) (y1 : Bool) (hF : F_spec_IsRealization p_ (s__0, s__1, s__2, s__3, s__4, s__5, s__6) m_ = some (y0, y1)) :
    ConF Tryd.prog 17 #[(.int .i64 p_), (.agg #[(.int .i64 s__0), (.int .i64 s__1), (.int .i64 s__2), (s__3h).v, (s__4h).v, (s__5h).v, (s__6h).v]), (m_h).v] [Es (List (List Int)) s__3 s__3h, Es (List (List Int)) s__4 s__4h, Es (List (List Int)) s__5 s__5h, Es (List (List Int)) s__6 s__6h, Es (List (Int × List (List Int))) m_ m_h] [] (fun v Γ' => v = (.tuple #[(.bool y0), (.bool y1)]) ∧ Γ' = []) := by
  intro w0 S0 fp0 hI hS
  have H : Cx w0 fp0 S0 w0 [Es (List (List Int)) s__3 s__3h, Es (List (List Int)) s__4 s__4h, Es (List (List Int)) s__5 s__5h, Es (List (List Int)) s__6 s__6h, Es (List (Int × List (List Int))) m_ m_h] := Cx.start hI hS
  clear hI hS
  refine enterC (args := [_, _, _]) gok Tryd.func17 rfl _ rfl rfl rfl ?_
  refine box_ H ?_; clear H; intro b7 w6 hx H
  clear hx
  replace H : Cx w0 fp0 S0 w6 [Bx b7 [(.int .i64 s__0), (.int .i64 s__1), (.int .i64 s__2), (s__3h).v, (s__4h).v, (s__5h).v, (s__6h).v], Es (List (List Int)) s__3 s__3h, Es (List (List Int)) s__4 s__4h, Es (List (List Int)) s__5 s__5h, Es (List (List Int)) s__6 s__6h, Es (List (Int × List (List Int))) m_ m_h] := H
  refine sq ?_
  obtain ⟨r56, hF58, hF57⟩ := bindS hF; clear hF
  refine cut (fun (q59 : Bool) => [(0, (.int .i64 p_)), (2, (m_h).v), (4, (.pointer (some ⟨b7, 0, none⟩))), (36, (.bool q59))]) (fun (q59 : Bool) w' => q59 = r56 ∧ Cx w0 fp0 S0 w' [Es (List (Int × List (List Int))) m_ m_h, Bx b7 [(.int .i64 s__0), (.int .i64 s__1), (.int .i64 s__2), (s__3h).v, (s__4h).v, (s__5h).v, (s__6h).v], Es (List (List Int)) s__3 s__3h, Es (List (List Int)) s__4 s__4h, Es (List (List Int)) s__5 s__5h, Es (List (List Int)) s__6 s__6h]) ?_ ?_
  · skip
    refine heldX H [] (.fst 0 (.fst 1 (.act 2 (.fst 3 (.fst 4 (.fst 5 (.fst 6 (.act 7 (.fst 8 (.fst 9 (.fst 10 (.fst 11 (.fst 12 (.fst 13 (.fst 16 (.fst 14 (.fst 15 (.fst 17 (.fst 18 (.fst 19 (.fst 20 (.fst 21 (.fst 22 (.fst 23 (.fst 25 (.fst 24 (.fst 26 (.fst 27 (.fst 28 .done))))))))))))))))))))))))))))) mixed [] trivial (by kernel_rfl) ?_
    clear H; intro w60 H
    have hX : Ext w60 w60 := Upd.refl _ _
    have H0 := H
    refine loadNX [(.int .i64 s__0), (.int .i64 s__1), (.int .i64 s__2), (s__3h).v, (s__4h).v, (s__5h).v, (s__6h).v] rfl (fun j u hj => H.bx 0 rfl hj) ?_
    obtain ⟨y61, e, hF62⟩ := bindS hF58; clear hF58
    have ey61 := e; clear e
    refine callFx (spec_ssGood_c p_ s__0 s__1 s__2 s__3 s__3h s__4 s__4h s__5 s__5h s__6 s__6h y61 ey61) H ⟨Vw.sh 1 rfl, Vw.sh 2 rfl, Vw.sh 3 rfl, Vw.sh 4 rfl, trivial⟩ ?_; clear H ey61
    rintro _ _ w63 ⟨rfl, rfl⟩ hx (H : Cx w0 fp0 S0 w63 [Bx b7 [(.int .i64 s__0), (.int .i64 s__1), (.int .i64 s__2), (s__3h).v, (s__4h).v, (s__5h).v, (s__6h).v], Es (List (List Int)) s__3 s__3h, Es (List (List Int)) s__4 s__4h, Es (List (List Int)) s__5 s__5h, Es (List (List Int)) s__6 s__6h, Es (List (Int × List (List Int))) m_ m_h])
    replace hX := hX.trans0 hx; clear hx
    refine hold hX ?_
    obtain ⟨a64, e, hF65⟩ := bindS hF62; clear hF62
    refine boolO e ?_; clear e
    cases a64
    · have hF66 := condF hF65; clear hF65
      obtain ⟨y67, e, hF68⟩ := bindS hF66; clear hF66
      have ey67 := e; clear e
      refine callFx (spec_rzResponse_c p_ m_ m_h y67 ey67) H ⟨Vw.sh 5 rfl, trivial⟩ ?_; clear H ey67
      rintro _ _ w69 ⟨rfl, rfl⟩ hx (H : Cx w0 fp0 S0 w69 [Bx b7 [(.int .i64 s__0), (.int .i64 s__1), (.int .i64 s__2), (s__3h).v, (s__4h).v, (s__5h).v, (s__6h).v], Es (List (List Int)) s__3 s__3h, Es (List (List Int)) s__4 s__4h, Es (List (List Int)) s__5 s__5h, Es (List (List Int)) s__6 s__6h, Es (List (Int × List (List Int))) m_ m_h])
      replace hX := hX.trans0 hx; clear hx
      refine hold hX ?_
      obtain ⟨a70, e, hF71⟩ := bindS hF68; clear hF68
      refine boolO e ?_; clear e
      cases a70
      · have hF72 := condF hF71; clear hF71
        obtain ⟨a79, e, hF80⟩ := bindS hF72; clear hF72
        have HH := H; clear H; obtain ⟨p77, m78, g81, c73, c74, c75, c76, H⟩ := HH.el (α := Int × List (List Int)) 5 rfl e; clear HH
        replace c76 := lateN hX (H0.rs (α := List (Int × List (List Int))) 5 rfl) rfl e c73 c76; clear e
        obtain ⟨a79_0, a79_1⟩ := a79
        obtain ⟨_, h83⟩ := g81
        replace H := H.part (β := List (List Int)) a79_1 (h83 : Hd) 0 rfl (fun S h => (And.right h))
        replace H := H.sel [0, 2, 3, 4, 5, 6, 7] rfl
        refine idxE c73 c74 c75 ?_; clear c73 c74 c75
        refine anyH (fun _ => fld gok rfl rfl rfl rfl ⟨rfl, rfl⟩) ?_
        refine anyH (fun _ => fld gok rfl rfl rfl rfl ⟨rfl, rfl⟩) ?_
        refine load1X (c76 1 _ rfl) ?_
        refine lenE (H.rs (α := List (List Int)) 0 rfl).len ?_
        refine load1X (H0.bx 0 rfl (j := 1) rfl) ?_
        obtain ⟨a85, e, hF86⟩ := bindS hF80; clear hF80
        refine boolO e ?_; clear e
        cases a85
        · have hF87 := condF hF86; clear hF86
          obtain ⟨a94, e, hF95⟩ := bindS hF87; clear hF87
          have HH := H; clear H; obtain ⟨p92, m93, g96, c88, c89, c90, c91, H⟩ := HH.el (α := Int × List (List Int)) 6 rfl e; clear HH
          replace c91 := lateN hX (H0.rs (α := List (Int × List (List Int))) 5 rfl) rfl e c88 c91; clear e
          obtain ⟨a94_0, a94_1⟩ := a94
          obtain ⟨_, h98⟩ := g96
          replace H := H.part (β := List (List Int)) a94_1 (h98 : Hd) 0 rfl (fun S h => (And.right h))
          replace H := H.sel [0, 2, 3, 4, 5, 6, 7, 8] rfl
          refine idxE c88 c89 c90 ?_; clear c88 c89 c90
          refine anyH (fun _ => fld gok rfl rfl rfl rfl ⟨rfl, rfl⟩) ?_
          refine anyH (fun _ => fld gok rfl rfl rfl rfl ⟨rfl, rfl⟩) ?_
          refine load1X (c91 0 _ rfl) ?_
          refine load1X (H0.bx 0 rfl (j := 2) rfl) ?_
          obtain ⟨a100, e, hF101⟩ := bindS hF95; clear hF95
          refine boolO e ?_; clear e
          exact ⟨a100, ⟨rfl, rfl, rfl, rfl, trivial⟩, Option.some.inj hF101, H.sel [7, 2, 3, 4, 5, 6] rfl⟩
        · have hF102 := condT hF86; clear hF86
          exact ⟨true, ⟨rfl, rfl, rfl, rfl, trivial⟩, Option.some.inj hF102, H.sel [6, 1, 2, 3, 4, 5] rfl⟩
      · have hF103 := condT hF71; clear hF71
        exact ⟨true, ⟨rfl, rfl, rfl, rfl, trivial⟩, Option.some.inj hF103, H.sel [5, 0, 1, 2, 3, 4] rfl⟩
    · have hF104 := condT hF65; clear hF65
      exact ⟨true, ⟨rfl, rfl, rfl, rfl, trivial⟩, Option.some.inj hF104, H.sel [5, 0, 1, 2, 3, 4] rfl⟩
  · clear hF58 H
    rintro T106 s54 w105 ⟨hr, (H : Cx w0 fp0 S0 w105 [Es (List (Int × List (List Int))) m_ m_h, Bx b7 [(.int .i64 s__0), (.int .i64 s__1), (.int .i64 s__2), (s__3h).v, (s__4h).v, (s__5h).v, (s__6h).v], Es (List (List Int)) s__3 s__3h, Es (List (List Int)) s__4 s__4h, Es (List (List Int)) s__5 s__5h, Es (List (List Int)) s__6 s__6h])⟩
    subst hr
    cases s54
    · have hF107 := condF hF57; clear hF57
      refine loadN [(.int .i64 s__0), (.int .i64 s__1), (.int .i64 s__2), (s__3h).v, (s__4h).v, (s__5h).v, (s__6h).v] rfl (fun j u hj => H.bx 1 rfl hj) ?_
      obtain ⟨y108, e, hF109⟩ := bindS hF107; clear hF107
      have ey108 := e; clear e
      refine callF (spec_rzIs_c p_ s__0 s__1 s__2 s__3 s__3h s__4 s__4h s__5 s__5h s__6 s__6h m_ m_h y108 ey108) (Γi := []) H ⟨Vw.sh 2 rfl, Vw.sh 3 rfl, Vw.sh 4 rfl, Vw.sh 5 rfl, Vw.sh 0 rfl, trivial⟩ ?_; clear H ey108
      rintro _ _ w110 ⟨rfl, rfl⟩ (H : Cx w0 fp0 S0 w110 [Es (List (Int × List (List Int))) m_ m_h, Bx b7 [(.int .i64 s__0), (.int .i64 s__1), (.int .i64 s__2), (s__3h).v, (s__4h).v, (s__5h).v, (s__6h).v], Es (List (List Int)) s__3 s__3h, Es (List (List Int)) s__4 s__4h, Es (List (List Int)) s__5 s__5h, Es (List (List Int)) s__6 s__6h])
      cases hF109
      exact ⟨_, _, rfl, ⟨rfl, rfl⟩, (H.sel [] rfl).close trivial⟩
    · have hF111 := condT hF57; clear hF57
      cases hF111
      exact ⟨_, _, rfl, ⟨rfl, rfl⟩, (H.sel [] rfl).close trivial⟩

theorem impl_isField_c (p_ : Int) (y : Bool) (hF : F_impl_isField p_ = some y) :
    ConF Tryd.prog 135 #[(.int .i64 p_)] [Gl 0 [.int .i64 2, .int .i64 3, .int .i64 5, .int .i64 7]] [] (fun v Γ' => v = (.bool y) ∧ Γ' = []) := by
  intro w0 S0 fp0 hI hS
  have H : Cx w0 fp0 S0 w0 [Gl 0 [.int .i64 2, .int .i64 3, .int .i64 5, .int .i64 7]] := Cx.start hI hS
  clear hI hS
  refine enterC (args := [_]) gok Tryd.func135 rfl _ rfl rfl rfl ?_
  refine sq ?_
  obtain ⟨r10, hF12, hF11⟩ := bindS hF; clear hF
  refine cut (fun (q13 : Bool) => [(0, (.int .i64 p_)), (10, (.bool q13))]) (fun (q13 : Bool) w' => q13 = r10 ∧ Cx w0 fp0 S0 w' [Gl 0 [.int .i64 2, .int .i64 3, .int .i64 5, .int .i64 7]]) ?_ ?_
  · skip
    obtain ⟨a14, e, hF15⟩ := bindS hF12; clear hF12
    refine boolO e ?_; clear e
    cases a14
    · have hF16 := condF hF15; clear hF15
      obtain ⟨a17, e, hF18⟩ := bindS hF16; clear hF16
      refine boolO e ?_; clear e
      exact ⟨a17, ⟨rfl, rfl, trivial⟩, Option.some.inj hF18, H.sel [0] rfl⟩
    · have hF19 := condT hF15; clear hF15
      exact ⟨true, ⟨rfl, rfl, trivial⟩, Option.some.inj hF19, H.sel [0] rfl⟩
  · clear hF12 H
    rintro T21 s8 w20 ⟨hr, (H : Cx w0 fp0 S0 w20 [Gl 0 [.int .i64 2, .int .i64 3, .int .i64 5, .int .i64 7]])⟩
    subst hr
    cases s8
    · have hF22 := condF hF11; clear hF11
      refine sq ?_
      refine loadN [.int .i64 2, .int .i64 3, .int .i64 5, .int .i64 7] rfl (H.gl 0 rfl) ?_
      obtain ⟨a56, hn, hF57⟩ := bindS hF22; clear hF22
      obtain ⟨r59, e, hF60⟩ := bindS hF57; clear hF57
      refine loopO _ ((4 : Int).toNat) (fun (k23 : Nat) (_ : Unit) (_ : Unit) => [(0, (.int .i64 p_)), (11, (.agg #[.int .i64 2, .int .i64 3, .int .i64 5, .int .i64 7])), (12, (.int .i64 ((k23 : Nat) : Int)))]) (fun _ (_ : Unit) (_ : Unit) w' => Cx w0 fp0 S0 w' [Gl 0 [.int .i64 2, .int .i64 3, .int .i64 5, .int .i64 7]]) () () e ⟨rfl, rfl, rfl, trivial⟩ (H.sel [0] rfl) ?_ ?_
      · clear H e
        rintro T62 k23 _ _ w61 o63 hk (H : Cx w0 fp0 S0 w61 [Gl 0 [.int .i64 2, .int .i64 3, .int .i64 5, .int .i64 7]]) hrt hF64
        refine boolE (z := true) (ltNat hk) ?_
        refine sq ?_
        refine sq ?_
        obtain ⟨a65, e, hF66⟩ := bindS hF64; clear hF64
        refine indexI gok rfl rfl rfl rfl rfl e ?_; clear e
        obtain ⟨r77, hF79, hF78⟩ := bindS hF66; clear hF66
        refine cut (fun (q80 : Bool) => [(0, (.int .i64 p_)), (11, (.agg #[.int .i64 2, .int .i64 3, .int .i64 5, .int .i64 7])), (12, (.int .i64 ((k23 : Nat) : Int))), (23, (.bool q80))]) (fun (q80 : Bool) w' => q80 = r77 ∧ Cx w0 fp0 S0 w' [Gl 0 [.int .i64 2, .int .i64 3, .int .i64 5, .int .i64 7]]) ?_ ?_
        · skip
          obtain ⟨a81, e, hF82⟩ := bindS hF79; clear hF79
          refine remO_ e ?_; clear e
          obtain ⟨a83, e, hF84⟩ := bindS hF82; clear hF82
          refine boolO e ?_; clear e
          cases a83
          · have hF85 := condF hF84; clear hF84
            exact ⟨false, ⟨rfl, rfl, rfl, rfl, trivial⟩, Option.some.inj hF85, H.sel [0] rfl⟩
          · have hF86 := condT hF84; clear hF84
            obtain ⟨a87, e, hF88⟩ := bindS hF86; clear hF86
            refine boolO e ?_; clear e
            exact ⟨a87, ⟨rfl, rfl, rfl, rfl, trivial⟩, Option.some.inj hF88, H.sel [0] rfl⟩
        · clear hF79 H
          rintro T90 s75 w89 ⟨hr, (H : Cx w0 fp0 S0 w89 [Gl 0 [.int .i64 2, .int .i64 3, .int .i64 5, .int .i64 7]])⟩
          subst hr
          cases s75
          · have hF91 := condF hF78; clear hF78
            refine arK hk (maxI hn) ?_
            have hs := Option.some.inj hF91; subst hs; clear hF91
            exact ⟨(), (), rfl, ⟨rfl, rfl, rfl, trivial⟩, H.sel [0] rfl⟩
          · have hF92 := condT hF78; clear hF78
            have hs := Option.some.inj hF92; subst hs; clear hF92
            have hr := hrt _ rfl; subst hr
            have hF93 : some _ = some _ := hF60
            cases hF93
            exact ⟨_, _, rfl, ⟨rfl, rfl⟩, (H.sel [] rfl).close trivial⟩
      · clear H e
        rintro T95 _ _ w94 hr (H : Cx w0 fp0 S0 w94 [Gl 0 [.int .i64 2, .int .i64 3, .int .i64 5, .int .i64 7]])
        subst hr
        refine boolE (z := false) geNat ?_
        refine sq ?_
        cases hF60
        exact ⟨_, _, rfl, ⟨rfl, rfl⟩, (H.sel [] rfl).close trivial⟩
    · have hF98 := condT hF11; clear hF11
      cases hF98
      exact ⟨_, _, rfl, ⟨rfl, rfl⟩, (H.sel [] rfl).close trivial⟩

theorem impl_within_c (n_ : Int) (low_ : Int) (high_ : Int) (y : Bool) (hF : F_impl_within n_ low_ high_ = some y) :
    ConF Tryd.prog 111 #[(.int .i64 n_), (.int .i64 low_), (.int .i64 high_)] [] [] (fun v Γ' => v = (.bool y) ∧ Γ' = []) := by
  intro w0 S0 fp0 hI hS
  have H : Cx w0 fp0 S0 w0 [] := Cx.start hI hS
  clear hI hS
  refine enterC (args := [_, _, _]) gok Tryd.func111 rfl _ rfl rfl rfl ?_
  obtain ⟨r9, hF11, hF10⟩ := bindS hF; clear hF
  refine cut (fun (q12 : Bool) => [(6, (.bool q12))]) (fun (q12 : Bool) w' => q12 = r9 ∧ Cx w0 fp0 S0 w' []) ?_ ?_
  · skip
    obtain ⟨a13, e, hF14⟩ := bindS hF11; clear hF11
    refine boolO e ?_; clear e
    cases a13
    · have hF15 := condF hF14; clear hF14
      exact ⟨false, ⟨rfl, trivial⟩, Option.some.inj hF15, H.sel [] rfl⟩
    · have hF16 := condT hF14; clear hF14
      obtain ⟨a17, e, hF18⟩ := bindS hF16; clear hF16
      refine boolO e ?_; clear e
      exact ⟨a17, ⟨rfl, trivial⟩, Option.some.inj hF18, H.sel [] rfl⟩
  · clear hF11 H
    rintro T20 s7 w19 ⟨hr, (H : Cx w0 fp0 S0 w19 [])⟩
    subst hr
    cases hF10
    exact ⟨_, _, rfl, ⟨rfl, rfl⟩, (H.sel [] rfl).close trivial⟩

theorem impl_table_int_hasShape_c (t_ : List (List Int)) (t_h : Hd) (rows_ : Int) (cols_ : Int) (y : Bool) (hF : F_impl_table_int_hasShape t_ rows_ cols_ = some y) :
    ConF Tryd.prog 136 #[(t_h).v, (.int .i64 rows_), (.int .i64 cols_)] [Es (List (List Int)) t_ t_h] [] (fun v Γ' => v = (.bool y) ∧ Γ' = []) := by
  intro w0 S0 fp0 hI hS
  have H : Cx w0 fp0 S0 w0 [Es (List (List Int)) t_ t_h] := Cx.start hI hS
  clear hI hS
  refine enterC (args := [_, _, _]) gok Tryd.func136 rfl _ rfl rfl rfl ?_
  refine sq ?_
  refine lenE (H.rs (α := List (List Int)) 0 rfl).len ?_
  obtain ⟨a2, e, hF3⟩ := bindS hF; clear hF
  refine boolO e ?_; clear e
  cases a2
  · have hF4 := condF hF3; clear hF3
    refine sq ?_
    obtain ⟨a24, hn, hF25⟩ := bindS hF4; clear hF4
    obtain ⟨r27, e, hF28⟩ := bindS hF25; clear hF25
    refine loopO _ rows_.toNat (fun (k5 : Nat) (_ : Unit) (_ : Unit) => [(0, (t_h).v), (2, (.int .i64 cols_)), (12, (.int .i64 rows_)), (13, (.int .i64 ((k5 : Nat) : Int)))]) (fun _ (_ : Unit) (_ : Unit) w' => Cx w0 fp0 S0 w' [Es (List (List Int)) t_ t_h]) () () e ⟨rfl, rfl, rfl, rfl, trivial⟩ (H.sel [0] rfl) ?_ ?_
    · clear H e
      rintro T30 k5 _ _ w29 o31 hk (H : Cx w0 fp0 S0 w29 [Es (List (List Int)) t_ t_h]) hrt hF32
      refine boolE (z := true) (ltNat hk) ?_
      refine sq ?_
      refine sq ?_
      obtain ⟨a39, e, hF40⟩ := bindS hF32; clear hF32
      have HH := H; clear H; obtain ⟨p37, m38, h41, c33, c34, c35, c36, H⟩ := HH.elL 0 rfl e; clear HH
      clear e
      refine idxE c33 c34 c35 ?_; clear c33 c34 c35
      refine load1 c36 ?_; clear c36
      refine lenE (H.rs (α := List Int) 0 rfl).len ?_
      obtain ⟨a43, e, hF44⟩ := bindS hF40; clear hF40
      refine boolO e ?_; clear e
      cases a43
      · have hF45 := condF hF44; clear hF44
        refine arK hk (maxI hn) ?_
        have hs := Option.some.inj hF45; subst hs; clear hF45
        exact ⟨(), (), rfl, ⟨rfl, rfl, rfl, rfl, trivial⟩, H.sel [1] rfl⟩
      · have hF46 := condT hF44; clear hF44
        have hs := Option.some.inj hF46; subst hs; clear hF46
        have hr := hrt _ rfl; subst hr
        have hF47 : some _ = some _ := hF28
        cases hF47
        exact ⟨_, _, rfl, ⟨rfl, rfl⟩, (H.sel [] rfl).close trivial⟩
    · clear H e
      rintro T49 _ _ w48 hr (H : Cx w0 fp0 S0 w48 [Es (List (List Int)) t_ t_h])
      subst hr
      refine boolE (z := false) geNat ?_
      refine sq ?_
      cases hF28
      exact ⟨_, _, rfl, ⟨rfl, rfl⟩, (H.sel [] rfl).close trivial⟩
  · have hF52 := condT hF3; clear hF3
    cases hF52
    exact ⟨_, _, rfl, ⟨rfl, rfl⟩, (H.sel [] rfl).close trivial⟩

theorem impl_isElement_c (p_ : Int) (a_ : Int) (y : Bool) (hF : F_impl_isElement p_ a_ = some y) :
    ConF Tryd.prog 193 #[(.int .i64 p_), (.int .i64 a_)] [] [] (fun v Γ' => v = (.bool y) ∧ Γ' = []) := by
  intro w0 S0 fp0 hI hS
  have H : Cx w0 fp0 S0 w0 [] := Cx.start hI hS
  clear hI hS
  refine enterC (args := [_, _]) gok Tryd.func193 rfl _ rfl rfl rfl ?_
  obtain ⟨r9, hF11, hF10⟩ := bindS hF; clear hF
  refine cut (fun (q12 : Bool) => [(4, (.bool q12))]) (fun (q12 : Bool) w' => q12 = r9 ∧ Cx w0 fp0 S0 w' []) ?_ ?_
  · skip
    obtain ⟨a13, e, hF14⟩ := bindS hF11; clear hF11
    refine boolO e ?_; clear e
    cases a13
    · have hF15 := condF hF14; clear hF14
      exact ⟨false, ⟨rfl, trivial⟩, Option.some.inj hF15, H.sel [] rfl⟩
    · have hF16 := condT hF14; clear hF14
      obtain ⟨a17, e, hF18⟩ := bindS hF16; clear hF16
      refine boolO e ?_; clear e
      exact ⟨a17, ⟨rfl, trivial⟩, Option.some.inj hF18, H.sel [] rfl⟩
  · clear hF11 H
    rintro T20 s7 w19 ⟨hr, (H : Cx w0 fp0 S0 w19 [])⟩
    subst hr
    cases hF10
    exact ⟨_, _, rfl, ⟨rfl, rfl⟩, (H.sel [] rfl).close trivial⟩

theorem impl_isVector_c (p_ : Int) (v_ : List Int) (v_h : Hd) (n_ : Int) (y : Bool) (hF : F_impl_isVector p_ v_ n_ = some y) :
    ConF Tryd.prog 174 #[(.int .i64 p_), (v_h).v, (.int .i64 n_)] [Es (List Int) v_ v_h] [] (fun v Γ' => v = (.bool y) ∧ Γ' = []) := by
  intro w0 S0 fp0 hI hS
  have H : Cx w0 fp0 S0 w0 [Es (List Int) v_ v_h] := Cx.start hI hS
  clear hI hS
  refine enterC (args := [_, _, _]) gok Tryd.func174 rfl _ rfl rfl rfl ?_
  refine sq ?_
  refine lenE (H.rs (α := List Int) 0 rfl).len ?_
  obtain ⟨a2, e, hF3⟩ := bindS hF; clear hF
  refine boolO e ?_; clear e
  cases a2
  · have hF4 := condF hF3; clear hF3
    refine sq ?_
    refine lenE (H.rs (α := List Int) 0 rfl).len ?_
    have hmx25 := (H.rs (α := List Int) 0 rfl).max
    obtain ⟨r26, e, hF27⟩ := bindS hF4; clear hF4
    refine loopO _ v_.length (fun (k5 : Nat) (_ : Unit) (_ : Unit) => [(0, (.int .i64 p_)), (13, (v_h).v), (14, (.int .i64 ((v_.length : Nat) : Int))), (15, (.int .i64 ((k5 : Nat) : Int)))]) (fun _ (_ : Unit) (_ : Unit) w' => Cx w0 fp0 S0 w' [Es (List Int) v_ v_h]) () () e ⟨rfl, rfl, rfl, rfl, trivial⟩ (H.sel [0] rfl) ?_ ?_
    · clear H e
      rintro T29 k5 _ _ w28 o30 hk (H : Cx w0 fp0 S0 w28 [Es (List Int) v_ v_h]) hrt hF31
      refine boolE (z := true) (ltLen hk) ?_
      refine sq ?_
      refine sq ?_
      obtain ⟨a38, e, hF39⟩ := bindS hF31; clear hF31
      obtain ⟨p36, m37, c32, c33, c34, c35⟩ := (H.rs (α := List Int) 0 rfl).at1 e; clear e
      refine idxE c32 c33 c34 ?_; clear c32 c33 c34
      refine load1 c35 ?_; clear c35
      obtain ⟨y40, e, hF41⟩ := bindS hF39; clear hF39
      have ey40 := e; clear e
      refine callF (impl_isElement_c p_ a38 y40 ey40) (Γi := []) H trivial ?_; clear H ey40
      rintro _ _ w42 ⟨rfl, rfl⟩ (H : Cx w0 fp0 S0 w42 [Es (List Int) v_ v_h])
      obtain ⟨a43, e, hF44⟩ := bindS hF41; clear hF41
      refine boolO e ?_; clear e
      cases a43
      · have hF45 := condF hF44; clear hF44
        refine arK hk hmx25 ?_
        have hs := Option.some.inj hF45; subst hs; clear hF45
        exact ⟨(), (), rfl, ⟨rfl, rfl, rfl, rfl, trivial⟩, H.sel [0] rfl⟩
      · have hF46 := condT hF44; clear hF44
        have hs := Option.some.inj hF46; subst hs; clear hF46
        have hr := hrt _ rfl; subst hr
        have hF47 : some _ = some _ := hF27
        cases hF47
        exact ⟨_, _, rfl, ⟨rfl, rfl⟩, (H.sel [] rfl).close trivial⟩
    · clear H e
      rintro T49 _ _ w48 hr (H : Cx w0 fp0 S0 w48 [Es (List Int) v_ v_h])
      subst hr
      refine boolE (z := false) geLen ?_
      refine sq ?_
      cases hF27
      exact ⟨_, _, rfl, ⟨rfl, rfl⟩, (H.sel [] rfl).close trivial⟩
  · have hF52 := condT hF3; clear hF3
    cases hF52
    exact ⟨_, _, rfl, ⟨rfl, rfl⟩, (H.sel [] rfl).close trivial⟩

theorem impl_areVectors_c (p_ : Int) (rows_ : List (List Int)) (rows_h : Hd) (n_ : Int) (y : Bool) (hF : F_impl_areVectors p_ rows_ n_ = some y) :
    ConF Tryd.prog 137 #[(.int .i64 p_), (rows_h).v, (.int .i64 n_)] [Es (List (List Int)) rows_ rows_h] [] (fun v Γ' => v = (.bool y) ∧ Γ' = []) := by
  intro w0 S0 fp0 hI hS
  have H : Cx w0 fp0 S0 w0 [Es (List (List Int)) rows_ rows_h] := Cx.start hI hS
  clear hI hS
  refine enterC (args := [_, _, _]) gok Tryd.func137 rfl _ rfl rfl rfl ?_
  refine sq ?_
  refine lenE (H.rs (α := List (List Int)) 0 rfl).len ?_
  have hmx24 := (H.rs (α := List (List Int)) 0 rfl).max
  obtain ⟨r25, e, hF26⟩ := bindS hF; clear hF
  refine loopO _ rows_.length (fun (k2 : Nat) (_ : Unit) (_ : Unit) => [(0, (.int .i64 p_)), (2, (.int .i64 n_)), (9, (rows_h).v), (10, (.int .i64 ((rows_.length : Nat) : Int))), (11, (.int .i64 ((k2 : Nat) : Int)))]) (fun _ (_ : Unit) (_ : Unit) w' => Cx w0 fp0 S0 w' [Es (List (List Int)) rows_ rows_h]) () () e ⟨rfl, rfl, rfl, rfl, rfl, trivial⟩ (H.sel [0] rfl) ?_ ?_
  · clear H e
    rintro T28 k2 _ _ w27 o29 hk (H : Cx w0 fp0 S0 w27 [Es (List (List Int)) rows_ rows_h]) hrt hF30
    refine boolE (z := true) (ltLen hk) ?_
    refine sq ?_
    refine sq ?_
    obtain ⟨a37, e, hF38⟩ := bindS hF30; clear hF30
    have HH := H; clear H; obtain ⟨p35, m36, h39, c31, c32, c33, c34, H⟩ := HH.elL 0 rfl e; clear HH
    clear e
    refine idxE c31 c32 c33 ?_; clear c31 c32 c33
    refine load1 c34 ?_; clear c34
    obtain ⟨y41, e, hF42⟩ := bindS hF38; clear hF38
    have ey41 := e; clear e
    refine callF (impl_isVector_c p_ a37 h39 n_ y41 ey41) (Γi := []) H ⟨Vw.sh 0 rfl, trivial⟩ ?_; clear H ey41
    rintro _ _ w43 ⟨rfl, rfl⟩ (H : Cx w0 fp0 S0 w43 [Es (List Int) a37 h39, Es (List (List Int)) rows_ rows_h])
    obtain ⟨a44, e, hF45⟩ := bindS hF42; clear hF42
    refine boolO e ?_; clear e
    cases a44
    · have hF46 := condF hF45; clear hF45
      refine arK hk hmx24 ?_
      have hs := Option.some.inj hF46; subst hs; clear hF46
      exact ⟨(), (), rfl, ⟨rfl, rfl, rfl, rfl, rfl, trivial⟩, H.sel [1] rfl⟩
    · have hF47 := condT hF45; clear hF45
      have hs := Option.some.inj hF47; subst hs; clear hF47
      have hr := hrt _ rfl; subst hr
      have hF48 : some _ = some _ := hF26
      cases hF48
      exact ⟨_, _, rfl, ⟨rfl, rfl⟩, (H.sel [] rfl).close trivial⟩
  · clear H e
    rintro T50 _ _ w49 hr (H : Cx w0 fp0 S0 w49 [Es (List (List Int)) rows_ rows_h])
    subst hr
    refine boolE (z := false) geLen ?_
    refine sq ?_
    cases hF26
    exact ⟨_, _, rfl, ⟨rfl, rfl⟩, (H.sel [] rfl).close trivial⟩

theorem impl_isStateSpace_c (p_ : Int) (s__0 : Int) (s__1 : Int) (s__2 : Int) (s__3 : List (List Int)) (s__3h : Hd) (s__4 : List (List Int)) (s__4h : Hd) (s__5 : List (List Int)) (s__5h : Hd) (s__6 : List (List Int)) (s__6h : Hd) (y : Bool) (hF : F_impl_isStateSpace p_ (s__0, s__1, s__2, s__3, s__4, s__5, s__6) = some y) :
    ConF Tryd.prog 70 #[(.int .i64 p_), (.agg #[(.int .i64 s__0), (.int .i64 s__1), (.int .i64 s__2), (s__3h).v, (s__4h).v, (s__5h).v, (s__6h).v])] [Es (List (List Int)) s__3 s__3h, Es (List (List Int)) s__4 s__4h, Es (List (List Int)) s__5 s__5h, Es (List (List Int)) s__6 s__6h, Gl 0 [.int .i64 2, .int .i64 3, .int .i64 5, .int .i64 7]] [] (fun v Γ' => v = (.bool y) ∧ Γ' = []) := by
  intro w0 S0 fp0 hI hS
  have H : Cx w0 fp0 S0 w0 [Es (List (List Int)) s__3 s__3h, Es (List (List Int)) s__4 s__4h, Es (List (List Int)) s__5 s__5h, Es (List (List Int)) s__6 s__6h, Gl 0 [.int .i64 2, .int .i64 3, .int .i64 5, .int .i64 7]] := Cx.start hI hS
  clear hI hS
  refine enterC (args := [_, _]) gok Tryd.func70 rfl _ rfl rfl rfl ?_
  refine box_ H ?_; clear H; intro b7 w6 hx H
  clear hx
  replace H : Cx w0 fp0 S0 w6 [Bx b7 [(.int .i64 s__0), (.int .i64 s__1), (.int .i64 s__2), (s__3h).v, (s__4h).v, (s__5h).v, (s__6h).v], Es (List (List Int)) s__3 s__3h, Es (List (List Int)) s__4 s__4h, Es (List (List Int)) s__5 s__5h, Es (List (List Int)) s__6 s__6h, Gl 0 [.int .i64 2, .int .i64 3, .int .i64 5, .int .i64 7]] := H
  refine sq ?_
  obtain ⟨r37, hF39, hF38⟩ := bindS hF; clear hF
  refine cut (fun (q40 : Bool) => [(0, (.int .i64 p_)), (3, (.pointer (some ⟨b7, 0, none⟩))), (25, (.bool q40))]) (fun (q40 : Bool) w' => q40 = r37 ∧ Cx w0 fp0 S0 w' [Bx b7 [(.int .i64 s__0), (.int .i64 s__1), (.int .i64 s__2), (s__3h).v, (s__4h).v, (s__5h).v, (s__6h).v], Es (List (List Int)) s__3 s__3h, Es (List (List Int)) s__4 s__4h, Es (List (List Int)) s__5 s__5h, Es (List (List Int)) s__6 s__6h, Gl 0 [.int .i64 2, .int .i64 3, .int .i64 5, .int .i64 7]]) ?_ ?_
  · skip
    obtain ⟨y41, e, hF42⟩ := bindS hF39; clear hF39
    have ey41 := e; clear e
    refine callF (impl_isField_c p_ y41 ey41) (Γi := []) H ⟨Vw.gl 5 rfl, trivial⟩ ?_; clear H ey41
    rintro _ _ w43 ⟨rfl, rfl⟩ (H : Cx w0 fp0 S0 w43 [Bx b7 [(.int .i64 s__0), (.int .i64 s__1), (.int .i64 s__2), (s__3h).v, (s__4h).v, (s__5h).v, (s__6h).v], Es (List (List Int)) s__3 s__3h, Es (List (List Int)) s__4 s__4h, Es (List (List Int)) s__5 s__5h, Es (List (List Int)) s__6 s__6h, Gl 0 [.int .i64 2, .int .i64 3, .int .i64 5, .int .i64 7]])
    obtain ⟨a44, e, hF45⟩ := bindS hF42; clear hF42
    refine boolO e ?_; clear e
    cases a44
    · have hF46 := condF hF45; clear hF45
      refine fld gok rfl rfl rfl rfl ?_
      refine load1 (H.bx 0 rfl (j := 0) rfl) ?_
      obtain ⟨y47, e, hF48⟩ := bindS hF46; clear hF46
      have ey47 := e; clear e
      refine callF (impl_within_c s__0 0 24 y47 ey47) (Γi := []) H trivial ?_; clear H ey47
      rintro _ _ w49 ⟨rfl, rfl⟩ (H : Cx w0 fp0 S0 w49 [Bx b7 [(.int .i64 s__0), (.int .i64 s__1), (.int .i64 s__2), (s__3h).v, (s__4h).v, (s__5h).v, (s__6h).v], Es (List (List Int)) s__3 s__3h, Es (List (List Int)) s__4 s__4h, Es (List (List Int)) s__5 s__5h, Es (List (List Int)) s__6 s__6h, Gl 0 [.int .i64 2, .int .i64 3, .int .i64 5, .int .i64 7]])
      obtain ⟨a50, e, hF51⟩ := bindS hF48; clear hF48
      refine boolO e ?_; clear e
      cases a50
      · have hF52 := condF hF51; clear hF51
        refine fld gok rfl rfl rfl rfl ?_
        refine load1 (H.bx 0 rfl (j := 1) rfl) ?_
        obtain ⟨y53, e, hF54⟩ := bindS hF52; clear hF52
        have ey53 := e; clear e
        refine callF (impl_within_c s__1 0 8 y53 ey53) (Γi := []) H trivial ?_; clear H ey53
        rintro _ _ w55 ⟨rfl, rfl⟩ (H : Cx w0 fp0 S0 w55 [Bx b7 [(.int .i64 s__0), (.int .i64 s__1), (.int .i64 s__2), (s__3h).v, (s__4h).v, (s__5h).v, (s__6h).v], Es (List (List Int)) s__3 s__3h, Es (List (List Int)) s__4 s__4h, Es (List (List Int)) s__5 s__5h, Es (List (List Int)) s__6 s__6h, Gl 0 [.int .i64 2, .int .i64 3, .int .i64 5, .int .i64 7]])
        obtain ⟨a56, e, hF57⟩ := bindS hF54; clear hF54
        refine boolO e ?_; clear e
        cases a56
        · have hF58 := condF hF57; clear hF57
          refine fld gok rfl rfl rfl rfl ?_
          refine load1 (H.bx 0 rfl (j := 2) rfl) ?_
          obtain ⟨y59, e, hF60⟩ := bindS hF58; clear hF58
          have ey59 := e; clear e
          refine callF (impl_within_c s__2 0 8 y59 ey59) (Γi := []) H trivial ?_; clear H ey59
          rintro _ _ w61 ⟨rfl, rfl⟩ (H : Cx w0 fp0 S0 w61 [Bx b7 [(.int .i64 s__0), (.int .i64 s__1), (.int .i64 s__2), (s__3h).v, (s__4h).v, (s__5h).v, (s__6h).v], Es (List (List Int)) s__3 s__3h, Es (List (List Int)) s__4 s__4h, Es (List (List Int)) s__5 s__5h, Es (List (List Int)) s__6 s__6h, Gl 0 [.int .i64 2, .int .i64 3, .int .i64 5, .int .i64 7]])
          obtain ⟨a62, e, hF63⟩ := bindS hF60; clear hF60
          refine boolO e ?_; clear e
          exact ⟨a62, ⟨rfl, rfl, rfl, trivial⟩, Option.some.inj hF63, H.sel [0, 1, 2, 3, 4, 5] rfl⟩
        · have hF64 := condT hF57; clear hF57
          exact ⟨true, ⟨rfl, rfl, rfl, trivial⟩, Option.some.inj hF64, H.sel [0, 1, 2, 3, 4, 5] rfl⟩
      · have hF65 := condT hF51; clear hF51
        exact ⟨true, ⟨rfl, rfl, rfl, trivial⟩, Option.some.inj hF65, H.sel [0, 1, 2, 3, 4, 5] rfl⟩
    · have hF66 := condT hF45; clear hF45
      exact ⟨true, ⟨rfl, rfl, rfl, trivial⟩, Option.some.inj hF66, H.sel [0, 1, 2, 3, 4, 5] rfl⟩
  · clear hF39 H
    rintro T68 s35 w67 ⟨hr, (H : Cx w0 fp0 S0 w67 [Bx b7 [(.int .i64 s__0), (.int .i64 s__1), (.int .i64 s__2), (s__3h).v, (s__4h).v, (s__5h).v, (s__6h).v], Es (List (List Int)) s__3 s__3h, Es (List (List Int)) s__4 s__4h, Es (List (List Int)) s__5 s__5h, Es (List (List Int)) s__6 s__6h, Gl 0 [.int .i64 2, .int .i64 3, .int .i64 5, .int .i64 7]])⟩
    subst hr
    cases s35
    · have hF69 := condF hF38; clear hF38
      refine sq ?_
      obtain ⟨r98, hF100, hF99⟩ := bindS hF69; clear hF69
      refine cut (fun (q101 : Bool) => [(0, (.int .i64 p_)), (3, (.pointer (some ⟨b7, 0, none⟩))), (63, (.bool q101))]) (fun (q101 : Bool) w' => q101 = r98 ∧ Cx w0 fp0 S0 w' [Bx b7 [(.int .i64 s__0), (.int .i64 s__1), (.int .i64 s__2), (s__3h).v, (s__4h).v, (s__5h).v, (s__6h).v], Es (List (List Int)) s__3 s__3h, Es (List (List Int)) s__4 s__4h, Es (List (List Int)) s__5 s__5h, Es (List (List Int)) s__6 s__6h, Gl 0 [.int .i64 2, .int .i64 3, .int .i64 5, .int .i64 7]]) ?_ ?_
      · skip
        refine fld gok rfl rfl rfl rfl ?_
        refine load1 (H.bx 0 rfl (j := 3) rfl) ?_
        refine fld gok rfl rfl rfl rfl ?_
        refine load1 (H.bx 0 rfl (j := 0) rfl) ?_
        refine fld gok rfl rfl rfl rfl ?_
        refine load1 (H.bx 0 rfl (j := 0) rfl) ?_
        obtain ⟨y102, e, hF103⟩ := bindS hF100; clear hF100
        have ey102 := e; clear e
        refine callF (impl_table_int_hasShape_c s__3 s__3h s__0 s__0 y102 ey102) (Γi := []) H ⟨Vw.sh 1 rfl, trivial⟩ ?_; clear H ey102
        rintro _ _ w104 ⟨rfl, rfl⟩ (H : Cx w0 fp0 S0 w104 [Bx b7 [(.int .i64 s__0), (.int .i64 s__1), (.int .i64 s__2), (s__3h).v, (s__4h).v, (s__5h).v, (s__6h).v], Es (List (List Int)) s__3 s__3h, Es (List (List Int)) s__4 s__4h, Es (List (List Int)) s__5 s__5h, Es (List (List Int)) s__6 s__6h, Gl 0 [.int .i64 2, .int .i64 3, .int .i64 5, .int .i64 7]])
        obtain ⟨a105, e, hF106⟩ := bindS hF103; clear hF103
        refine boolO e ?_; clear e
        cases a105
        · have hF107 := condF hF106; clear hF106
          refine fld gok rfl rfl rfl rfl ?_
          refine load1 (H.bx 0 rfl (j := 4) rfl) ?_
          refine fld gok rfl rfl rfl rfl ?_
          refine load1 (H.bx 0 rfl (j := 1) rfl) ?_
          refine fld gok rfl rfl rfl rfl ?_
          refine load1 (H.bx 0 rfl (j := 0) rfl) ?_
          obtain ⟨y108, e, hF109⟩ := bindS hF107; clear hF107
          have ey108 := e; clear e
          refine callF (impl_table_int_hasShape_c s__4 s__4h s__1 s__0 y108 ey108) (Γi := []) H ⟨Vw.sh 2 rfl, trivial⟩ ?_; clear H ey108
          rintro _ _ w110 ⟨rfl, rfl⟩ (H : Cx w0 fp0 S0 w110 [Bx b7 [(.int .i64 s__0), (.int .i64 s__1), (.int .i64 s__2), (s__3h).v, (s__4h).v, (s__5h).v, (s__6h).v], Es (List (List Int)) s__3 s__3h, Es (List (List Int)) s__4 s__4h, Es (List (List Int)) s__5 s__5h, Es (List (List Int)) s__6 s__6h, Gl 0 [.int .i64 2, .int .i64 3, .int .i64 5, .int .i64 7]])
          obtain ⟨a111, e, hF112⟩ := bindS hF109; clear hF109
          refine boolO e ?_; clear e
          cases a111
          · have hF113 := condF hF112; clear hF112
            refine fld gok rfl rfl rfl rfl ?_
            refine load1 (H.bx 0 rfl (j := 5) rfl) ?_
            refine fld gok rfl rfl rfl rfl ?_
            refine load1 (H.bx 0 rfl (j := 0) rfl) ?_
            refine fld gok rfl rfl rfl rfl ?_
            refine load1 (H.bx 0 rfl (j := 2) rfl) ?_
            obtain ⟨y114, e, hF115⟩ := bindS hF113; clear hF113
            have ey114 := e; clear e
            refine callF (impl_table_int_hasShape_c s__5 s__5h s__0 s__2 y114 ey114) (Γi := []) H ⟨Vw.sh 3 rfl, trivial⟩ ?_; clear H ey114
            rintro _ _ w116 ⟨rfl, rfl⟩ (H : Cx w0 fp0 S0 w116 [Bx b7 [(.int .i64 s__0), (.int .i64 s__1), (.int .i64 s__2), (s__3h).v, (s__4h).v, (s__5h).v, (s__6h).v], Es (List (List Int)) s__3 s__3h, Es (List (List Int)) s__4 s__4h, Es (List (List Int)) s__5 s__5h, Es (List (List Int)) s__6 s__6h, Gl 0 [.int .i64 2, .int .i64 3, .int .i64 5, .int .i64 7]])
            obtain ⟨a117, e, hF118⟩ := bindS hF115; clear hF115
            refine boolO e ?_; clear e
            cases a117
            · have hF119 := condF hF118; clear hF118
              refine fld gok rfl rfl rfl rfl ?_
              refine load1 (H.bx 0 rfl (j := 6) rfl) ?_
              refine fld gok rfl rfl rfl rfl ?_
              refine load1 (H.bx 0 rfl (j := 1) rfl) ?_
              refine fld gok rfl rfl rfl rfl ?_
              refine load1 (H.bx 0 rfl (j := 2) rfl) ?_
              obtain ⟨y120, e, hF121⟩ := bindS hF119; clear hF119
              have ey120 := e; clear e
              refine callF (impl_table_int_hasShape_c s__6 s__6h s__1 s__2 y120 ey120) (Γi := []) H ⟨Vw.sh 4 rfl, trivial⟩ ?_; clear H ey120
              rintro _ _ w122 ⟨rfl, rfl⟩ (H : Cx w0 fp0 S0 w122 [Bx b7 [(.int .i64 s__0), (.int .i64 s__1), (.int .i64 s__2), (s__3h).v, (s__4h).v, (s__5h).v, (s__6h).v], Es (List (List Int)) s__3 s__3h, Es (List (List Int)) s__4 s__4h, Es (List (List Int)) s__5 s__5h, Es (List (List Int)) s__6 s__6h, Gl 0 [.int .i64 2, .int .i64 3, .int .i64 5, .int .i64 7]])
              obtain ⟨a123, e, hF124⟩ := bindS hF121; clear hF121
              refine boolO e ?_; clear e
              exact ⟨a123, ⟨rfl, rfl, rfl, trivial⟩, Option.some.inj hF124, H.sel [0, 1, 2, 3, 4, 5] rfl⟩
            · have hF125 := condT hF118; clear hF118
              exact ⟨true, ⟨rfl, rfl, rfl, trivial⟩, Option.some.inj hF125, H.sel [0, 1, 2, 3, 4, 5] rfl⟩
          · have hF126 := condT hF112; clear hF112
            exact ⟨true, ⟨rfl, rfl, rfl, trivial⟩, Option.some.inj hF126, H.sel [0, 1, 2, 3, 4, 5] rfl⟩
        · have hF127 := condT hF106; clear hF106
          exact ⟨true, ⟨rfl, rfl, rfl, trivial⟩, Option.some.inj hF127, H.sel [0, 1, 2, 3, 4, 5] rfl⟩
      · clear hF100 H
        rintro T129 s96 w128 ⟨hr, (H : Cx w0 fp0 S0 w128 [Bx b7 [(.int .i64 s__0), (.int .i64 s__1), (.int .i64 s__2), (s__3h).v, (s__4h).v, (s__5h).v, (s__6h).v], Es (List (List Int)) s__3 s__3h, Es (List (List Int)) s__4 s__4h, Es (List (List Int)) s__5 s__5h, Es (List (List Int)) s__6 s__6h, Gl 0 [.int .i64 2, .int .i64 3, .int .i64 5, .int .i64 7]])⟩
        subst hr
        cases s96
        · have hF130 := condF hF99; clear hF99
          obtain ⟨r151, hF153, hF152⟩ := bindS hF130; clear hF130
          refine cut (fun (q154 : Bool) => [(4, (.bool q154))]) (fun (q154 : Bool) w' => q154 = r151 ∧ Cx w0 fp0 S0 w' [Gl 0 [.int .i64 2, .int .i64 3, .int .i64 5, .int .i64 7]]) ?_ ?_
          · skip
            refine fld gok rfl rfl rfl rfl ?_
            refine load1 (H.bx 0 rfl (j := 3) rfl) ?_
            refine fld gok rfl rfl rfl rfl ?_
            refine load1 (H.bx 0 rfl (j := 0) rfl) ?_
            obtain ⟨y155, e, hF156⟩ := bindS hF153; clear hF153
            have ey155 := e; clear e
            refine callF (impl_areVectors_c p_ s__3 s__3h s__0 y155 ey155) (Γi := []) H ⟨Vw.sh 1 rfl, trivial⟩ ?_; clear H ey155
            rintro _ _ w157 ⟨rfl, rfl⟩ (H : Cx w0 fp0 S0 w157 [Bx b7 [(.int .i64 s__0), (.int .i64 s__1), (.int .i64 s__2), (s__3h).v, (s__4h).v, (s__5h).v, (s__6h).v], Es (List (List Int)) s__3 s__3h, Es (List (List Int)) s__4 s__4h, Es (List (List Int)) s__5 s__5h, Es (List (List Int)) s__6 s__6h, Gl 0 [.int .i64 2, .int .i64 3, .int .i64 5, .int .i64 7]])
            cases y155
            · have hF158 := condF hF156; clear hF156
              exact ⟨false, ⟨rfl, trivial⟩, Option.some.inj hF158, H.sel [5] rfl⟩
            · have hF159 := condT hF156; clear hF156
              refine fld gok rfl rfl rfl rfl ?_
              refine load1 (H.bx 0 rfl (j := 4) rfl) ?_
              refine fld gok rfl rfl rfl rfl ?_
              refine load1 (H.bx 0 rfl (j := 0) rfl) ?_
              obtain ⟨y160, e, hF161⟩ := bindS hF159; clear hF159
              have ey160 := e; clear e
              refine callF (impl_areVectors_c p_ s__4 s__4h s__0 y160 ey160) (Γi := []) H ⟨Vw.sh 2 rfl, trivial⟩ ?_; clear H ey160
              rintro _ _ w162 ⟨rfl, rfl⟩ (H : Cx w0 fp0 S0 w162 [Bx b7 [(.int .i64 s__0), (.int .i64 s__1), (.int .i64 s__2), (s__3h).v, (s__4h).v, (s__5h).v, (s__6h).v], Es (List (List Int)) s__3 s__3h, Es (List (List Int)) s__4 s__4h, Es (List (List Int)) s__5 s__5h, Es (List (List Int)) s__6 s__6h, Gl 0 [.int .i64 2, .int .i64 3, .int .i64 5, .int .i64 7]])
              cases y160
              · have hF163 := condF hF161; clear hF161
                exact ⟨false, ⟨rfl, trivial⟩, Option.some.inj hF163, H.sel [5] rfl⟩
              · have hF164 := condT hF161; clear hF161
                refine fld gok rfl rfl rfl rfl ?_
                refine load1 (H.bx 0 rfl (j := 5) rfl) ?_
                refine fld gok rfl rfl rfl rfl ?_
                refine load1 (H.bx 0 rfl (j := 2) rfl) ?_
                obtain ⟨y165, e, hF166⟩ := bindS hF164; clear hF164
                have ey165 := e; clear e
                refine callF (impl_areVectors_c p_ s__5 s__5h s__2 y165 ey165) (Γi := []) H ⟨Vw.sh 3 rfl, trivial⟩ ?_; clear H ey165
                rintro _ _ w167 ⟨rfl, rfl⟩ (H : Cx w0 fp0 S0 w167 [Bx b7 [(.int .i64 s__0), (.int .i64 s__1), (.int .i64 s__2), (s__3h).v, (s__4h).v, (s__5h).v, (s__6h).v], Es (List (List Int)) s__3 s__3h, Es (List (List Int)) s__4 s__4h, Es (List (List Int)) s__5 s__5h, Es (List (List Int)) s__6 s__6h, Gl 0 [.int .i64 2, .int .i64 3, .int .i64 5, .int .i64 7]])
                cases y165
                · have hF168 := condF hF166; clear hF166
                  exact ⟨false, ⟨rfl, trivial⟩, Option.some.inj hF168, H.sel [5] rfl⟩
                · have hF169 := condT hF166; clear hF166
                  refine fld gok rfl rfl rfl rfl ?_
                  refine load1 (H.bx 0 rfl (j := 6) rfl) ?_
                  refine fld gok rfl rfl rfl rfl ?_
                  refine load1 (H.bx 0 rfl (j := 2) rfl) ?_
                  obtain ⟨y170, e, hF171⟩ := bindS hF169; clear hF169
                  have ey170 := e; clear e
                  refine callF (impl_areVectors_c p_ s__6 s__6h s__2 y170 ey170) (Γi := []) H ⟨Vw.sh 4 rfl, trivial⟩ ?_; clear H ey170
                  rintro _ _ w172 ⟨rfl, rfl⟩ (H : Cx w0 fp0 S0 w172 [Bx b7 [(.int .i64 s__0), (.int .i64 s__1), (.int .i64 s__2), (s__3h).v, (s__4h).v, (s__5h).v, (s__6h).v], Es (List (List Int)) s__3 s__3h, Es (List (List Int)) s__4 s__4h, Es (List (List Int)) s__5 s__5h, Es (List (List Int)) s__6 s__6h, Gl 0 [.int .i64 2, .int .i64 3, .int .i64 5, .int .i64 7]])
                  exact ⟨y170, ⟨rfl, trivial⟩, Option.some.inj hF171, H.sel [5] rfl⟩
          · clear hF153 H
            rintro T174 s149 w173 ⟨hr, (H : Cx w0 fp0 S0 w173 [Gl 0 [.int .i64 2, .int .i64 3, .int .i64 5, .int .i64 7]])⟩
            subst hr
            cases hF152
            exact ⟨_, _, rfl, ⟨rfl, rfl⟩, (H.sel [] rfl).close trivial⟩
        · have hF175 := condT hF99; clear hF99
          cases hF175
          exact ⟨_, _, rfl, ⟨rfl, rfl⟩, (H.sel [] rfl).close trivial⟩
    · have hF176 := condT hF38; clear hF38
      cases hF176
      exact ⟨_, _, rfl, ⟨rfl, rfl⟩, (H.sel [] rfl).close trivial⟩

theorem impl_isMatrix_c (p_ : Int) (m__0 : Int) (m__1 : List (List Int)) (m__1h : Hd) (y : Bool) (hF : F_impl_isMatrix p_ (m__0, m__1) = some y) :
    ConF Tryd.prog 85 #[(.int .i64 p_), (.agg #[(.int .i64 m__0), (m__1h).v])] [Es (List (List Int)) m__1 m__1h, Gl 0 [.int .i64 2, .int .i64 3, .int .i64 5, .int .i64 7]] [] (fun v Γ' => v = (.bool y) ∧ Γ' = []) := by
  intro w0 S0 fp0 hI hS
  have H : Cx w0 fp0 S0 w0 [Es (List (List Int)) m__1 m__1h, Gl 0 [.int .i64 2, .int .i64 3, .int .i64 5, .int .i64 7]] := Cx.start hI hS
  clear hI hS
  refine enterC (args := [_, _]) gok Tryd.func85 rfl _ rfl rfl rfl ?_
  refine box_ H ?_; clear H; intro b4 w3 hx H
  clear hx
  replace H : Cx w0 fp0 S0 w3 [Bx b4 [(.int .i64 m__0), (m__1h).v], Es (List (List Int)) m__1 m__1h, Gl 0 [.int .i64 2, .int .i64 3, .int .i64 5, .int .i64 7]] := H
  obtain ⟨r25, hF27, hF26⟩ := bindS hF; clear hF
  refine cut (fun (q28 : Bool) => [(4, (.bool q28))]) (fun (q28 : Bool) w' => q28 = r25 ∧ Cx w0 fp0 S0 w' [Gl 0 [.int .i64 2, .int .i64 3, .int .i64 5, .int .i64 7]]) ?_ ?_
  · skip
    obtain ⟨y29, e, hF30⟩ := bindS hF27; clear hF27
    have ey29 := e; clear e
    refine callF (impl_isField_c p_ y29 ey29) (Γi := []) H ⟨Vw.gl 2 rfl, trivial⟩ ?_; clear H ey29
    rintro _ _ w31 ⟨rfl, rfl⟩ (H : Cx w0 fp0 S0 w31 [Bx b4 [(.int .i64 m__0), (m__1h).v], Es (List (List Int)) m__1 m__1h, Gl 0 [.int .i64 2, .int .i64 3, .int .i64 5, .int .i64 7]])
    cases y29
    · have hF32 := condF hF30; clear hF30
      exact ⟨false, ⟨rfl, trivial⟩, Option.some.inj hF32, H.sel [2] rfl⟩
    · have hF33 := condT hF30; clear hF30
      refine fld gok rfl rfl rfl rfl ?_
      refine load1 (H.bx 0 rfl (j := 0) rfl) ?_
      obtain ⟨y34, e, hF35⟩ := bindS hF33; clear hF33
      have ey34 := e; clear e
      refine callF (impl_within_c m__0 0 24 y34 ey34) (Γi := []) H trivial ?_; clear H ey34
      rintro _ _ w36 ⟨rfl, rfl⟩ (H : Cx w0 fp0 S0 w36 [Bx b4 [(.int .i64 m__0), (m__1h).v], Es (List (List Int)) m__1 m__1h, Gl 0 [.int .i64 2, .int .i64 3, .int .i64 5, .int .i64 7]])
      cases y34
      · have hF37 := condF hF35; clear hF35
        exact ⟨false, ⟨rfl, trivial⟩, Option.some.inj hF37, H.sel [2] rfl⟩
      · have hF38 := condT hF35; clear hF35
        refine fld gok rfl rfl rfl rfl ?_
        refine load1 (H.bx 0 rfl (j := 1) rfl) ?_
        refine lenE (H.rs (α := List (List Int)) 1 rfl).len ?_
        obtain ⟨a39, e, hF40⟩ := bindS hF38; clear hF38
        refine boolO e ?_; clear e
        cases a39
        · have hF41 := condF hF40; clear hF40
          exact ⟨false, ⟨rfl, trivial⟩, Option.some.inj hF41, H.sel [2] rfl⟩
        · have hF42 := condT hF40; clear hF40
          refine fld gok rfl rfl rfl rfl ?_
          refine load1 (H.bx 0 rfl (j := 1) rfl) ?_
          refine fld gok rfl rfl rfl rfl ?_
          refine load1 (H.bx 0 rfl (j := 0) rfl) ?_
          obtain ⟨y43, e, hF44⟩ := bindS hF42; clear hF42
          have ey43 := e; clear e
          refine callF (impl_areVectors_c p_ m__1 m__1h m__0 y43 ey43) (Γi := []) H ⟨Vw.sh 1 rfl, trivial⟩ ?_; clear H ey43
          rintro _ _ w45 ⟨rfl, rfl⟩ (H : Cx w0 fp0 S0 w45 [Bx b4 [(.int .i64 m__0), (m__1h).v], Es (List (List Int)) m__1 m__1h, Gl 0 [.int .i64 2, .int .i64 3, .int .i64 5, .int .i64 7]])
          exact ⟨y43, ⟨rfl, trivial⟩, Option.some.inj hF44, H.sel [2] rfl⟩
  · clear hF27 H
    rintro T47 s23 w46 ⟨hr, (H : Cx w0 fp0 S0 w46 [Gl 0 [.int .i64 2, .int .i64 3, .int .i64 5, .int .i64 7]])⟩
    subst hr
    cases hF26
    exact ⟨_, _, rfl, ⟨rfl, rfl⟩, (H.sel [] rfl).close trivial⟩

theorem impl_isResponse_c (p_ : Int) (m_ : List (Int × List (List Int))) (m_h : Hd) (y : Bool) (hF : F_impl_isResponse p_ m_ = some y) :
    ConF Tryd.prog 71 #[(.int .i64 p_), (m_h).v] [Es (List (Int × List (List Int))) m_ m_h, Gl 0 [.int .i64 2, .int .i64 3, .int .i64 5, .int .i64 7]] [] (fun v Γ' => v = (.bool y) ∧ Γ' = []) := by
  intro w0 S0 fp0 hI hS
  have H : Cx w0 fp0 S0 w0 [Es (List (Int × List (List Int))) m_ m_h, Gl 0 [.int .i64 2, .int .i64 3, .int .i64 5, .int .i64 7]] := Cx.start hI hS
  clear hI hS
  refine enterC (args := [_, _]) gok Tryd.func71 rfl _ rfl rfl rfl ?_
  refine sq ?_
  obtain ⟨r17, hF19, hF18⟩ := bindS hF; clear hF
  refine cut (fun (q20 : Bool) => [(0, (.int .i64 p_)), (1, (m_h).v), (15, (.bool q20))]) (fun (q20 : Bool) w' => q20 = r17 ∧ Cx w0 fp0 S0 w' [Es (List (Int × List (List Int))) m_ m_h, Gl 0 [.int .i64 2, .int .i64 3, .int .i64 5, .int .i64 7]]) ?_ ?_
  · skip
    obtain ⟨y21, e, hF22⟩ := bindS hF19; clear hF19
    have ey21 := e; clear e
    refine callF (impl_isField_c p_ y21 ey21) (Γi := []) H ⟨Vw.gl 1 rfl, trivial⟩ ?_; clear H ey21
    rintro _ _ w23 ⟨rfl, rfl⟩ (H : Cx w0 fp0 S0 w23 [Es (List (Int × List (List Int))) m_ m_h, Gl 0 [.int .i64 2, .int .i64 3, .int .i64 5, .int .i64 7]])
    obtain ⟨a24, e, hF25⟩ := bindS hF22; clear hF22
    refine boolO e ?_; clear e
    cases a24
    · have hF26 := condF hF25; clear hF25
      refine lenE (H.rs (α := List (Int × List (List Int))) 0 rfl).len ?_
      obtain ⟨y27, e, hF28⟩ := bindS hF26; clear hF26
      have ey27 := e; clear e
      refine callF (impl_within_c ((m_.length : Nat) : Int) 1 60 y27 ey27) (Γi := []) H trivial ?_; clear H ey27
      rintro _ _ w29 ⟨rfl, rfl⟩ (H : Cx w0 fp0 S0 w29 [Es (List (Int × List (List Int))) m_ m_h, Gl 0 [.int .i64 2, .int .i64 3, .int .i64 5, .int .i64 7]])
      obtain ⟨a30, e, hF31⟩ := bindS hF28; clear hF28
      refine boolO e ?_; clear e
      exact ⟨a30, ⟨rfl, rfl, rfl, trivial⟩, Option.some.inj hF31, H.sel [0, 1] rfl⟩
    · have hF32 := condT hF25; clear hF25
      exact ⟨true, ⟨rfl, rfl, rfl, trivial⟩, Option.some.inj hF32, H.sel [0, 1] rfl⟩
  · clear hF19 H
    rintro T34 s15 w33 ⟨hr, (H : Cx w0 fp0 S0 w33 [Es (List (Int × List (List Int))) m_ m_h, Gl 0 [.int .i64 2, .int .i64 3, .int .i64 5, .int .i64 7]])⟩
    subst hr
    cases s15
    · have hF35 := condF hF18; clear hF18
      refine sq ?_
      refine lenE (H.rs (α := List (Int × List (List Int))) 0 rfl).len ?_
      have hmx143 := (H.rs (α := List (Int × List (List Int))) 0 rfl).max
      obtain ⟨r144, e, hF145⟩ := bindS hF35; clear hF35
      refine loopO _ m_.length (fun (k36 : Nat) (_ : Unit) (_ : Unit) => [(0, (.int .i64 p_)), (1, (m_h).v), (16, (m_h).v), (17, (.int .i64 ((m_.length : Nat) : Int))), (18, (.int .i64 ((k36 : Nat) : Int)))]) (fun _ (_ : Unit) (_ : Unit) w' => Cx w0 fp0 S0 w' [Es (List (Int × List (List Int))) m_ m_h, Gl 0 [.int .i64 2, .int .i64 3, .int .i64 5, .int .i64 7]]) () () e ⟨rfl, rfl, rfl, rfl, rfl, trivial⟩ (H.sel [0, 1] rfl) ?_ ?_
      · clear H e
        rintro T147 k36 _ _ w146 o148 hk (H : Cx w0 fp0 S0 w146 [Es (List (Int × List (List Int))) m_ m_h, Gl 0 [.int .i64 2, .int .i64 3, .int .i64 5, .int .i64 7]]) hrt hF149
        refine boolE (z := true) (ltLen hk) ?_
        refine sq ?_
        refine sq ?_
        obtain ⟨a156, e, hF157⟩ := bindS hF149; clear hF149
        have HH := H; clear H; obtain ⟨p154, m155, g158, c150, c151, c152, c153, H⟩ := HH.el (α := Int × List (List Int)) 0 rfl e; clear HH
        clear e
        obtain ⟨a156_0, a156_1⟩ := a156
        obtain ⟨_, h160⟩ := g158
        replace H := H.part (β := List (List Int)) a156_1 (h160 : Hd) 0 rfl (fun S h => (And.right h))
        replace H := H.sel [0, 2, 3] rfl
        refine idxE c150 c151 c152 ?_; clear c150 c151 c152
        refine loadN [(.int .i64 a156_0), (h160).v] rfl c153 ?_; clear c153
        refine alloc_ gok rfl H ?_; clear H; intro b163 w162 hx H
        clear hx
        replace H : Cx w0 fp0 S0 w162 [Bx b163 [(.int .i64 0), (.slice none 0 0)], Es (List (List Int)) a156_1 h160, Es (List (Int × List (List Int))) m_ m_h, Gl 0 [.int .i64 2, .int .i64 3, .int .i64 5, .int .i64 7]] := H
        refine stA gok [(.int .i64 a156_0), (h160).v] rfl H rfl rfl rfl ?_; clear H; intro w165 H
        replace H : Cx w0 fp0 S0 w165 [Bx b163 [(.int .i64 a156_0), (h160).v], Es (List (List Int)) a156_1 h160, Es (List (Int × List (List Int))) m_ m_h, Gl 0 [.int .i64 2, .int .i64 3, .int .i64 5, .int .i64 7]] := H
        obtain ⟨r206, hF208, hF207⟩ := bindS hF157; clear hF157
        refine cut (fun (q209 : Bool) => [(0, (.int .i64 p_)), (1, (m_h).v), (16, (m_h).v), (17, (.int .i64 ((m_.length : Nat) : Int))), (18, (.int .i64 ((k36 : Nat) : Int))), (45, (.bool q209))]) (fun (q209 : Bool) w' => q209 = r206 ∧ Cx w0 fp0 S0 w' [Es (List (Int × List (List Int))) m_ m_h, Gl 0 [.int .i64 2, .int .i64 3, .int .i64 5, .int .i64 7]]) ?_ ?_
        · skip
          refine heldX H [] (.fst 0 (.fst 1 (.act 2 (.fst 3 (.fst 4 (.fst 5 (.fst 8 (.fst 9 (.fst 10 (.fst 6 (.fst 7 (.fst 11 (.fst 12 (.fst 13 (.fst 14 (.fst 15 (.fst 16 (.fst 18 (.fst 19 (.fst 20 (.fst 17 (.fst 21 (.fst 22 (.fst 23 .done)))))))))))))))))))))))) mixed [] trivial (by kernel_rfl) ?_
          clear H; intro w210 H
          have hX : Ext w210 w210 := Upd.refl _ _
          have H0 := H
          refine loadNX [(.int .i64 a156_0), (h160).v] rfl (fun j u hj => H.bx 0 rfl hj) ?_
          obtain ⟨y211, e, hF212⟩ := bindS hF208; clear hF208
          have ey211 := e; clear e
          refine callFx (impl_isMatrix_c p_ a156_0 a156_1 h160 y211 ey211) H ⟨Vw.sh 1 rfl, Vw.gl 3 rfl, trivial⟩ ?_; clear H ey211
          rintro _ _ w213 ⟨rfl, rfl⟩ hx (H : Cx w0 fp0 S0 w213 [Bx b163 [(.int .i64 a156_0), (h160).v], Es (List (List Int)) a156_1 h160, Es (List (Int × List (List Int))) m_ m_h, Gl 0 [.int .i64 2, .int .i64 3, .int .i64 5, .int .i64 7]])
          replace hX := hX.trans0 hx; clear hx
          refine hold hX ?_
          obtain ⟨a214, e, hF215⟩ := bindS hF212; clear hF212
          refine boolO e ?_; clear e
          cases a214
          · have hF216 := condF hF215; clear hF215
            refine anyH (fun _ => fld gok rfl rfl rfl rfl ⟨rfl, rfl⟩) ?_
            obtain ⟨a223, e, hF224⟩ := bindS hF216; clear hF216
            have HH := H; clear H; obtain ⟨p221, m222, g225, c217, c218, c219, c220, H⟩ := HH.el (α := Int × List (List Int)) 2 rfl e; clear HH
            replace c220 := lateN hX (H0.rs (α := List (Int × List (List Int))) 2 rfl) rfl e c217 c220; clear e
            obtain ⟨a223_0, a223_1⟩ := a223
            obtain ⟨_, h227⟩ := g225
            replace H := H.part (β := List (List Int)) a223_1 (h227 : Hd) 0 rfl (fun S h => (And.right h))
            replace H := H.sel [0, 2, 3, 4, 5] rfl
            refine idxE c217 c218 c219 ?_; clear c217 c218 c219
            refine anyH (fun _ => fld gok rfl rfl rfl rfl ⟨rfl, rfl⟩) ?_
            refine load1X (H0.bx 0 rfl (j := 1) rfl) ?_
            refine lenE (H.rs (α := List (List Int)) 2 rfl).len ?_
            refine load1X (c220 1 _ rfl) ?_
            refine lenE (H.rs (α := List (List Int)) 0 rfl).len ?_
            obtain ⟨a229, e, hF230⟩ := bindS hF224; clear hF224
            refine boolO e ?_; clear e
            cases a229
            · have hF231 := condF hF230; clear hF230
              refine anyH (fun _ => fld gok rfl rfl rfl rfl ⟨rfl, rfl⟩) ?_
              obtain ⟨a238, e, hF239⟩ := bindS hF231; clear hF231
              have HH := H; clear H; obtain ⟨p236, m237, g240, c232, c233, c234, c235, H⟩ := HH.el (α := Int × List (List Int)) 3 rfl e; clear HH
              replace c235 := lateN hX (H0.rs (α := List (Int × List (List Int))) 2 rfl) rfl e c232 c235; clear e
              obtain ⟨a238_0, a238_1⟩ := a238
              obtain ⟨_, h242⟩ := g240
              replace H := H.part (β := List (List Int)) a238_1 (h242 : Hd) 0 rfl (fun S h => (And.right h))
              replace H := H.sel [0, 2, 3, 4, 5, 6] rfl
              refine idxE c232 c233 c234 ?_; clear c232 c233 c234
              refine anyH (fun _ => fld gok rfl rfl rfl rfl ⟨rfl, rfl⟩) ?_
              refine load1X (H0.bx 0 rfl (j := 0) rfl) ?_
              refine load1X (c235 0 _ rfl) ?_
              obtain ⟨a244, e, hF245⟩ := bindS hF239; clear hF239
              refine boolO e ?_; clear e
              exact ⟨a244, ⟨rfl, rfl, rfl, rfl, rfl, rfl, trivial⟩, Option.some.inj hF245, H.sel [4, 5] rfl⟩
            · have hF246 := condT hF230; clear hF230
              exact ⟨true, ⟨rfl, rfl, rfl, rfl, rfl, rfl, trivial⟩, Option.some.inj hF246, H.sel [3, 4] rfl⟩
          · have hF247 := condT hF215; clear hF215
            exact ⟨true, ⟨rfl, rfl, rfl, rfl, rfl, rfl, trivial⟩, Option.some.inj hF247, H.sel [2, 3] rfl⟩
        · clear hF208 H
          rintro T249 s204 w248 ⟨hr, (H : Cx w0 fp0 S0 w248 [Es (List (Int × List (List Int))) m_ m_h, Gl 0 [.int .i64 2, .int .i64 3, .int .i64 5, .int .i64 7]])⟩
          subst hr
          cases s204
          · have hF250 := condF hF207; clear hF207
            refine arK hk hmx143 ?_
            have hs := Option.some.inj hF250; subst hs; clear hF250
            exact ⟨(), (), rfl, ⟨rfl, rfl, rfl, rfl, rfl, trivial⟩, H.sel [0, 1] rfl⟩
          · have hF251 := condT hF207; clear hF207
            have hs := Option.some.inj hF251; subst hs; clear hF251
            have hr := hrt _ rfl; subst hr
            have hF252 : some _ = some _ := hF145
            cases hF252
            exact ⟨_, _, rfl, ⟨rfl, rfl⟩, (H.sel [] rfl).close trivial⟩
      · clear H e
        rintro T254 _ _ w253 hr (H : Cx w0 fp0 S0 w253 [Es (List (Int × List (List Int))) m_ m_h, Gl 0 [.int .i64 2, .int .i64 3, .int .i64 5, .int .i64 7]])
        subst hr
        refine boolE (z := false) geLen ?_
        refine sq ?_
        obtain ⟨r289, hF291, hF290⟩ := bindS hF145; clear hF145
        refine cut (fun (q292 : Bool) => [(4, (.bool q292))]) (fun (q292 : Bool) w' => q292 = r289 ∧ Cx w0 fp0 S0 w' [Gl 0 [.int .i64 2, .int .i64 3, .int .i64 5, .int .i64 7]]) ?_ ?_
        · skip
          obtain ⟨a299, e, hF300⟩ := bindS hF291; clear hF291
          have HH := H; clear H; obtain ⟨p297, m298, g301, c293, c294, c295, c296, H⟩ := HH.el (α := Int × List (List Int)) 0 rfl e; clear HH
          clear e
          obtain ⟨a299_0, a299_1⟩ := a299
          obtain ⟨_, h303⟩ := g301
          replace H := H.part (β := List (List Int)) a299_1 (h303 : Hd) 0 rfl (fun S h => (And.right h))
          replace H := H.sel [0, 2, 3] rfl
          refine idxE c293 c294 c295 ?_; clear c293 c294 c295
          refine fld gok rfl rfl rfl rfl ?_
          refine load1 (c296 1 _ rfl) ?_
          refine lenE (H.rs (α := List (List Int)) 0 rfl).len ?_
          obtain ⟨a305, e, hF306⟩ := bindS hF300; clear hF300
          refine boolO e ?_; clear e
          cases a305
          · have hF307 := condF hF306; clear hF306
            exact ⟨false, ⟨rfl, trivial⟩, Option.some.inj hF307, H.sel [2] rfl⟩
          · have hF308 := condT hF306; clear hF306
            obtain ⟨a315, e, hF316⟩ := bindS hF308; clear hF308
            have HH := H; clear H; obtain ⟨p313, m314, g317, c309, c310, c311, c312, H⟩ := HH.el (α := Int × List (List Int)) 1 rfl e; clear HH
            clear e
            obtain ⟨a315_0, a315_1⟩ := a315
            obtain ⟨_, h319⟩ := g317
            replace H := H.part (β := List (List Int)) a315_1 (h319 : Hd) 0 rfl (fun S h => (And.right h))
            replace H := H.sel [0, 2, 3, 4] rfl
            refine idxE c309 c310 c311 ?_; clear c309 c310 c311
            refine fld gok rfl rfl rfl rfl ?_
            refine load1 (c312 0 _ rfl) ?_
            obtain ⟨a321, e, hF322⟩ := bindS hF316; clear hF316
            refine boolO e ?_; clear e
            exact ⟨a321, ⟨rfl, trivial⟩, Option.some.inj hF322, H.sel [3] rfl⟩
        · clear hF291 H
          rintro T324 s287 w323 ⟨hr, (H : Cx w0 fp0 S0 w323 [Gl 0 [.int .i64 2, .int .i64 3, .int .i64 5, .int .i64 7]])⟩
          subst hr
          cases hF290
          exact ⟨_, _, rfl, ⟨rfl, rfl⟩, (H.sel [] rfl).close trivial⟩
    · have hF325 := condT hF18; clear hF18
      cases hF325
      exact ⟨_, _, rfl, ⟨rfl, rfl⟩, (H.sel [] rfl).close trivial⟩

theorem impl_clone_c (list_ : List Int) (list_h : Hd) (y : List Int) (hF : F_impl_clone list_ = some y) :
    ConF Tryd.prog 172 #[(list_h).v] [Es (List Int) list_ list_h] [] (fun v Γ' => ∃ z0 : Hd, v = (z0).v ∧ Γ' = [E (List Int) y z0]) := by
  intro w0 S0 fp0 hI hS
  have H : Cx w0 fp0 S0 w0 [Es (List Int) list_ list_h] := Cx.start hI hS
  clear hI hS
  refine enterC (args := [_]) gok Tryd.func172 rfl _ rfl rfl rfl ?_
  refine lit0 (α := Int) gok rfl rfl H ?_; clear H; intro h3 w2 hx H
  clear hx
  obtain ⟨a5, e, hF6⟩ := bindS hF; clear hF
  refine appendS (α := Int) gok rfl rfl rfl rfl H (Vw.sh 0 rfl) e ?_; clear e H; intro h8 w7 H
  cases hF6
  exact ⟨_, _, rfl, ⟨h8, rfl, rfl⟩, (H.sel [0] rfl).close ⟨cloE, trivial⟩⟩

theorem impl_clones_c (list_ : List (List Int)) (list_h : Hd) (y : List (List Int)) (hF : F_impl_clones list_ = some y) :
    ConF Tryd.prog 138 #[(list_h).v] [Es (List (List Int)) list_ list_h] [] (fun v Γ' => ∃ z0 : Hd, v = (z0).v ∧ Γ' = [E (List (List Int)) y z0]) := by
  intro w0 S0 fp0 hI hS
  have H : Cx w0 fp0 S0 w0 [Es (List (List Int)) list_ list_h] := Cx.start hI hS
  clear hI hS
  refine enterC (args := [_]) gok Tryd.func138 rfl _ rfl rfl rfl ?_
  refine lenE (H.rs (α := List (List Int)) 0 rfl).len ?_
  obtain ⟨a2, e, hF3⟩ := bindS hF; clear hF
  refine make_ (α := List Int) gok rfl rfl rfl rfl e H ?_; clear e H; intro h5 w4 hx H
  clear hx
  refine sq ?_
  refine lenE (H.rs (α := List (List Int)) 1 rfl).len ?_
  have hmx62 := (H.rs (α := List (List Int)) 1 rfl).max
  obtain ⟨r63, e, hF64⟩ := bindS hF3; clear hF3
  refine loopS _ list_.length (fun (k7 : Nat) (s59 : List (List Int)) (g60 : Hd) => [(3, (g60).v), (9, (list_h).v), (10, (.int .i64 ((list_.length : Nat) : Int))), (11, (.int .i64 ((k7 : Nat) : Int)))]) (fun _ (s59 : List (List Int)) (g60 : Hd) w' => Cx w0 fp0 S0 w' [E (List (List Int)) s59 g60, Es (List (List Int)) list_ list_h]) a2 h5 e ⟨rfl, rfl, rfl, rfl, trivial⟩ (H.sel [0, 1] rfl) ?_ ?_
  · clear H e
    rintro T66 k7 s59 g60 w65 o67 hk (H : Cx w0 fp0 S0 w65 [E (List (List Int)) s59 g60, Es (List (List Int)) list_ list_h]) hF68
    refine boolE (z := true) (ltLen hk) ?_
    refine sq ?_
    refine sq ?_
    obtain ⟨a75, e, hF76⟩ := bindS hF68; clear hF68
    have HH := H; clear H; obtain ⟨p73, m74, h77, c69, c70, c71, c72, H⟩ := HH.elL 1 rfl e; clear HH
    clear e
    refine idxE c69 c70 c71 ?_; clear c69 c70 c71
    refine load1 c72 ?_; clear c72
    obtain ⟨y79, e, hF80⟩ := bindS hF76; clear hF76
    have ey79 := e; clear e
    refine callF (impl_clone_c a75 h77 y79 ey79) (Γi := []) H ⟨Vw.sh 0 rfl, trivial⟩ ?_; clear H ey79
    rintro _ _ w81 ⟨h82, rfl, rfl⟩ (H : Cx w0 fp0 S0 w81 [E (List Int) y79 h82, Es (List Int) a75 h77, E (List (List Int)) s59 g60, Es (List (List Int)) list_ list_h])
    refine lit1 (α := List Int) (g := h82) gok rfl rfl rfl rfl rfl H ?_; clear H; intro h85 w84 hx H
    clear hx
    obtain ⟨a87, e, hF88⟩ := bindS hF80; clear hF80
    replace H := H.sel [2, 0, 1, 3] rfl
    refine append_ (α := List Int) gok rfl rfl rfl rfl H e ?_; clear e H; intro h90 w89 H
    refine arK hk hmx62 ?_
    have hs := Option.some.inj hF88; subst hs; clear hF88
    exact ⟨h90, ⟨rfl, rfl, rfl, rfl, trivial⟩, H.sel [0, 2] rfl⟩
  · clear H e
    rintro T93 g95 w92 (H : Cx w0 fp0 S0 w92 [E (List (List Int)) r63 g95, Es (List (List Int)) list_ list_h])
    refine boolE (z := false) geLen ?_
    refine sq ?_
    cases hF64
    exact ⟨_, _, rfl, ⟨g95, rfl, rfl⟩, (H.sel [0] rfl).close ⟨cloE, trivial⟩⟩

theorem impl_zeros_c (n_ : Int) (y : List Int) (hF : F_impl_zeros n_ = some y) :
    ConF Tryd.prog 148 #[(.int .i64 n_)] [] [] (fun v Γ' => ∃ z0 : Hd, v = (z0).v ∧ Γ' = [E (List Int) y z0]) := by
  intro w0 S0 fp0 hI hS
  have H : Cx w0 fp0 S0 w0 [] := Cx.start hI hS
  clear hI hS
  refine enterC (args := [_]) gok Tryd.func148 rfl _ rfl rfl rfl ?_
  obtain ⟨a1, e, hF2⟩ := bindS hF; clear hF
  refine make_ (α := Int) gok rfl rfl rfl rfl (makeCO_of e) H ?_; clear e H; intro h4 w3 hx H
  clear hx
  cases hF2
  exact ⟨_, _, rfl, ⟨h4, rfl, rfl⟩, (H.sel [0] rfl).close ⟨cloE, trivial⟩⟩

theorem impl_mod_c (p_ : Int) (a_ : Int) (y : Int) (hF : F_impl_mod p_ a_ = some y) :
    ConF Tryd.prog 195 #[(.int .i64 p_), (.int .i64 a_)] [] [] (fun v Γ' => v = (.int .i64 y) ∧ Γ' = []) := by
  intro w0 S0 fp0 hI hS
  have H : Cx w0 fp0 S0 w0 [] := Cx.start hI hS
  clear hI hS
  refine enterC (args := [_, _]) gok Tryd.func195 rfl _ rfl rfl rfl ?_
  obtain ⟨a1, e, hF2⟩ := bindS hF; clear hF
  refine remO_ e ?_; clear e
  refine sq ?_
  obtain ⟨a3, e, hF4⟩ := bindS hF2; clear hF2
  refine boolO e ?_; clear e
  cases a3
  · have hF5 := condF hF4; clear hF4
    cases hF5
    exact ⟨_, _, rfl, ⟨rfl, rfl⟩, (H.sel [] rfl).close trivial⟩
  · have hF6 := condT hF4; clear hF4
    obtain ⟨a7, e, hF8⟩ := bindS hF6; clear hF6
    refine arO e ?_; clear e
    cases hF8
    exact ⟨_, _, rfl, ⟨rfl, rfl⟩, (H.sel [] rfl).close trivial⟩

theorem impl_addTimes_c (p_ : Int) (v_ : List Int) (v_h : Hd) (by_ : Int) (w_ : List Int) (w_h : Hd) (y : List Int) (hF : F_impl_addTimes p_ v_ by_ w_ = some y) :
    ConF Tryd.prog 186 #[(.int .i64 p_), (v_h).v, (.int .i64 by_), (w_h).v] [Es (List Int) w_ w_h] [E (List Int) v_ v_h] (fun v Γ' => v = (.tuple #[]) ∧ Γ' = [E (List Int) y v_h]) := by
  intro w0 S0 fp0 hI hS
  have H : Cx w0 fp0 S0 w0 [Es (List Int) w_ w_h, E (List Int) v_ v_h] := Cx.start hI hS
  clear hI hS
  refine enterC (args := [_, _, _, _]) gok Tryd.func186 rfl _ rfl rfl rfl ?_
  refine lenE (H.rs (α := List Int) 0 rfl).len ?_
  have hmx74 := (H.rs (α := List Int) 0 rfl).max
  obtain ⟨r75, e, hF76⟩ := bindS hF; clear hF
  refine loopS _ w_.length (fun (k3 : Nat) (s72 : List Int) (_ : Unit) => [(0, (.int .i64 p_)), (1, (v_h).v), (2, (.int .i64 by_)), (10, (w_h).v), (11, (.int .i64 ((w_.length : Nat) : Int))), (12, (.int .i64 ((k3 : Nat) : Int)))]) (fun _ (s72 : List Int) (_ : Unit) w' => Cx w0 fp0 S0 w' [E (List Int) s72 v_h, Es (List Int) w_ w_h]) v_ () e ⟨rfl, rfl, rfl, rfl, rfl, rfl, trivial⟩ (H.sel [1, 0] rfl) ?_ ?_
  · clear H e
    rintro T78 k3 s72 _ w77 o79 hk (H : Cx w0 fp0 S0 w77 [E (List Int) s72 v_h, Es (List Int) w_ w_h]) hF80
    refine boolE (z := true) (ltLen hk) ?_
    refine sq ?_
    refine sq ?_
    obtain ⟨a87, e, hF88⟩ := bindS hF80; clear hF80
    obtain ⟨p85, m86, c81, c82, c83, c84⟩ := (H.rs (α := List Int) 1 rfl).at1 e; clear e
    refine idxE c81 c82 c83 ?_; clear c81 c82 c83
    refine load1 c84 ?_; clear c84
    obtain ⟨a95, e, hF96⟩ := bindS hF88; clear hF88
    obtain ⟨p93, m94, c89, c90, c91, c92⟩ := (H.ro (α := List Int) 0 rfl).at1 e; clear e
    refine idxE c89 c90 c91 ?_; clear c89 c90 c91
    refine load1 c92 ?_; clear c92
    obtain ⟨a97, e, hF98⟩ := bindS hF96; clear hF96
    refine arO e ?_; clear e
    obtain ⟨a99, e, hF100⟩ := bindS hF98; clear hF98
    refine arO e ?_; clear e
    obtain ⟨y101, e, hF102⟩ := bindS hF100; clear hF100
    have ey101 := e; clear e
    refine callF (impl_mod_c p_ a99 y101 ey101) (Γi := []) H trivial ?_; clear H ey101
    rintro _ _ w103 ⟨rfl, rfl⟩ (H : Cx w0 fp0 S0 w103 [E (List Int) s72 v_h, Es (List Int) w_ w_h])
    obtain ⟨a110, e, hF111⟩ := bindS hF102; clear hF102
    have ea110 := e; clear e
    obtain ⟨p108, m109, c104, c105, c106⟩ := (H.ro (α := List Int) 0 rfl).setp ea110
    refine idxE c104 c105 c106 ?_
    refine setS (α := Int) H c104 c105 ea110 ?_; clear H c104 c105 c106 ea110; intro w112 H
    refine arK hk hmx74 ?_
    have hs := Option.some.inj hF111; subst hs; clear hF111
    exact ⟨(), ⟨rfl, rfl, rfl, rfl, rfl, rfl, trivial⟩, H.sel [0, 1] rfl⟩
  · clear H e
    rintro T114 _ w113 (H : Cx w0 fp0 S0 w113 [E (List Int) r75 v_h, Es (List Int) w_ w_h])
    refine boolE (z := false) geLen ?_
    refine sq ?_
    cases hF76
    exact ⟨_, _, rfl, ⟨rfl, rfl⟩, (H.sel [0] rfl).close ⟨cloE, trivial⟩⟩

theorem impl_combine_c (p_ : Int) (x_ : List Int) (x_h : Hd) (rows_ : List (List Int)) (rows_h : Hd) (n_ : Int) (y : List Int) (hF : F_impl_combine p_ x_ rows_ n_ = some y) :
    ConF Tryd.prog 175 #[(.int .i64 p_), (x_h).v, (rows_h).v, (.int .i64 n_)] [Es (List Int) x_ x_h, Es (List (List Int)) rows_ rows_h] [] (fun v Γ' => ∃ z0 : Hd, v = (z0).v ∧ Γ' = [E (List Int) y z0]) := by
  intro w0 S0 fp0 hI hS
  have H : Cx w0 fp0 S0 w0 [Es (List Int) x_ x_h, Es (List (List Int)) rows_ rows_h] := Cx.start hI hS
  clear hI hS
  refine enterC (args := [_, _, _, _]) gok Tryd.func175 rfl _ rfl rfl rfl ?_
  obtain ⟨y3, e, hF4⟩ := bindS hF; clear hF
  have ey3 := e; clear e
  refine callF (impl_zeros_c n_ y3 ey3) (Γi := []) H trivial ?_; clear H ey3
  rintro _ _ w5 ⟨h6, rfl, rfl⟩ (H : Cx w0 fp0 S0 w5 [E (List Int) y3 h6, Es (List Int) x_ x_h, Es (List (List Int)) rows_ rows_h])
  refine sq ?_
  refine lenE (H.rs (α := List (List Int)) 2 rfl).len ?_
  have hmx57 := (H.rs (α := List (List Int)) 2 rfl).max
  obtain ⟨r58, e, hF59⟩ := bindS hF4; clear hF4
  refine loopS _ rows_.length (fun (k8 : Nat) (s55 : List Int) (_ : Unit) => [(0, (.int .i64 p_)), (1, (x_h).v), (9, (h6).v), (14, (rows_h).v), (15, (.int .i64 ((rows_.length : Nat) : Int))), (16, (.int .i64 ((k8 : Nat) : Int)))]) (fun _ (s55 : List Int) (_ : Unit) w' => Cx w0 fp0 S0 w' [Es (List Int) x_ x_h, E (List Int) s55 h6, Es (List (List Int)) rows_ rows_h]) y3 () e ⟨rfl, rfl, rfl, rfl, rfl, rfl, trivial⟩ (H.sel [1, 0, 2] rfl) ?_ ?_
  · clear H e
    rintro T61 k8 s55 _ w60 o62 hk (H : Cx w0 fp0 S0 w60 [Es (List Int) x_ x_h, E (List Int) s55 h6, Es (List (List Int)) rows_ rows_h]) hF63
    refine boolE (z := true) (ltLen hk) ?_
    refine sq ?_
    refine sq ?_
    obtain ⟨a70, e, hF71⟩ := bindS hF63; clear hF63
    have HH := H; clear H; obtain ⟨p68, m69, h72, c64, c65, c66, c67, H⟩ := HH.elL 2 rfl e; clear HH
    clear e
    refine idxE c64 c65 c66 ?_; clear c64 c65 c66
    refine load1 c67 ?_; clear c67
    obtain ⟨a80, e, hF81⟩ := bindS hF71; clear hF71
    obtain ⟨p78, m79, c74, c75, c76, c77⟩ := (H.rs (α := List Int) 1 rfl).at1 e; clear e
    refine idxE c74 c75 c76 ?_; clear c74 c75 c76
    refine load1 c77 ?_; clear c77
    obtain ⟨y82, e, hF83⟩ := bindS hF81; clear hF81
    have ey82 := e; clear e
    replace H := H.sel [2, 0, 1, 3] rfl
    refine callF (impl_addTimes_c p_ s55 h6 a80 a70 h72 y82 ey82) (Γi := [E (List Int) s55 h6]) H ⟨Vw.sh 0 rfl, trivial⟩ ?_; clear H ey82
    rintro _ _ w84 ⟨rfl, rfl⟩ (H : Cx w0 fp0 S0 w84 [E (List Int) y82 h6, Es (List Int) a70 h72, Es (List Int) x_ x_h, Es (List (List Int)) rows_ rows_h])
    refine arK hk hmx57 ?_
    have hs := Option.some.inj hF83; subst hs; clear hF83
    exact ⟨(), ⟨rfl, rfl, rfl, rfl, rfl, rfl, trivial⟩, H.sel [2, 0, 3] rfl⟩
  · clear H e
    rintro T86 _ w85 (H : Cx w0 fp0 S0 w85 [Es (List Int) x_ x_h, E (List Int) r58 h6, Es (List (List Int)) rows_ rows_h])
    refine boolE (z := false) geLen ?_
    refine sq ?_
    cases hF59
    exact ⟨_, _, rfl, ⟨h6, rfl, rfl⟩, (H.sel [1] rfl).close ⟨cloE, trivial⟩⟩

theorem impl_product_c (p_ : Int) (rows_ : List (List Int)) (rows_h : Hd) (m_ : List (List Int)) (m_h : Hd) (n_ : Int) (y : List (List Int)) (hF : F_impl_product p_ rows_ m_ n_ = some y) :
    ConF Tryd.prog 139 #[(.int .i64 p_), (rows_h).v, (m_h).v, (.int .i64 n_)] [Es (List (List Int)) rows_ rows_h, Es (List (List Int)) m_ m_h] [] (fun v Γ' => ∃ z0 : Hd, v = (z0).v ∧ Γ' = [E (List (List Int)) y z0]) := by
  intro w0 S0 fp0 hI hS
  have H : Cx w0 fp0 S0 w0 [Es (List (List Int)) rows_ rows_h, Es (List (List Int)) m_ m_h] := Cx.start hI hS
  clear hI hS
  refine enterC (args := [_, _, _, _]) gok Tryd.func139 rfl _ rfl rfl rfl ?_
  refine lit0 (α := List Int) gok rfl rfl H ?_; clear H; intro h4 w3 hx H
  clear hx
  refine sq ?_
  refine lenE (H.rs (α := List (List Int)) 1 rfl).len ?_
  have hmx61 := (H.rs (α := List (List Int)) 1 rfl).max
  obtain ⟨r62, e, hF63⟩ := bindS hF; clear hF
  refine loopS _ rows_.length (fun (k6 : Nat) (s58 : List (List Int)) (g59 : Hd) => [(0, (.int .i64 p_)), (2, (m_h).v), (3, (.int .i64 n_)), (9, (g59).v), (13, (rows_h).v), (14, (.int .i64 ((rows_.length : Nat) : Int))), (15, (.int .i64 ((k6 : Nat) : Int)))]) (fun _ (s58 : List (List Int)) (g59 : Hd) w' => Cx w0 fp0 S0 w' [Es (List (List Int)) m_ m_h, E (List (List Int)) s58 g59, Es (List (List Int)) rows_ rows_h]) ([] : List (List Int)) h4 e ⟨rfl, rfl, rfl, rfl, rfl, rfl, rfl, trivial⟩ (H.sel [2, 0, 1] rfl) ?_ ?_
  · clear H e
    rintro T65 k6 s58 g59 w64 o66 hk (H : Cx w0 fp0 S0 w64 [Es (List (List Int)) m_ m_h, E (List (List Int)) s58 g59, Es (List (List Int)) rows_ rows_h]) hF67
    refine boolE (z := true) (ltLen hk) ?_
    refine sq ?_
    refine sq ?_
    obtain ⟨a74, e, hF75⟩ := bindS hF67; clear hF67
    have HH := H; clear H; obtain ⟨p72, m73, h76, c68, c69, c70, c71, H⟩ := HH.elL 2 rfl e; clear HH
    clear e
    refine idxE c68 c69 c70 ?_; clear c68 c69 c70
    refine load1 c71 ?_; clear c71
    obtain ⟨y78, e, hF79⟩ := bindS hF75; clear hF75
    have ey78 := e; clear e
    refine callF (impl_combine_c p_ a74 h76 m_ m_h n_ y78 ey78) (Γi := []) H ⟨Vw.sh 0 rfl, Vw.sh 1 rfl, trivial⟩ ?_; clear H ey78
    rintro _ _ w80 ⟨h81, rfl, rfl⟩ (H : Cx w0 fp0 S0 w80 [E (List Int) y78 h81, Es (List Int) a74 h76, Es (List (List Int)) m_ m_h, E (List (List Int)) s58 g59, Es (List (List Int)) rows_ rows_h])
    refine lit1 (α := List Int) (g := h81) gok rfl rfl rfl rfl rfl H ?_; clear H; intro h84 w83 hx H
    clear hx
    obtain ⟨a86, e, hF87⟩ := bindS hF79; clear hF79
    replace H := H.sel [3, 0, 1, 2, 4] rfl
    refine append_ (α := List Int) gok rfl rfl rfl rfl H e ?_; clear e H; intro h89 w88 H
    refine arK hk hmx61 ?_
    have hs := Option.some.inj hF87; subst hs; clear hF87
    exact ⟨h89, ⟨rfl, rfl, rfl, rfl, rfl, rfl, rfl, trivial⟩, H.sel [2, 0, 3] rfl⟩
  · clear H e
    rintro T92 g94 w91 (H : Cx w0 fp0 S0 w91 [Es (List (List Int)) m_ m_h, E (List (List Int)) r62 g94, Es (List (List Int)) rows_ rows_h])
    refine boolE (z := false) geLen ?_
    refine sq ?_
    cases hF63
    exact ⟨_, _, rfl, ⟨g94, rfl, rfl⟩, (H.sel [1] rfl).close ⟨cloE, trivial⟩⟩

theorem impl_StateSpace_markov_c (s__0 : Int) (s__1 : Int) (s__2 : Int) (s__3 : List (List Int)) (s__3h : Hd) (s__4 : List (List Int)) (s__4h : Hd) (s__5 : List (List Int)) (s__5h : Hd) (s__6 : List (List Int)) (s__6h : Hd) (p_ : Int) (n_ : Int) (y : List (Int × List (List Int))) (hF : F_impl_StateSpace_markov (s__0, s__1, s__2, s__3, s__4, s__5, s__6) p_ n_ = some y) :
    ConF Tryd.prog 73 #[(.agg #[(.int .i64 s__0), (.int .i64 s__1), (.int .i64 s__2), (s__3h).v, (s__4h).v, (s__5h).v, (s__6h).v]), (.int .i64 p_), (.int .i64 n_)] [Es (List (List Int)) s__3 s__3h, Es (List (List Int)) s__4 s__4h, Es (List (List Int)) s__5 s__5h, Es (List (List Int)) s__6 s__6h] [] (fun v Γ' => ∃ z0 : Hd, v = (z0).v ∧ Γ' = [E (List (Int × List (List Int))) y z0]) := by
  intro w0 S0 fp0 hI hS
  have H : Cx w0 fp0 S0 w0 [Es (List (List Int)) s__3 s__3h, Es (List (List Int)) s__4 s__4h, Es (List (List Int)) s__5 s__5h, Es (List (List Int)) s__6 s__6h] := Cx.start hI hS
  clear hI hS
  refine enterC (args := [_, _, _]) gok Tryd.func73 rfl _ rfl rfl rfl ?_
  refine box_ H ?_; clear H; intro b6 w5 hx H
  clear hx
  replace H : Cx w0 fp0 S0 w5 [Bx b6 [(.int .i64 s__0), (.int .i64 s__1), (.int .i64 s__2), (s__3h).v, (s__4h).v, (s__5h).v, (s__6h).v], Es (List (List Int)) s__3 s__3h, Es (List (List Int)) s__4 s__4h, Es (List (List Int)) s__5 s__5h, Es (List (List Int)) s__6 s__6h] := H
  refine lit0 (α := Int × List (List Int)) gok rfl rfl H ?_; clear H; intro h9 w8 hx H
  clear hx
  refine fld gok rfl rfl rfl rfl ?_
  refine load1 (H.bx 1 rfl (j := 4) rfl) ?_
  obtain ⟨y11, e, hF12⟩ := bindS hF; clear hF
  have ey11 := e; clear e
  refine callF (impl_clones_c s__4 s__4h y11 ey11) (Γi := []) H ⟨Vw.sh 3 rfl, trivial⟩ ?_; clear H ey11
  rintro _ _ w13 ⟨h14, rfl, rfl⟩ (H : Cx w0 fp0 S0 w13 [E (List (List Int)) y11 h14, E (List (Int × List (List Int))) ([] : List (Int × List (List Int))) h9, Bx b6 [(.int .i64 s__0), (.int .i64 s__1), (.int .i64 s__2), (s__3h).v, (s__4h).v, (s__5h).v, (s__6h).v], Es (List (List Int)) s__3 s__3h, Es (List (List Int)) s__4 s__4h, Es (List (List Int)) s__5 s__5h, Es (List (List Int)) s__6 s__6h])
  refine sq ?_
  obtain ⟨a211, hn, hF212⟩ := bindS hF12; clear hF12
  obtain ⟨r214, e, hF215⟩ := bindS hF212; clear hF212
  refine loopS _ n_.toNat (fun (k16 : Nat) (s207 : (List (Int × List (List Int))) × List (List Int)) (g208 : Hd × Hd) => [(1, (.int .i64 p_)), (3, (.pointer (some ⟨b6, 0, none⟩))), (7, (g208.1).v), (8, (g208.2).v), (14, (.int .i64 n_)), (15, (.int .i64 ((k16 : Nat) : Int)))]) (fun _ (s207 : (List (Int × List (List Int))) × List (List Int)) (g208 : Hd × Hd) w' => Cx w0 fp0 S0 w' [Bx b6 [(.int .i64 s__0), (.int .i64 s__1), (.int .i64 s__2), (s__3h).v, (s__4h).v, (s__5h).v, (s__6h).v], Es (List (List Int)) s__3 s__3h, Es (List (List Int)) s__4 s__4h, Es (List (List Int)) s__5 s__5h, Es (List (List Int)) s__6 s__6h, E (List (Int × List (List Int))) s207.1 g208.1, E (List (List Int)) s207.2 g208.2]) (([] : List (Int × List (List Int))), y11) (h9, h14) e ⟨rfl, rfl, rfl, rfl, rfl, rfl, trivial⟩ (H.sel [2, 3, 4, 5, 6, 1, 0] rfl) ?_ ?_
  · clear H e
    rintro T217 k16 ⟨s207_0, s207_1⟩ ⟨g208_0, g208_1⟩ w216 o218 hk (H : Cx w0 fp0 S0 w216 [Bx b6 [(.int .i64 s__0), (.int .i64 s__1), (.int .i64 s__2), (s__3h).v, (s__4h).v, (s__5h).v, (s__6h).v], Es (List (List Int)) s__3 s__3h, Es (List (List Int)) s__4 s__4h, Es (List (List Int)) s__5 s__5h, Es (List (List Int)) s__6 s__6h, E (List (Int × List (List Int))) s207_0 g208_0, E (List (List Int)) s207_1 g208_1]) hF219
    refine boolE (z := true) (ltNat hk) ?_
    refine sq ?_
    obtain ⟨r265, hF267, hF266⟩ := bindS hF219; clear hF219
    refine cut (fun (q268 : ((List (Int × List (List Int))) × List (List Int)) × (Hd × Hd)) => [(1, (.int .i64 p_)), (3, (.pointer (some ⟨b6, 0, none⟩))), (7, (q268.2.1).v), (8, (q268.2.2).v), (14, (.int .i64 n_)), (15, (.int .i64 ((k16 : Nat) : Int)))]) (fun (q268 : ((List (Int × List (List Int))) × List (List Int)) × (Hd × Hd)) w' => (q268.1.1, q268.1.2) = r265 ∧ Cx w0 fp0 S0 w' [Bx b6 [(.int .i64 s__0), (.int .i64 s__1), (.int .i64 s__2), (s__3h).v, (s__4h).v, (s__5h).v, (s__6h).v], Es (List (List Int)) s__3 s__3h, Es (List (List Int)) s__4 s__4h, Es (List (List Int)) s__5 s__5h, Es (List (List Int)) s__6 s__6h, E (List (Int × List (List Int))) q268.1.1 q268.2.1, E (List (List Int)) q268.1.2 q268.2.2]) ?_ ?_
    · skip
      refine sq ?_
      obtain ⟨a269, e, hF270⟩ := bindS hF267; clear hF267
      refine boolO e ?_; clear e
      cases a269
      · have hF271 := condF hF270; clear hF270
        refine heldX H [12, 13] (.fst 0 (.fst 1 (.fst 3 (.fst 4 (.fst 5 (.fst 7 (.fst 2 (.fst 6 (.fst 8 (.act 9 (.fst 10 (.act 11 (.act 12 (.act 13 .done)))))))))))))) mixed [] trivial (by kernel_rfl) ?_
        clear H; intro w272 H
        have hX : Ext w272 w272 := Upd.refl _ _
        have H0 := H
        refine anyH (fun _ => fld gok rfl rfl rfl rfl ⟨rfl, rfl⟩) ?_
        refine anyH (fun _ => fld gok rfl rfl rfl rfl ⟨rfl, rfl⟩) ?_
        refine anyH (fun _ => fld gok rfl rfl rfl rfl ⟨rfl, rfl⟩) ?_
        refine load1X (H.bx 0 rfl (j := 2) rfl) ?_
        refine load1X (H.bx 0 rfl (j := 5) rfl) ?_
        refine load1X (H.bx 0 rfl (j := 2) rfl) ?_
        obtain ⟨y273, e, hF274⟩ := bindS hF271; clear hF271
        have ey273 := e; clear e
        refine callFx (impl_product_c p_ s207_1 g208_1 s__5 s__5h s__2 y273 ey273) H ⟨Vw.own 6 rfl, Vw.sh 3 rfl, trivial⟩ ?_; clear H ey273
        rintro _ _ w275 ⟨h276, rfl, rfl⟩ hx (H : Cx w0 fp0 S0 w275 [E (List (List Int)) y273 h276, Bx b6 [(.int .i64 s__0), (.int .i64 s__1), (.int .i64 s__2), (s__3h).v, (s__4h).v, (s__5h).v, (s__6h).v], Es (List (List Int)) s__3 s__3h, Es (List (List Int)) s__4 s__4h, Es (List (List Int)) s__5 s__5h, Es (List (List Int)) s__6 s__6h, E (List (Int × List (List Int))) s207_0 g208_0, E (List (List Int)) s207_1 g208_1])
        replace hX := hX.trans0 hx; clear hx
        refine hold hX ?_
        refine anyH (fun _ => build_ (cs := #[(.int .i64 s__2), (h276).v]) gok rfl rfl rfl ⟨rfl, rfl⟩) ?_
        replace H := H.sc (α := Int) s__2
        replace H := H.join (α := Int) (β := List (List Int))
        refine lit1 (α := Int × List (List Int)) (g := ((), h276)) gok rfl rfl rfl rfl rfl H ?_; clear H; intro h279 w278 hx H
        replace hX := hX.trans0 hx; clear hx
        refine hold hX ?_
        obtain ⟨a283, e, hF284⟩ := bindS hF274; clear hF274
        replace H := H.sel [6, 0, 1, 2, 3, 4, 5, 7] rfl
        refine append_ (α := Int × List (List Int)) gok rfl rfl rfl rfl H e ?_; clear e H; intro h286 w285 H
        refine hold trivial ?_
        refine hold trivial ?_
        refine fld gok rfl rfl rfl rfl ?_
        refine load1 (H.bx 1 rfl (j := 3) rfl) ?_
        refine fld gok rfl rfl rfl rfl ?_
        refine load1 (H.bx 1 rfl (j := 0) rfl) ?_
        obtain ⟨y288, e, hF289⟩ := bindS hF284; clear hF284
        have ey288 := e; clear e
        refine callF (impl_product_c p_ s207_1 g208_1 s__3 s__3h s__0 y288 ey288) (Γi := []) H ⟨Vw.own 6 rfl, Vw.sh 2 rfl, trivial⟩ ?_; clear H ey288
        rintro _ _ w290 ⟨h291, rfl, rfl⟩ (H : Cx w0 fp0 S0 w290 [E (List (List Int)) y288 h291, E (List (Int × List (List Int))) a283 h286, Bx b6 [(.int .i64 s__0), (.int .i64 s__1), (.int .i64 s__2), (s__3h).v, (s__4h).v, (s__5h).v, (s__6h).v], Es (List (List Int)) s__3 s__3h, Es (List (List Int)) s__4 s__4h, Es (List (List Int)) s__5 s__5h, Es (List (List Int)) s__6 s__6h, E (List (List Int)) s207_1 g208_1])
        exact ⟨((a283, y288), (h286, h291)), ⟨rfl, rfl, rfl, rfl, rfl, rfl, trivial⟩, Option.some.inj hF289, H.sel [2, 3, 4, 5, 6, 1, 0] rfl⟩
      · have hF293 := condT hF270; clear hF270
        refine heldX H [8, 9] (.fst 0 (.fst 1 (.fst 3 (.fst 2 (.fst 4 (.act 5 (.fst 6 (.act 7 (.act 8 (.act 9 .done)))))))))) mixed [] trivial (by kernel_rfl) ?_
        clear H; intro w294 H
        have hX : Ext w294 w294 := Upd.refl _ _
        have H0 := H
        refine anyH (fun _ => fld gok rfl rfl rfl rfl ⟨rfl, rfl⟩) ?_
        refine anyH (fun _ => fld gok rfl rfl rfl rfl ⟨rfl, rfl⟩) ?_
        refine load1X (H.bx 0 rfl (j := 2) rfl) ?_
        refine load1X (H.bx 0 rfl (j := 6) rfl) ?_
        obtain ⟨y295, e, hF296⟩ := bindS hF293; clear hF293
        have ey295 := e; clear e
        refine callFx (impl_clones_c s__6 s__6h y295 ey295) H ⟨Vw.sh 4 rfl, trivial⟩ ?_; clear H ey295
        rintro _ _ w297 ⟨h298, rfl, rfl⟩ hx (H : Cx w0 fp0 S0 w297 [E (List (List Int)) y295 h298, Bx b6 [(.int .i64 s__0), (.int .i64 s__1), (.int .i64 s__2), (s__3h).v, (s__4h).v, (s__5h).v, (s__6h).v], Es (List (List Int)) s__3 s__3h, Es (List (List Int)) s__4 s__4h, Es (List (List Int)) s__5 s__5h, Es (List (List Int)) s__6 s__6h, E (List (Int × List (List Int))) s207_0 g208_0, E (List (List Int)) s207_1 g208_1])
        replace hX := hX.trans0 hx; clear hx
        refine hold hX ?_
        refine anyH (fun _ => build_ (cs := #[(.int .i64 s__2), (h298).v]) gok rfl rfl rfl ⟨rfl, rfl⟩) ?_
        replace H := H.sc (α := Int) s__2
        replace H := H.join (α := Int) (β := List (List Int))
        refine lit1 (α := Int × List (List Int)) (g := ((), h298)) gok rfl rfl rfl rfl rfl H ?_; clear H; intro h301 w300 hx H
        replace hX := hX.trans0 hx; clear hx
        refine hold hX ?_
        obtain ⟨a305, e, hF306⟩ := bindS hF296; clear hF296
        replace H := H.sel [6, 0, 1, 2, 3, 4, 5, 7] rfl
        refine append_ (α := Int × List (List Int)) gok rfl rfl rfl rfl H e ?_; clear e H; intro h308 w307 H
        refine hold trivial ?_
        refine hold trivial ?_
        exact ⟨((a305, s207_1), (h308, g208_1)), ⟨rfl, rfl, rfl, rfl, rfl, rfl, trivial⟩, Option.some.inj hF306, H.sel [1, 2, 3, 4, 5, 0, 6] rfl⟩
    · clear hF267 H
      rintro T311 ⟨⟨s261_0, s261_1⟩, ⟨g262_0, g262_1⟩⟩ w310 ⟨hr, (H : Cx w0 fp0 S0 w310 [Bx b6 [(.int .i64 s__0), (.int .i64 s__1), (.int .i64 s__2), (s__3h).v, (s__4h).v, (s__5h).v, (s__6h).v], Es (List (List Int)) s__3 s__3h, Es (List (List Int)) s__4 s__4h, Es (List (List Int)) s__5 s__5h, Es (List (List Int)) s__6 s__6h, E (List (Int × List (List Int))) s261_0 g262_0, E (List (List Int)) s261_1 g262_1])⟩
      subst hr
      refine arK hk (maxI hn) ?_
      have hs := Option.some.inj hF266; subst hs; clear hF266
      exact ⟨(g262_0, g262_1), ⟨rfl, rfl, rfl, rfl, rfl, rfl, trivial⟩, H.sel [0, 1, 2, 3, 4, 5, 6] rfl⟩
  · clear H e
    obtain ⟨s314_0, s314_1⟩ := r214
    rintro T313 ⟨g315_0, g315_1⟩ w312 (H : Cx w0 fp0 S0 w312 [Bx b6 [(.int .i64 s__0), (.int .i64 s__1), (.int .i64 s__2), (s__3h).v, (s__4h).v, (s__5h).v, (s__6h).v], Es (List (List Int)) s__3 s__3h, Es (List (List Int)) s__4 s__4h, Es (List (List Int)) s__5 s__5h, Es (List (List Int)) s__6 s__6h, E (List (Int × List (List Int))) s314_0 g315_0, E (List (List Int)) s314_1 g315_1])
    refine boolE (z := false) geNat ?_
    refine sq ?_
    cases hF215
    exact ⟨_, _, rfl, ⟨g315_0, rfl, rfl⟩, (H.sel [5] rfl).close ⟨cloE, trivial⟩⟩

theorem slices_Equal_int_int_c (s1_ : List Int) (s1_h : Hd) (s2_ : List Int) (s2_h : Hd) (y : Bool) (hF : F_slices_Equal_int_int s1_ s2_ = some y) :
    ConF Tryd.prog 177 #[(s1_h).v, (s2_h).v] [Es (List Int) s1_ s1_h, Es (List Int) s2_ s2_h] [] (fun v Γ' => v = (.bool y) ∧ Γ' = []) := by
  intro w0 S0 fp0 hI hS
  have H : Cx w0 fp0 S0 w0 [Es (List Int) s1_ s1_h, Es (List Int) s2_ s2_h] := Cx.start hI hS
  clear hI hS
  refine enterC (args := [_, _]) gok Tryd.func177 rfl _ rfl rfl rfl ?_
  refine sq ?_
  refine lenE (H.rs (α := List Int) 0 rfl).len ?_
  refine lenE (H.rs (α := List Int) 1 rfl).len ?_
  obtain ⟨a3, e, hF4⟩ := bindS hF; clear hF
  refine boolO e ?_; clear e
  cases a3
  · have hF5 := condF hF4; clear hF4
    refine sq ?_
    refine lenE (H.rs (α := List Int) 0 rfl).len ?_
    have hmx32 := (H.rs (α := List Int) 0 rfl).max
    obtain ⟨r33, e, hF34⟩ := bindS hF5; clear hF5
    refine loopO _ s1_.length (fun (k6 : Nat) (_ : Unit) (_ : Unit) => [(0, (s1_h).v), (1, (s2_h).v), (12, (.int .i64 ((s1_.length : Nat) : Int))), (13, (.int .i64 ((k6 : Nat) : Int)))]) (fun _ (_ : Unit) (_ : Unit) w' => Cx w0 fp0 S0 w' [Es (List Int) s1_ s1_h, Es (List Int) s2_ s2_h]) () () e ⟨rfl, rfl, rfl, rfl, trivial⟩ (H.sel [0, 1] rfl) ?_ ?_
    · clear H e
      rintro T36 k6 _ _ w35 o37 hk (H : Cx w0 fp0 S0 w35 [Es (List Int) s1_ s1_h, Es (List Int) s2_ s2_h]) hrt hF38
      refine boolE (z := true) (ltLen hk) ?_
      refine sq ?_
      refine sq ?_
      refine heldX H [] (.fst 0 (.fst 1 (.fst 2 (.fst 4 (.fst 5 (.fst 6 (.fst 3 (.fst 7 (.fst 8 .done))))))))) mixed [] trivial (by kernel_rfl) ?_
      clear H; intro w39 H
      have hX : Ext w39 w39 := Upd.refl _ _
      have H0 := H
      obtain ⟨a46, e, hF47⟩ := bindS hF38; clear hF38
      obtain ⟨p44, m45, c40, c41, c42, c43⟩ := (H.rs (α := List Int) 0 rfl).at1 e; clear e
      refine idxE c40 c41 c42 ?_; clear c40 c41 c42
      obtain ⟨a54, e, hF55⟩ := bindS hF47; clear hF47
      obtain ⟨p52, m53, c48, c49, c50, c51⟩ := (H.rs (α := List Int) 1 rfl).at1 e; clear e
      refine idxE c48 c49 c50 ?_; clear c48 c49 c50
      refine load1X c43 ?_; clear c43
      refine load1X c51 ?_; clear c51
      obtain ⟨a56, e, hF57⟩ := bindS hF55; clear hF55
      refine boolO e ?_; clear e
      cases a56
      · have hF58 := condF hF57; clear hF57
        refine arK hk hmx32 ?_
        have hs := Option.some.inj hF58; subst hs; clear hF58
        exact ⟨(), (), rfl, ⟨rfl, rfl, rfl, rfl, trivial⟩, H.sel [0, 1] rfl⟩
      · have hF59 := condT hF57; clear hF57
        have hs := Option.some.inj hF59; subst hs; clear hF59
        have hr := hrt _ rfl; subst hr
        have hF60 : some _ = some _ := hF34
        cases hF60
        exact ⟨_, _, rfl, ⟨rfl, rfl⟩, (H.sel [] rfl).close trivial⟩
    · clear H e
      rintro T62 _ _ w61 hr (H : Cx w0 fp0 S0 w61 [Es (List Int) s1_ s1_h, Es (List Int) s2_ s2_h])
      subst hr
      refine boolE (z := false) geLen ?_
      refine sq ?_
      cases hF34
      exact ⟨_, _, rfl, ⟨rfl, rfl⟩, (H.sel [] rfl).close trivial⟩
  · have hF65 := condT hF4; clear hF4
    cases hF65
    exact ⟨_, _, rfl, ⟨rfl, rfl⟩, (H.sel [] rfl).close trivial⟩

theorem slices_EqualFunc_int_int_int_int_slices_Equal_int_int_c (s1_ : List (List Int)) (s1_h : Hd) (s2_ : List (List Int)) (s2_h : Hd) (y : Bool) (hF : F_slices_EqualFunc_int_int_int_int_slices_Equal_int_int s1_ s2_ = some y) :
    ConF Tryd.prog 176 #[(s1_h).v, (s2_h).v, (.func (.func 177) #[] #[])] [Es (List (List Int)) s1_ s1_h, Es (List (List Int)) s2_ s2_h] [] (fun v Γ' => v = (.bool y) ∧ Γ' = []) := by
  intro w0 S0 fp0 hI hS
  have H : Cx w0 fp0 S0 w0 [Es (List (List Int)) s1_ s1_h, Es (List (List Int)) s2_ s2_h] := Cx.start hI hS
  clear hI hS
  refine enterC (args := [_, _, _]) gok Tryd.func176 rfl _ rfl rfl rfl ?_
  refine sq ?_
  refine lenE (H.rs (α := List (List Int)) 0 rfl).len ?_
  refine lenE (H.rs (α := List (List Int)) 1 rfl).len ?_
  obtain ⟨a3, e, hF4⟩ := bindS hF; clear hF
  refine boolO e ?_; clear e
  cases a3
  · have hF5 := condF hF4; clear hF4
    refine sq ?_
    refine lenE (H.rs (α := List (List Int)) 0 rfl).len ?_
    have hmx38 := (H.rs (α := List (List Int)) 0 rfl).max
    obtain ⟨r39, e, hF40⟩ := bindS hF5; clear hF5
    refine loopO _ s1_.length (fun (k6 : Nat) (_ : Unit) (_ : Unit) => [(1, (s2_h).v), (2, (.func (.func 177) #[] #[])), (15, (s1_h).v), (16, (.int .i64 ((s1_.length : Nat) : Int))), (17, (.int .i64 ((k6 : Nat) : Int)))]) (fun _ (_ : Unit) (_ : Unit) w' => Cx w0 fp0 S0 w' [Es (List (List Int)) s2_ s2_h, Es (List (List Int)) s1_ s1_h]) () () e ⟨rfl, rfl, rfl, rfl, rfl, trivial⟩ (H.sel [1, 0] rfl) ?_ ?_
    · clear H e
      rintro T42 k6 _ _ w41 o43 hk (H : Cx w0 fp0 S0 w41 [Es (List (List Int)) s2_ s2_h, Es (List (List Int)) s1_ s1_h]) hrt hF44
      refine boolE (z := true) (ltLen hk) ?_
      refine sq ?_
      refine sq ?_
      obtain ⟨a51, e, hF52⟩ := bindS hF44; clear hF44
      have HH := H; clear H; obtain ⟨p49, m50, h53, c45, c46, c47, c48, H⟩ := HH.elL 1 rfl e; clear HH
      clear e
      refine idxE c45 c46 c47 ?_; clear c45 c46 c47
      refine load1 c48 ?_; clear c48
      obtain ⟨a61, e, hF62⟩ := bindS hF52; clear hF52
      have HH := H; clear H; obtain ⟨p59, m60, h63, c55, c56, c57, c58, H⟩ := HH.elL 1 rfl e; clear HH
      clear e
      refine idxE c55 c56 c57 ?_; clear c55 c56 c57
      refine load1 c58 ?_; clear c58
      obtain ⟨y65, e, hF66⟩ := bindS hF62; clear hF62
      have ey65 := e; clear e
      refine callF (slices_Equal_int_int_c a51 h53 a61 h63 y65 ey65) (Γi := []) H ⟨Vw.sh 1 rfl, Vw.sh 0 rfl, trivial⟩ ?_; clear H ey65
      rintro _ _ w67 ⟨rfl, rfl⟩ (H : Cx w0 fp0 S0 w67 [Es (List Int) a61 h63, Es (List Int) a51 h53, Es (List (List Int)) s2_ s2_h, Es (List (List Int)) s1_ s1_h])
      obtain ⟨a68, e, hF69⟩ := bindS hF66; clear hF66
      refine boolO e ?_; clear e
      cases a68
      · have hF70 := condF hF69; clear hF69
        refine arK hk hmx38 ?_
        have hs := Option.some.inj hF70; subst hs; clear hF70
        exact ⟨(), (), rfl, ⟨rfl, rfl, rfl, rfl, rfl, trivial⟩, H.sel [2, 3] rfl⟩
      · have hF71 := condT hF69; clear hF69
        have hs := Option.some.inj hF71; subst hs; clear hF71
        have hr := hrt _ rfl; subst hr
        have hF72 : some _ = some _ := hF40
        cases hF72
        exact ⟨_, _, rfl, ⟨rfl, rfl⟩, (H.sel [] rfl).close trivial⟩
    · clear H e
      rintro T74 _ _ w73 hr (H : Cx w0 fp0 S0 w73 [Es (List (List Int)) s2_ s2_h, Es (List (List Int)) s1_ s1_h])
      subst hr
      refine boolE (z := false) geLen ?_
      refine sq ?_
      cases hF40
      exact ⟨_, _, rfl, ⟨rfl, rfl⟩, (H.sel [] rfl).close trivial⟩
  · have hF77 := condT hF4; clear hF4
    cases hF77
    exact ⟨_, _, rfl, ⟨rfl, rfl⟩, (H.sel [] rfl).close trivial⟩

theorem impl_sameRows_c (a_ : List (List Int)) (a_h : Hd) (b_ : List (List Int)) (b_h : Hd) (y : Bool) (hF : F_impl_sameRows a_ b_ = some y) :
    ConF Tryd.prog 140 #[(a_h).v, (b_h).v] [Es (List (List Int)) a_ a_h, Es (List (List Int)) b_ b_h] [] (fun v Γ' => v = (.bool y) ∧ Γ' = []) := by
  intro w0 S0 fp0 hI hS
  have H : Cx w0 fp0 S0 w0 [Es (List (List Int)) a_ a_h, Es (List (List Int)) b_ b_h] := Cx.start hI hS
  clear hI hS
  refine enterC (args := [_, _]) gok Tryd.func140 rfl _ rfl rfl rfl ?_
  obtain ⟨y3, e, hF4⟩ := bindS hF; clear hF
  have ey3 := e; clear e
  refine callF (slices_EqualFunc_int_int_int_int_slices_Equal_int_int_c a_ a_h b_ b_h y3 ey3) (Γi := []) H ⟨Vw.sh 0 rfl, Vw.sh 1 rfl, trivial⟩ ?_; clear H ey3
  rintro _ _ w5 ⟨rfl, rfl⟩ (H : Cx w0 fp0 S0 w5 [Es (List (List Int)) a_ a_h, Es (List (List Int)) b_ b_h])
  cases hF4
  exact ⟨_, _, rfl, ⟨rfl, rfl⟩, (H.sel [] rfl).close trivial⟩

theorem impl_equalMatrices_c (a__0 : Int) (a__1 : List (List Int)) (a__1h : Hd) (b__0 : Int) (b__1 : List (List Int)) (b__1h : Hd) (y : Bool) (hF : F_impl_equalMatrices (a__0, a__1) (b__0, b__1) = some y) :
    ConF Tryd.prog 74 #[(.agg #[(.int .i64 a__0), (a__1h).v]), (.agg #[(.int .i64 b__0), (b__1h).v])] [Es (List (List Int)) a__1 a__1h, Es (List (List Int)) b__1 b__1h] [] (fun v Γ' => v = (.bool y) ∧ Γ' = []) := by
  intro w0 S0 fp0 hI hS
  have H : Cx w0 fp0 S0 w0 [Es (List (List Int)) a__1 a__1h, Es (List (List Int)) b__1 b__1h] := Cx.start hI hS
  clear hI hS
  refine enterC (args := [_, _]) gok Tryd.func74 rfl _ rfl rfl rfl ?_
  refine box_ H ?_; clear H; intro b4 w3 hx H
  clear hx
  replace H : Cx w0 fp0 S0 w3 [Bx b4 [(.int .i64 a__0), (a__1h).v], Es (List (List Int)) a__1 a__1h, Es (List (List Int)) b__1 b__1h] := H
  refine box_ H ?_; clear H; intro b7 w6 hx H
  clear hx
  replace H : Cx w0 fp0 S0 w6 [Bx b7 [(.int .i64 b__0), (b__1h).v], Bx b4 [(.int .i64 a__0), (a__1h).v], Es (List (List Int)) a__1 a__1h, Es (List (List Int)) b__1 b__1h] := H
  obtain ⟨r18, hF20, hF19⟩ := bindS hF; clear hF
  refine cut (fun (q21 : Bool) => [(4, (.bool q21))]) (fun (q21 : Bool) w' => q21 = r18 ∧ Cx w0 fp0 S0 w' []) ?_ ?_
  · skip
    refine fld gok rfl rfl rfl rfl ?_
    refine load1 (H.bx 1 rfl (j := 0) rfl) ?_
    refine fld gok rfl rfl rfl rfl ?_
    refine load1 (H.bx 0 rfl (j := 0) rfl) ?_
    obtain ⟨a22, e, hF23⟩ := bindS hF20; clear hF20
    refine boolO e ?_; clear e
    cases a22
    · have hF24 := condF hF23; clear hF23
      exact ⟨false, ⟨rfl, trivial⟩, Option.some.inj hF24, H.sel [] rfl⟩
    · have hF25 := condT hF23; clear hF23
      refine fld gok rfl rfl rfl rfl ?_
      refine load1 (H.bx 1 rfl (j := 1) rfl) ?_
      refine fld gok rfl rfl rfl rfl ?_
      refine load1 (H.bx 0 rfl (j := 1) rfl) ?_
      obtain ⟨y26, e, hF27⟩ := bindS hF25; clear hF25
      have ey26 := e; clear e
      refine callF (impl_sameRows_c a__1 a__1h b__1 b__1h y26 ey26) (Γi := []) H ⟨Vw.sh 2 rfl, Vw.sh 3 rfl, trivial⟩ ?_; clear H ey26
      rintro _ _ w28 ⟨rfl, rfl⟩ (H : Cx w0 fp0 S0 w28 [Bx b7 [(.int .i64 b__0), (b__1h).v], Bx b4 [(.int .i64 a__0), (a__1h).v], Es (List (List Int)) a__1 a__1h, Es (List (List Int)) b__1 b__1h])
      exact ⟨y26, ⟨rfl, trivial⟩, Option.some.inj hF27, H.sel [] rfl⟩
  · clear hF20 H
    rintro T30 s16 w29 ⟨hr, (H : Cx w0 fp0 S0 w29 [])⟩
    subst hr
    cases hF19
    exact ⟨_, _, rfl, ⟨rfl, rfl⟩, (H.sel [] rfl).close trivial⟩

theorem slices_EqualFunc_impl_Matrix_impl_Matrix_impl_Matrix_impl_Matrix_impl_equalMatrices_c (s1_ : List (Int × List (List Int))) (s1_h : Hd) (s2_ : List (Int × List (List Int))) (s2_h : Hd) (y : Bool) (hF : F_slices_EqualFunc_impl_Matrix_impl_Matrix_impl_Matrix_impl_Matrix_impl_equalMatrices s1_ s2_ = some y) :
    ConF Tryd.prog 72 #[(s1_h).v, (s2_h).v, (.func (.func 74) #[] #[])] [Es (List (Int × List (List Int))) s1_ s1_h, Es (List (Int × List (List Int))) s2_ s2_h] [] (fun v Γ' => v = (.bool y) ∧ Γ' = []) := by
  intro w0 S0 fp0 hI hS
  have H : Cx w0 fp0 S0 w0 [Es (List (Int × List (List Int))) s1_ s1_h, Es (List (Int × List (List Int))) s2_ s2_h] := Cx.start hI hS
  clear hI hS
  refine enterC (args := [_, _, _]) gok Tryd.func72 rfl _ rfl rfl rfl ?_
  refine sq ?_
  refine lenE (H.rs (α := List (Int × List (List Int))) 0 rfl).len ?_
  refine lenE (H.rs (α := List (Int × List (List Int))) 1 rfl).len ?_
  obtain ⟨a3, e, hF4⟩ := bindS hF; clear hF
  refine boolO e ?_; clear e
  cases a3
  · have hF5 := condF hF4; clear hF4
    refine sq ?_
    refine lenE (H.rs (α := List (Int × List (List Int))) 0 rfl).len ?_
    have hmx50 := (H.rs (α := List (Int × List (List Int))) 0 rfl).max
    obtain ⟨r51, e, hF52⟩ := bindS hF5; clear hF5
    refine loopO _ s1_.length (fun (k6 : Nat) (_ : Unit) (_ : Unit) => [(1, (s2_h).v), (2, (.func (.func 74) #[] #[])), (15, (s1_h).v), (16, (.int .i64 ((s1_.length : Nat) : Int))), (17, (.int .i64 ((k6 : Nat) : Int)))]) (fun _ (_ : Unit) (_ : Unit) w' => Cx w0 fp0 S0 w' [Es (List (Int × List (List Int))) s2_ s2_h, Es (List (Int × List (List Int))) s1_ s1_h]) () () e ⟨rfl, rfl, rfl, rfl, rfl, trivial⟩ (H.sel [1, 0] rfl) ?_ ?_
    · clear H e
      rintro T54 k6 _ _ w53 o55 hk (H : Cx w0 fp0 S0 w53 [Es (List (Int × List (List Int))) s2_ s2_h, Es (List (Int × List (List Int))) s1_ s1_h]) hrt hF56
      refine boolE (z := true) (ltLen hk) ?_
      refine sq ?_
      refine sq ?_
      obtain ⟨a63, e, hF64⟩ := bindS hF56; clear hF56
      have HH := H; clear H; obtain ⟨p61, m62, g65, c57, c58, c59, c60, H⟩ := HH.el (α := Int × List (List Int)) 1 rfl e; clear HH
      clear e
      obtain ⟨a63_0, a63_1⟩ := a63
      obtain ⟨_, h67⟩ := g65
      replace H := H.part (β := List (List Int)) a63_1 (h67 : Hd) 0 rfl (fun S h => (And.right h))
      replace H := H.sel [0, 2, 3] rfl
      refine idxE c57 c58 c59 ?_; clear c57 c58 c59
      refine loadN [(.int .i64 a63_0), (h67).v] rfl c60 ?_; clear c60
      refine alloc_ gok rfl H ?_; clear H; intro b70 w69 hx H
      clear hx
      replace H : Cx w0 fp0 S0 w69 [Bx b70 [(.int .i64 0), (.slice none 0 0)], Es (List (List Int)) a63_1 h67, Es (List (Int × List (List Int))) s2_ s2_h, Es (List (Int × List (List Int))) s1_ s1_h] := H
      refine stA gok [(.int .i64 a63_0), (h67).v] rfl H rfl rfl rfl ?_; clear H; intro w72 H
      replace H : Cx w0 fp0 S0 w72 [Bx b70 [(.int .i64 a63_0), (h67).v], Es (List (List Int)) a63_1 h67, Es (List (Int × List (List Int))) s2_ s2_h, Es (List (Int × List (List Int))) s1_ s1_h] := H
      obtain ⟨a79, e, hF80⟩ := bindS hF64; clear hF64
      have HH := H; clear H; obtain ⟨p77, m78, g81, c73, c74, c75, c76, H⟩ := HH.el (α := Int × List (List Int)) 2 rfl e; clear HH
      clear e
      obtain ⟨a79_0, a79_1⟩ := a79
      obtain ⟨_, h83⟩ := g81
      replace H := H.part (β := List (List Int)) a79_1 (h83 : Hd) 0 rfl (fun S h => (And.right h))
      replace H := H.sel [0, 2, 3, 4, 5] rfl
      refine idxE c73 c74 c75 ?_; clear c73 c74 c75
      refine loadN [(.int .i64 a79_0), (h83).v] rfl c76 ?_; clear c76
      refine alloc_ gok rfl H ?_; clear H; intro b86 w85 hx H
      clear hx
      replace H : Cx w0 fp0 S0 w85 [Bx b86 [(.int .i64 0), (.slice none 0 0)], Es (List (List Int)) a79_1 h83, Bx b70 [(.int .i64 a63_0), (h67).v], Es (List (List Int)) a63_1 h67, Es (List (Int × List (List Int))) s2_ s2_h, Es (List (Int × List (List Int))) s1_ s1_h] := H
      refine stA gok [(.int .i64 a79_0), (h83).v] rfl H rfl rfl rfl ?_; clear H; intro w88 H
      replace H : Cx w0 fp0 S0 w88 [Bx b86 [(.int .i64 a79_0), (h83).v], Es (List (List Int)) a79_1 h83, Bx b70 [(.int .i64 a63_0), (h67).v], Es (List (List Int)) a63_1 h67, Es (List (Int × List (List Int))) s2_ s2_h, Es (List (Int × List (List Int))) s1_ s1_h] := H
      refine loadN [(.int .i64 a63_0), (h67).v] rfl (fun j u hj => H.bx 2 rfl hj) ?_
      refine loadN [(.int .i64 a79_0), (h83).v] rfl (fun j u hj => H.bx 0 rfl hj) ?_
      obtain ⟨y89, e, hF90⟩ := bindS hF80; clear hF80
      have ey89 := e; clear e
      refine callF (impl_equalMatrices_c a63_0 a63_1 h67 a79_0 a79_1 h83 y89 ey89) (Γi := []) H ⟨Vw.sh 3 rfl, Vw.sh 1 rfl, trivial⟩ ?_; clear H ey89
      rintro _ _ w91 ⟨rfl, rfl⟩ (H : Cx w0 fp0 S0 w91 [Bx b86 [(.int .i64 a79_0), (h83).v], Es (List (List Int)) a79_1 h83, Bx b70 [(.int .i64 a63_0), (h67).v], Es (List (List Int)) a63_1 h67, Es (List (Int × List (List Int))) s2_ s2_h, Es (List (Int × List (List Int))) s1_ s1_h])
      obtain ⟨a92, e, hF93⟩ := bindS hF90; clear hF90
      refine boolO e ?_; clear e
      cases a92
      · have hF94 := condF hF93; clear hF93
        refine arK hk hmx50 ?_
        have hs := Option.some.inj hF94; subst hs; clear hF94
        exact ⟨(), (), rfl, ⟨rfl, rfl, rfl, rfl, rfl, trivial⟩, H.sel [4, 5] rfl⟩
      · have hF95 := condT hF93; clear hF93
        have hs := Option.some.inj hF95; subst hs; clear hF95
        have hr := hrt _ rfl; subst hr
        have hF96 : some _ = some _ := hF52
        cases hF96
        exact ⟨_, _, rfl, ⟨rfl, rfl⟩, (H.sel [] rfl).close trivial⟩
    · clear H e
      rintro T98 _ _ w97 hr (H : Cx w0 fp0 S0 w97 [Es (List (Int × List (List Int))) s2_ s2_h, Es (List (Int × List (List Int))) s1_ s1_h])
      subst hr
      refine boolE (z := false) geLen ?_
      refine sq ?_
      cases hF52
      exact ⟨_, _, rfl, ⟨rfl, rfl⟩, (H.sel [] rfl).close trivial⟩
  · have hF101 := condT hF4; clear hF4
    cases hF101
    exact ⟨_, _, rfl, ⟨rfl, rfl⟩, (H.sel [] rfl).close trivial⟩

theorem impl_IsRealization_c (p_ : Int) (s__0 : Int) (s__1 : Int) (s__2 : Int) (s__3 : List (List Int)) (s__3h : Hd) (s__4 : List (List Int)) (s__4h : Hd) (s__5 : List (List Int)) (s__5h : Hd) (s__6 : List (List Int)) (s__6h : Hd) (m_ : List (Int × List (List Int))) (m_h : Hd) (y0 : Bool) (y1 : Bool) (hF : F_impl_IsRealization p_ (s__0, s__1, s__2, s__3, s__4, s__5, s__6) m_ = some (y0, y1)) :
    ConF Tryd.prog 20 #[(.int .i64 p_), (.agg #[(.int .i64 s__0), (.int .i64 s__1), (.int .i64 s__2), (s__3h).v, (s__4h).v, (s__5h).v, (s__6h).v]), (m_h).v] [Es (List (List Int)) s__3 s__3h, Es (List (List Int)) s__4 s__4h, Es (List (List Int)) s__5 s__5h, Es (List (List Int)) s__6 s__6h, Es (List (Int × List (List Int))) m_ m_h, Gl 0 [.int .i64 2, .int .i64 3, .int .i64 5, .int .i64 7]] [] (fun v Γ' => v = (.tuple #[(.bool y0), (.bool y1)]) ∧ Γ' = []) := by
  intro w0 S0 fp0 hI hS
  have H : Cx w0 fp0 S0 w0 [Es (List (List Int)) s__3 s__3h, Es (List (List Int)) s__4 s__4h, Es (List (List Int)) s__5 s__5h, Es (List (List Int)) s__6 s__6h, Es (List (Int × List (List Int))) m_ m_h, Gl 0 [.int .i64 2, .int .i64 3, .int .i64 5, .int .i64 7]] := Cx.start hI hS
  clear hI hS
  refine enterC (args := [_, _, _]) gok Tryd.func20 rfl _ rfl rfl rfl ?_
  refine box_ H ?_; clear H; intro b8 w7 hx H
  clear hx
  replace H : Cx w0 fp0 S0 w7 [Bx b8 [(.int .i64 s__0), (.int .i64 s__1), (.int .i64 s__2), (s__3h).v, (s__4h).v, (s__5h).v, (s__6h).v], Es (List (List Int)) s__3 s__3h, Es (List (List Int)) s__4 s__4h, Es (List (List Int)) s__5 s__5h, Es (List (List Int)) s__6 s__6h, Es (List (Int × List (List Int))) m_ m_h, Gl 0 [.int .i64 2, .int .i64 3, .int .i64 5, .int .i64 7]] := H
  refine sq ?_
  obtain ⟨r57, hF59, hF58⟩ := bindS hF; clear hF
  refine cut (fun (q60 : Bool) => [(0, (.int .i64 p_)), (2, (m_h).v), (4, (.pointer (some ⟨b8, 0, none⟩))), (36, (.bool q60))]) (fun (q60 : Bool) w' => q60 = r57 ∧ Cx w0 fp0 S0 w' [Es (List (Int × List (List Int))) m_ m_h, Bx b8 [(.int .i64 s__0), (.int .i64 s__1), (.int .i64 s__2), (s__3h).v, (s__4h).v, (s__5h).v, (s__6h).v], Es (List (List Int)) s__3 s__3h, Es (List (List Int)) s__4 s__4h, Es (List (List Int)) s__5 s__5h, Es (List (List Int)) s__6 s__6h, Gl 0 [.int .i64 2, .int .i64 3, .int .i64 5, .int .i64 7]]) ?_ ?_
  · skip
    refine heldX H [] (.fst 0 (.fst 1 (.act 2 (.fst 3 (.fst 4 (.fst 5 (.fst 6 (.act 7 (.fst 8 (.fst 9 (.fst 10 (.fst 11 (.fst 12 (.fst 13 (.fst 16 (.fst 14 (.fst 15 (.fst 17 (.fst 18 (.fst 19 (.fst 20 (.fst 21 (.fst 22 (.fst 23 (.fst 25 (.fst 24 (.fst 26 (.fst 27 (.fst 28 .done))))))))))))))))))))))))))))) mixed [] trivial (by kernel_rfl) ?_
    clear H; intro w61 H
    have hX : Ext w61 w61 := Upd.refl _ _
    have H0 := H
    refine loadNX [(.int .i64 s__0), (.int .i64 s__1), (.int .i64 s__2), (s__3h).v, (s__4h).v, (s__5h).v, (s__6h).v] rfl (fun j u hj => H.bx 0 rfl hj) ?_
    obtain ⟨y62, e, hF63⟩ := bindS hF59; clear hF59
    have ey62 := e; clear e
    refine callFx (impl_isStateSpace_c p_ s__0 s__1 s__2 s__3 s__3h s__4 s__4h s__5 s__5h s__6 s__6h y62 ey62) H ⟨Vw.sh 1 rfl, Vw.sh 2 rfl, Vw.sh 3 rfl, Vw.sh 4 rfl, Vw.gl 6 rfl, trivial⟩ ?_; clear H ey62
    rintro _ _ w64 ⟨rfl, rfl⟩ hx (H : Cx w0 fp0 S0 w64 [Bx b8 [(.int .i64 s__0), (.int .i64 s__1), (.int .i64 s__2), (s__3h).v, (s__4h).v, (s__5h).v, (s__6h).v], Es (List (List Int)) s__3 s__3h, Es (List (List Int)) s__4 s__4h, Es (List (List Int)) s__5 s__5h, Es (List (List Int)) s__6 s__6h, Es (List (Int × List (List Int))) m_ m_h, Gl 0 [.int .i64 2, .int .i64 3, .int .i64 5, .int .i64 7]])
    replace hX := hX.trans0 hx; clear hx
    refine hold hX ?_
    obtain ⟨a65, e, hF66⟩ := bindS hF63; clear hF63
    refine boolO e ?_; clear e
    cases a65
    · have hF67 := condF hF66; clear hF66
      obtain ⟨y68, e, hF69⟩ := bindS hF67; clear hF67
      have ey68 := e; clear e
      refine callFx (impl_isResponse_c p_ m_ m_h y68 ey68) H ⟨Vw.sh 5 rfl, Vw.gl 6 rfl, trivial⟩ ?_; clear H ey68
      rintro _ _ w70 ⟨rfl, rfl⟩ hx (H : Cx w0 fp0 S0 w70 [Bx b8 [(.int .i64 s__0), (.int .i64 s__1), (.int .i64 s__2), (s__3h).v, (s__4h).v, (s__5h).v, (s__6h).v], Es (List (List Int)) s__3 s__3h, Es (List (List Int)) s__4 s__4h, Es (List (List Int)) s__5 s__5h, Es (List (List Int)) s__6 s__6h, Es (List (Int × List (List Int))) m_ m_h, Gl 0 [.int .i64 2, .int .i64 3, .int .i64 5, .int .i64 7]])
      replace hX := hX.trans0 hx; clear hx
      refine hold hX ?_
      obtain ⟨a71, e, hF72⟩ := bindS hF69; clear hF69
      refine boolO e ?_; clear e
      cases a71
      · have hF73 := condF hF72; clear hF72
        obtain ⟨a80, e, hF81⟩ := bindS hF73; clear hF73
        have HH := H; clear H; obtain ⟨p78, m79, g82, c74, c75, c76, c77, H⟩ := HH.el (α := Int × List (List Int)) 5 rfl e; clear HH
        replace c77 := lateN hX (H0.rs (α := List (Int × List (List Int))) 5 rfl) rfl e c74 c77; clear e
        obtain ⟨a80_0, a80_1⟩ := a80
        obtain ⟨_, h84⟩ := g82
        replace H := H.part (β := List (List Int)) a80_1 (h84 : Hd) 0 rfl (fun S h => (And.right h))
        replace H := H.sel [0, 2, 3, 4, 5, 6, 7, 8] rfl
        refine idxE c74 c75 c76 ?_; clear c74 c75 c76
        refine anyH (fun _ => fld gok rfl rfl rfl rfl ⟨rfl, rfl⟩) ?_
        refine anyH (fun _ => fld gok rfl rfl rfl rfl ⟨rfl, rfl⟩) ?_
        refine load1X (c77 1 _ rfl) ?_
        refine lenE (H.rs (α := List (List Int)) 0 rfl).len ?_
        refine load1X (H0.bx 0 rfl (j := 1) rfl) ?_
        obtain ⟨a86, e, hF87⟩ := bindS hF81; clear hF81
        refine boolO e ?_; clear e
        cases a86
        · have hF88 := condF hF87; clear hF87
          obtain ⟨a95, e, hF96⟩ := bindS hF88; clear hF88
          have HH := H; clear H; obtain ⟨p93, m94, g97, c89, c90, c91, c92, H⟩ := HH.el (α := Int × List (List Int)) 6 rfl e; clear HH
          replace c92 := lateN hX (H0.rs (α := List (Int × List (List Int))) 5 rfl) rfl e c89 c92; clear e
          obtain ⟨a95_0, a95_1⟩ := a95
          obtain ⟨_, h99⟩ := g97
          replace H := H.part (β := List (List Int)) a95_1 (h99 : Hd) 0 rfl (fun S h => (And.right h))
          replace H := H.sel [0, 2, 3, 4, 5, 6, 7, 8, 9] rfl
          refine idxE c89 c90 c91 ?_; clear c89 c90 c91
          refine anyH (fun _ => fld gok rfl rfl rfl rfl ⟨rfl, rfl⟩) ?_
          refine anyH (fun _ => fld gok rfl rfl rfl rfl ⟨rfl, rfl⟩) ?_
          refine load1X (c92 0 _ rfl) ?_
          refine load1X (H0.bx 0 rfl (j := 2) rfl) ?_
          obtain ⟨a101, e, hF102⟩ := bindS hF96; clear hF96
          refine boolO e ?_; clear e
          exact ⟨a101, ⟨rfl, rfl, rfl, rfl, trivial⟩, Option.some.inj hF102, H.sel [7, 2, 3, 4, 5, 6, 8] rfl⟩
        · have hF103 := condT hF87; clear hF87
          exact ⟨true, ⟨rfl, rfl, rfl, rfl, trivial⟩, Option.some.inj hF103, H.sel [6, 1, 2, 3, 4, 5, 7] rfl⟩
      · have hF104 := condT hF72; clear hF72
        exact ⟨true, ⟨rfl, rfl, rfl, rfl, trivial⟩, Option.some.inj hF104, H.sel [5, 0, 1, 2, 3, 4, 6] rfl⟩
    · have hF105 := condT hF66; clear hF66
      exact ⟨true, ⟨rfl, rfl, rfl, rfl, trivial⟩, Option.some.inj hF105, H.sel [5, 0, 1, 2, 3, 4, 6] rfl⟩
  · clear hF59 H
    rintro T107 s55 w106 ⟨hr, (H : Cx w0 fp0 S0 w106 [Es (List (Int × List (List Int))) m_ m_h, Bx b8 [(.int .i64 s__0), (.int .i64 s__1), (.int .i64 s__2), (s__3h).v, (s__4h).v, (s__5h).v, (s__6h).v], Es (List (List Int)) s__3 s__3h, Es (List (List Int)) s__4 s__4h, Es (List (List Int)) s__5 s__5h, Es (List (List Int)) s__6 s__6h, Gl 0 [.int .i64 2, .int .i64 3, .int .i64 5, .int .i64 7]])⟩
    subst hr
    cases s55
    · have hF108 := condF hF58; clear hF58
      refine loadN [(.int .i64 s__0), (.int .i64 s__1), (.int .i64 s__2), (s__3h).v, (s__4h).v, (s__5h).v, (s__6h).v] rfl (fun j u hj => H.bx 1 rfl hj) ?_
      refine lenE (H.rs (α := List (Int × List (List Int))) 0 rfl).len ?_
      obtain ⟨y109, e, hF110⟩ := bindS hF108; clear hF108
      have ey109 := e; clear e
      refine callF (impl_StateSpace_markov_c s__0 s__1 s__2 s__3 s__3h s__4 s__4h s__5 s__5h s__6 s__6h p_ ((m_.length : Nat) : Int) y109 ey109) (Γi := []) H ⟨Vw.sh 2 rfl, Vw.sh 3 rfl, Vw.sh 4 rfl, Vw.sh 5 rfl, trivial⟩ ?_; clear H ey109
      rintro _ _ w111 ⟨h112, rfl, rfl⟩ (H : Cx w0 fp0 S0 w111 [E (List (Int × List (List Int))) y109 h112, Es (List (Int × List (List Int))) m_ m_h, Bx b8 [(.int .i64 s__0), (.int .i64 s__1), (.int .i64 s__2), (s__3h).v, (s__4h).v, (s__5h).v, (s__6h).v], Es (List (List Int)) s__3 s__3h, Es (List (List Int)) s__4 s__4h, Es (List (List Int)) s__5 s__5h, Es (List (List Int)) s__6 s__6h, Gl 0 [.int .i64 2, .int .i64 3, .int .i64 5, .int .i64 7]])
      obtain ⟨y114, e, hF115⟩ := bindS hF110; clear hF110
      have ey114 := e; clear e
      refine callF (slices_EqualFunc_impl_Matrix_impl_Matrix_impl_Matrix_impl_Matrix_impl_equalMatrices_c y109 h112 m_ m_h y114 ey114) (Γi := []) H ⟨Vw.own 0 rfl, Vw.sh 1 rfl, trivial⟩ ?_; clear H ey114
      rintro _ _ w116 ⟨rfl, rfl⟩ (H : Cx w0 fp0 S0 w116 [E (List (Int × List (List Int))) y109 h112, Es (List (Int × List (List Int))) m_ m_h, Bx b8 [(.int .i64 s__0), (.int .i64 s__1), (.int .i64 s__2), (s__3h).v, (s__4h).v, (s__5h).v, (s__6h).v], Es (List (List Int)) s__3 s__3h, Es (List (List Int)) s__4 s__4h, Es (List (List Int)) s__5 s__5h, Es (List (List Int)) s__6 s__6h, Gl 0 [.int .i64 2, .int .i64 3, .int .i64 5, .int .i64 7]])
      cases hF115
      exact ⟨_, _, rfl, ⟨rfl, rfl⟩, (H.sel [] rfl).close trivial⟩
    · have hF117 := condT hF58; clear hF58
      cases hF117
      exact ⟨_, _, rfl, ⟨rfl, rfl⟩, (H.sel [] rfl).close trivial⟩

theorem laws_eqIntS_c (a_ : List Int) (a_h : Hd) (b_ : List Int) (b_h : Hd) (y : Bool) (hF : F_laws_eqIntS a_ b_ = some y) :
    ConF Tryd.prog 35 #[(a_h).v, (b_h).v] [Es (List Int) a_ a_h, Es (List Int) b_ b_h] [] (fun v Γ' => v = (.bool y) ∧ Γ' = []) := by
  intro w0 S0 fp0 hI hS
  have H : Cx w0 fp0 S0 w0 [Es (List Int) a_ a_h, Es (List Int) b_ b_h] := Cx.start hI hS
  clear hI hS
  refine enterC (args := [_, _]) gok Tryd.func35 rfl _ rfl rfl rfl ?_
  refine sq ?_
  refine lenE (H.rs (α := List Int) 0 rfl).len ?_
  refine lenE (H.rs (α := List Int) 1 rfl).len ?_
  obtain ⟨a3, e, hF4⟩ := bindS hF; clear hF
  refine boolO e ?_; clear e
  cases a3
  · have hF5 := condF hF4; clear hF4
    obtain ⟨r104, hF106, hF105⟩ := bindS hF5; clear hF5
    refine cut (fun (q107 : Unit) => []) (fun (q107 : Unit) w' => .inl () = r104 ∧ Cx w0 fp0 S0 w' []) ?_ ?_
    · skip
      refine loopW _ (fun (s166 : Int) (_ : Unit) => [(0, (a_h).v), (1, (b_h).v), (5, (.int .i64 s166))]) (fun (s166 : Int) (_ : Unit) w' => Cx w0 fp0 S0 w' [Es (List Int) a_ a_h, Es (List Int) b_ b_h]) 0 () hF106 ⟨rfl, rfl, rfl, trivial⟩ (H.sel [0, 1] rfl) ?_
      · clear H
        rintro T172 s166 _ w171 o173 (H : Cx w0 fp0 S0 w171 [Es (List Int) a_ a_h, Es (List Int) b_ b_h]) hrt hF174
        refine sq ?_
        refine lenE (H.rs (α := List Int) 0 rfl).len ?_
        obtain ⟨a175, e, hF176⟩ := bindS hF174; clear hF174
        refine boolO e ?_; clear e
        cases a175
        · have hF177 := condF hF176; clear hF176
          have hs := Option.some.inj hF177; subst hs; clear hF177
          have hF178 : some _ = some _ := congrArg some (hrt _ rfl).symm
          exact ⟨(), trivial, Option.some.inj hF178, H.sel [] rfl⟩
        · have hF179 := condT hF176; clear hF176
          refine sq ?_
          refine heldX H [] (.fst 0 (.fst 1 (.fst 2 (.fst 4 (.fst 5 (.fst 6 (.fst 3 (.fst 7 (.fst 8 .done))))))))) mixed [] trivial (by kernel_rfl) ?_
          clear H; intro w180 H
          have hX : Ext w180 w180 := Upd.refl _ _
          have H0 := H
          obtain ⟨a187, e, hF188⟩ := bindS hF179; clear hF179
          obtain ⟨p185, m186, c181, c182, c183, c184⟩ := (H.rs (α := List Int) 0 rfl).at1 e; clear e
          refine idxE c181 c182 c183 ?_; clear c181 c182 c183
          obtain ⟨a195, e, hF196⟩ := bindS hF188; clear hF188
          obtain ⟨p193, m194, c189, c190, c191, c192⟩ := (H.rs (α := List Int) 1 rfl).at1 e; clear e
          refine idxE c189 c190 c191 ?_; clear c189 c190 c191
          refine load1X c184 ?_; clear c184
          refine load1X c192 ?_; clear c192
          obtain ⟨a197, e, hF198⟩ := bindS hF196; clear hF196
          refine boolO e ?_; clear e
          cases a197
          · have hF199 := condF hF198; clear hF198
            obtain ⟨a200, e, hF201⟩ := bindS hF199; clear hF199
            refine arO e ?_; clear e
            have hs := Option.some.inj hF201; subst hs; clear hF201
            exact ⟨a200, (), rfl, ⟨rfl, rfl, rfl, trivial⟩, H.sel [0, 1] rfl⟩
          · have hF202 := condT hF198; clear hF198
            have hs := Option.some.inj hF202; subst hs; clear hF202
            have hF203 : some _ = some _ := congrArg some (hrt _ rfl).symm
            have hs := Option.some.inj hF203; subst hs; clear hF203
            have hF204 : some _ = some _ := hF105; clear hF105
            cases hF204
            exact ⟨_, _, rfl, ⟨rfl, rfl⟩, (H.sel [] rfl).close trivial⟩
    · clear hF106 H
      rintro T206 _ w205 ⟨hr, (H : Cx w0 fp0 S0 w205 [])⟩
      subst hr
      cases hF105
      exact ⟨_, _, rfl, ⟨rfl, rfl⟩, (H.sel [] rfl).close trivial⟩
  · have hF207 := condT hF4; clear hF4
    cases hF207
    exact ⟨_, _, rfl, ⟨rfl, rfl⟩, (H.sel [] rfl).close trivial⟩

theorem laws_eqIntSS_c (a_ : List (List Int)) (a_h : Hd) (b_ : List (List Int)) (b_h : Hd) (y : Bool) (hF : F_laws_eqIntSS a_ b_ = some y) :
    ConF Tryd.prog 75 #[(a_h).v, (b_h).v] [Es (List (List Int)) a_ a_h, Es (List (List Int)) b_ b_h] [] (fun v Γ' => v = (.bool y) ∧ Γ' = []) := by
  intro w0 S0 fp0 hI hS
  have H : Cx w0 fp0 S0 w0 [Es (List (List Int)) a_ a_h, Es (List (List Int)) b_ b_h] := Cx.start hI hS
  clear hI hS
  refine enterC (args := [_, _]) gok Tryd.func75 rfl _ rfl rfl rfl ?_
  refine sq ?_
  refine lenE (H.rs (α := List (List Int)) 0 rfl).len ?_
  refine lenE (H.rs (α := List (List Int)) 1 rfl).len ?_
  obtain ⟨a3, e, hF4⟩ := bindS hF; clear hF
  refine boolO e ?_; clear e
  cases a3
  · have hF5 := condF hF4; clear hF4
    obtain ⟨r125, hF127, hF126⟩ := bindS hF5; clear hF5
    refine cut (fun (q128 : Unit) => []) (fun (q128 : Unit) w' => .inl () = r125 ∧ Cx w0 fp0 S0 w' []) ?_ ?_
    · skip
      refine loopW _ (fun (s201 : Int) (_ : Unit) => [(0, (a_h).v), (1, (b_h).v), (5, (.int .i64 s201))]) (fun (s201 : Int) (_ : Unit) w' => Cx w0 fp0 S0 w' [Es (List (List Int)) a_ a_h, Es (List (List Int)) b_ b_h]) 0 () hF127 ⟨rfl, rfl, rfl, trivial⟩ (H.sel [0, 1] rfl) ?_
      · clear H
        rintro T207 s201 _ w206 o208 (H : Cx w0 fp0 S0 w206 [Es (List (List Int)) a_ a_h, Es (List (List Int)) b_ b_h]) hrt hF209
        refine sq ?_
        refine lenE (H.rs (α := List (List Int)) 0 rfl).len ?_
        obtain ⟨a210, e, hF211⟩ := bindS hF209; clear hF209
        refine boolO e ?_; clear e
        cases a210
        · have hF212 := condF hF211; clear hF211
          have hs := Option.some.inj hF212; subst hs; clear hF212
          have hF213 : some _ = some _ := congrArg some (hrt _ rfl).symm
          exact ⟨(), trivial, Option.some.inj hF213, H.sel [] rfl⟩
        · have hF214 := condT hF211; clear hF211
          refine sq ?_
          refine heldX H [] (.fst 0 (.fst 1 (.fst 2 (.fst 4 (.fst 5 (.fst 6 (.fst 3 (.fst 7 (.act 8 (.fst 9 .done)))))))))) mixed [] trivial (by kernel_rfl) ?_
          clear H; intro w215 H
          have hX : Ext w215 w215 := Upd.refl _ _
          have H0 := H
          obtain ⟨a222, e, hF223⟩ := bindS hF214; clear hF214
          have HH := H; clear H; obtain ⟨p220, m221, h224, c216, c217, c218, c219, H⟩ := HH.elL 0 rfl e; clear HH
          clear e
          refine idxE c216 c217 c218 ?_; clear c216 c217 c218
          obtain ⟨a232, e, hF233⟩ := bindS hF223; clear hF223
          have HH := H; clear H; obtain ⟨p230, m231, h234, c226, c227, c228, c229, H⟩ := HH.elL 2 rfl e; clear HH
          clear e
          refine idxE c226 c227 c228 ?_; clear c226 c227 c228
          refine load1X c219 ?_; clear c219
          refine load1X c229 ?_; clear c229
          obtain ⟨y236, e, hF237⟩ := bindS hF233; clear hF233
          have ey236 := e; clear e
          refine callFx (laws_eqIntS_c a222 h224 a232 h234 y236 ey236) H ⟨Vw.sh 1 rfl, Vw.sh 0 rfl, trivial⟩ ?_; clear H ey236
          rintro _ _ w238 ⟨rfl, rfl⟩ hx (H : Cx w0 fp0 S0 w238 [Es (List Int) a232 h234, Es (List Int) a222 h224, Es (List (List Int)) a_ a_h, Es (List (List Int)) b_ b_h])
          replace hX := hX.trans0 hx; clear hx
          refine hold hX ?_
          obtain ⟨a239, e, hF240⟩ := bindS hF237; clear hF237
          refine boolO e ?_; clear e
          cases a239
          · have hF241 := condF hF240; clear hF240
            obtain ⟨a242, e, hF243⟩ := bindS hF241; clear hF241
            refine arO e ?_; clear e
            have hs := Option.some.inj hF243; subst hs; clear hF243
            exact ⟨a242, (), rfl, ⟨rfl, rfl, rfl, trivial⟩, H.sel [2, 3] rfl⟩
          · have hF244 := condT hF240; clear hF240
            have hs := Option.some.inj hF244; subst hs; clear hF244
            have hF245 : some _ = some _ := congrArg some (hrt _ rfl).symm
            have hs := Option.some.inj hF245; subst hs; clear hF245
            have hF246 : some _ = some _ := hF126; clear hF126
            cases hF246
            exact ⟨_, _, rfl, ⟨rfl, rfl⟩, (H.sel [] rfl).close trivial⟩
    · clear hF127 H
      rintro T248 _ w247 ⟨hr, (H : Cx w0 fp0 S0 w247 [])⟩
      subst hr
      cases hF126
      exact ⟨_, _, rfl, ⟨rfl, rfl⟩, (H.sel [] rfl).close trivial⟩
  · have hF249 := condT hF4; clear hF4
    cases hF249
    exact ⟨_, _, rfl, ⟨rfl, rfl⟩, (H.sel [] rfl).close trivial⟩

theorem laws_eqStateSpace_c (a__0 : Int) (a__1 : Int) (a__2 : Int) (a__3 : List (List Int)) (a__3h : Hd) (a__4 : List (List Int)) (a__4h : Hd) (a__5 : List (List Int)) (a__5h : Hd) (a__6 : List (List Int)) (a__6h : Hd) (b__0 : Int) (b__1 : Int) (b__2 : Int) (b__3 : List (List Int)) (b__3h : Hd) (b__4 : List (List Int)) (b__4h : Hd) (b__5 : List (List Int)) (b__5h : Hd) (b__6 : List (List Int)) (b__6h : Hd) (y : Bool) (hF : F_laws_eqStateSpace (a__0, a__1, a__2, a__3, a__4, a__5, a__6) (b__0, b__1, b__2, b__3, b__4, b__5, b__6) = some y) :
    ConF Tryd.prog 21 #[(.agg #[(.int .i64 a__0), (.int .i64 a__1), (.int .i64 a__2), (a__3h).v, (a__4h).v, (a__5h).v, (a__6h).v]), (.agg #[(.int .i64 b__0), (.int .i64 b__1), (.int .i64 b__2), (b__3h).v, (b__4h).v, (b__5h).v, (b__6h).v])] [Es (List (List Int)) a__3 a__3h, Es (List (List Int)) a__4 a__4h, Es (List (List Int)) a__5 a__5h, Es (List (List Int)) a__6 a__6h, Es (List (List Int)) b__3 b__3h, Es (List (List Int)) b__4 b__4h, Es (List (List Int)) b__5 b__5h, Es (List (List Int)) b__6 b__6h] [] (fun v Γ' => v = (.bool y) ∧ Γ' = []) := by
  intro w0 S0 fp0 hI hS
  have H : Cx w0 fp0 S0 w0 [Es (List (List Int)) a__3 a__3h, Es (List (List Int)) a__4 a__4h, Es (List (List Int)) a__5 a__5h, Es (List (List Int)) a__6 a__6h, Es (List (List Int)) b__3 b__3h, Es (List (List Int)) b__4 b__4h, Es (List (List Int)) b__5 b__5h, Es (List (List Int)) b__6 b__6h] := Cx.start hI hS
  clear hI hS
  refine enterC (args := [_, _]) gok Tryd.func21 rfl _ rfl rfl rfl ?_
  refine box_ H ?_; clear H; intro b10 w9 hx H
  clear hx
  replace H : Cx w0 fp0 S0 w9 [Bx b10 [(.int .i64 a__0), (.int .i64 a__1), (.int .i64 a__2), (a__3h).v, (a__4h).v, (a__5h).v, (a__6h).v], Es (List (List Int)) a__3 a__3h, Es (List (List Int)) a__4 a__4h, Es (List (List Int)) a__5 a__5h, Es (List (List Int)) a__6 a__6h, Es (List (List Int)) b__3 b__3h, Es (List (List Int)) b__4 b__4h, Es (List (List Int)) b__5 b__5h, Es (List (List Int)) b__6 b__6h] := H
  refine box_ H ?_; clear H; intro b13 w12 hx H
  clear hx
  replace H : Cx w0 fp0 S0 w12 [Bx b13 [(.int .i64 b__0), (.int .i64 b__1), (.int .i64 b__2), (b__3h).v, (b__4h).v, (b__5h).v, (b__6h).v], Bx b10 [(.int .i64 a__0), (.int .i64 a__1), (.int .i64 a__2), (a__3h).v, (a__4h).v, (a__5h).v, (a__6h).v], Es (List (List Int)) a__3 a__3h, Es (List (List Int)) a__4 a__4h, Es (List (List Int)) a__5 a__5h, Es (List (List Int)) a__6 a__6h, Es (List (List Int)) b__3 b__3h, Es (List (List Int)) b__4 b__4h, Es (List (List Int)) b__5 b__5h, Es (List (List Int)) b__6 b__6h] := H
  refine sq ?_
  refine fld gok rfl rfl rfl rfl ?_
  refine load1 (H.bx 1 rfl (j := 0) rfl) ?_
  refine fld gok rfl rfl rfl rfl ?_
  refine load1 (H.bx 0 rfl (j := 0) rfl) ?_
  obtain ⟨a15, e, hF16⟩ := bindS hF; clear hF
  refine boolO e ?_; clear e
  cases a15
  · have hF17 := condF hF16; clear hF16
    refine sq ?_
    refine fld gok rfl rfl rfl rfl ?_
    refine load1 (H.bx 1 rfl (j := 1) rfl) ?_
    refine fld gok rfl rfl rfl rfl ?_
    refine load1 (H.bx 0 rfl (j := 1) rfl) ?_
    obtain ⟨a18, e, hF19⟩ := bindS hF17; clear hF17
    refine boolO e ?_; clear e
    cases a18
    · have hF20 := condF hF19; clear hF19
      refine sq ?_
      refine fld gok rfl rfl rfl rfl ?_
      refine load1 (H.bx 1 rfl (j := 2) rfl) ?_
      refine fld gok rfl rfl rfl rfl ?_
      refine load1 (H.bx 0 rfl (j := 2) rfl) ?_
      obtain ⟨a21, e, hF22⟩ := bindS hF20; clear hF20
      refine boolO e ?_; clear e
      cases a21
      · have hF23 := condF hF22; clear hF22
        refine sq ?_
        refine fld gok rfl rfl rfl rfl ?_
        refine load1 (H.bx 1 rfl (j := 3) rfl) ?_
        refine fld gok rfl rfl rfl rfl ?_
        refine load1 (H.bx 0 rfl (j := 3) rfl) ?_
        obtain ⟨y24, e, hF25⟩ := bindS hF23; clear hF23
        have ey24 := e; clear e
        refine callF (laws_eqIntSS_c a__3 a__3h b__3 b__3h y24 ey24) (Γi := []) H ⟨Vw.sh 2 rfl, Vw.sh 6 rfl, trivial⟩ ?_; clear H ey24
        rintro _ _ w26 ⟨rfl, rfl⟩ (H : Cx w0 fp0 S0 w26 [Bx b13 [(.int .i64 b__0), (.int .i64 b__1), (.int .i64 b__2), (b__3h).v, (b__4h).v, (b__5h).v, (b__6h).v], Bx b10 [(.int .i64 a__0), (.int .i64 a__1), (.int .i64 a__2), (a__3h).v, (a__4h).v, (a__5h).v, (a__6h).v], Es (List (List Int)) a__3 a__3h, Es (List (List Int)) a__4 a__4h, Es (List (List Int)) a__5 a__5h, Es (List (List Int)) a__6 a__6h, Es (List (List Int)) b__3 b__3h, Es (List (List Int)) b__4 b__4h, Es (List (List Int)) b__5 b__5h, Es (List (List Int)) b__6 b__6h])
        obtain ⟨a27, e, hF28⟩ := bindS hF25; clear hF25
        refine boolO e ?_; clear e
        cases a27
        · have hF29 := condF hF28; clear hF28
          refine sq ?_
          refine fld gok rfl rfl rfl rfl ?_
          refine load1 (H.bx 1 rfl (j := 4) rfl) ?_
          refine fld gok rfl rfl rfl rfl ?_
          refine load1 (H.bx 0 rfl (j := 4) rfl) ?_
          obtain ⟨y30, e, hF31⟩ := bindS hF29; clear hF29
          have ey30 := e; clear e
          refine callF (laws_eqIntSS_c a__4 a__4h b__4 b__4h y30 ey30) (Γi := []) H ⟨Vw.sh 3 rfl, Vw.sh 7 rfl, trivial⟩ ?_; clear H ey30
          rintro _ _ w32 ⟨rfl, rfl⟩ (H : Cx w0 fp0 S0 w32 [Bx b13 [(.int .i64 b__0), (.int .i64 b__1), (.int .i64 b__2), (b__3h).v, (b__4h).v, (b__5h).v, (b__6h).v], Bx b10 [(.int .i64 a__0), (.int .i64 a__1), (.int .i64 a__2), (a__3h).v, (a__4h).v, (a__5h).v, (a__6h).v], Es (List (List Int)) a__3 a__3h, Es (List (List Int)) a__4 a__4h, Es (List (List Int)) a__5 a__5h, Es (List (List Int)) a__6 a__6h, Es (List (List Int)) b__3 b__3h, Es (List (List Int)) b__4 b__4h, Es (List (List Int)) b__5 b__5h, Es (List (List Int)) b__6 b__6h])
          obtain ⟨a33, e, hF34⟩ := bindS hF31; clear hF31
          refine boolO e ?_; clear e
          cases a33
          · have hF35 := condF hF34; clear hF34
            refine sq ?_
            refine fld gok rfl rfl rfl rfl ?_
            refine load1 (H.bx 1 rfl (j := 5) rfl) ?_
            refine fld gok rfl rfl rfl rfl ?_
            refine load1 (H.bx 0 rfl (j := 5) rfl) ?_
            obtain ⟨y36, e, hF37⟩ := bindS hF35; clear hF35
            have ey36 := e; clear e
            refine callF (laws_eqIntSS_c a__5 a__5h b__5 b__5h y36 ey36) (Γi := []) H ⟨Vw.sh 4 rfl, Vw.sh 8 rfl, trivial⟩ ?_; clear H ey36
            rintro _ _ w38 ⟨rfl, rfl⟩ (H : Cx w0 fp0 S0 w38 [Bx b13 [(.int .i64 b__0), (.int .i64 b__1), (.int .i64 b__2), (b__3h).v, (b__4h).v, (b__5h).v, (b__6h).v], Bx b10 [(.int .i64 a__0), (.int .i64 a__1), (.int .i64 a__2), (a__3h).v, (a__4h).v, (a__5h).v, (a__6h).v], Es (List (List Int)) a__3 a__3h, Es (List (List Int)) a__4 a__4h, Es (List (List Int)) a__5 a__5h, Es (List (List Int)) a__6 a__6h, Es (List (List Int)) b__3 b__3h, Es (List (List Int)) b__4 b__4h, Es (List (List Int)) b__5 b__5h, Es (List (List Int)) b__6 b__6h])
            obtain ⟨a39, e, hF40⟩ := bindS hF37; clear hF37
            refine boolO e ?_; clear e
            cases a39
            · have hF41 := condF hF40; clear hF40
              refine sq ?_
              refine fld gok rfl rfl rfl rfl ?_
              refine load1 (H.bx 1 rfl (j := 6) rfl) ?_
              refine fld gok rfl rfl rfl rfl ?_
              refine load1 (H.bx 0 rfl (j := 6) rfl) ?_
              obtain ⟨y42, e, hF43⟩ := bindS hF41; clear hF41
              have ey42 := e; clear e
              refine callF (laws_eqIntSS_c a__6 a__6h b__6 b__6h y42 ey42) (Γi := []) H ⟨Vw.sh 5 rfl, Vw.sh 9 rfl, trivial⟩ ?_; clear H ey42
              rintro _ _ w44 ⟨rfl, rfl⟩ (H : Cx w0 fp0 S0 w44 [Bx b13 [(.int .i64 b__0), (.int .i64 b__1), (.int .i64 b__2), (b__3h).v, (b__4h).v, (b__5h).v, (b__6h).v], Bx b10 [(.int .i64 a__0), (.int .i64 a__1), (.int .i64 a__2), (a__3h).v, (a__4h).v, (a__5h).v, (a__6h).v], Es (List (List Int)) a__3 a__3h, Es (List (List Int)) a__4 a__4h, Es (List (List Int)) a__5 a__5h, Es (List (List Int)) a__6 a__6h, Es (List (List Int)) b__3 b__3h, Es (List (List Int)) b__4 b__4h, Es (List (List Int)) b__5 b__5h, Es (List (List Int)) b__6 b__6h])
              obtain ⟨a45, e, hF46⟩ := bindS hF43; clear hF43
              refine boolO e ?_; clear e
              cases a45
              · have hF47 := condF hF46; clear hF46
                cases hF47
                exact ⟨_, _, rfl, ⟨rfl, rfl⟩, (H.sel [] rfl).close trivial⟩
              · have hF48 := condT hF46; clear hF46
                cases hF48
                exact ⟨_, _, rfl, ⟨rfl, rfl⟩, (H.sel [] rfl).close trivial⟩
            · have hF49 := condT hF40; clear hF40
              cases hF49
              exact ⟨_, _, rfl, ⟨rfl, rfl⟩, (H.sel [] rfl).close trivial⟩
          · have hF50 := condT hF34; clear hF34
            cases hF50
            exact ⟨_, _, rfl, ⟨rfl, rfl⟩, (H.sel [] rfl).close trivial⟩
        · have hF51 := condT hF28; clear hF28
          cases hF51
          exact ⟨_, _, rfl, ⟨rfl, rfl⟩, (H.sel [] rfl).close trivial⟩
      · have hF52 := condT hF22; clear hF22
        cases hF52
        exact ⟨_, _, rfl, ⟨rfl, rfl⟩, (H.sel [] rfl).close trivial⟩
    · have hF53 := condT hF19; clear hF19
      cases hF53
      exact ⟨_, _, rfl, ⟨rfl, rfl⟩, (H.sel [] rfl).close trivial⟩
  · have hF54 := condT hF16; clear hF16
    cases hF54
    exact ⟨_, _, rfl, ⟨rfl, rfl⟩, (H.sel [] rfl).close trivial⟩

theorem laws_eqMatrix_c (a__0 : Int) (a__1 : List (List Int)) (a__1h : Hd) (b__0 : Int) (b__1 : List (List Int)) (b__1h : Hd) (y : Bool) (hF : F_laws_eqMatrix (a__0, a__1) (b__0, b__1) = some y) :
    ConF Tryd.prog 36 #[(.agg #[(.int .i64 a__0), (a__1h).v]), (.agg #[(.int .i64 b__0), (b__1h).v])] [Es (List (List Int)) a__1 a__1h, Es (List (List Int)) b__1 b__1h] [] (fun v Γ' => v = (.bool y) ∧ Γ' = []) := by
  intro w0 S0 fp0 hI hS
  have H : Cx w0 fp0 S0 w0 [Es (List (List Int)) a__1 a__1h, Es (List (List Int)) b__1 b__1h] := Cx.start hI hS
  clear hI hS
  refine enterC (args := [_, _]) gok Tryd.func36 rfl _ rfl rfl rfl ?_
  refine box_ H ?_; clear H; intro b4 w3 hx H
  clear hx
  replace H : Cx w0 fp0 S0 w3 [Bx b4 [(.int .i64 a__0), (a__1h).v], Es (List (List Int)) a__1 a__1h, Es (List (List Int)) b__1 b__1h] := H
  refine box_ H ?_; clear H; intro b7 w6 hx H
  clear hx
  replace H : Cx w0 fp0 S0 w6 [Bx b7 [(.int .i64 b__0), (b__1h).v], Bx b4 [(.int .i64 a__0), (a__1h).v], Es (List (List Int)) a__1 a__1h, Es (List (List Int)) b__1 b__1h] := H
  refine sq ?_
  refine fld gok rfl rfl rfl rfl ?_
  refine load1 (H.bx 1 rfl (j := 0) rfl) ?_
  refine fld gok rfl rfl rfl rfl ?_
  refine load1 (H.bx 0 rfl (j := 0) rfl) ?_
  obtain ⟨a9, e, hF10⟩ := bindS hF; clear hF
  refine boolO e ?_; clear e
  cases a9
  · have hF11 := condF hF10; clear hF10
    refine sq ?_
    refine fld gok rfl rfl rfl rfl ?_
    refine load1 (H.bx 1 rfl (j := 1) rfl) ?_
    refine fld gok rfl rfl rfl rfl ?_
    refine load1 (H.bx 0 rfl (j := 1) rfl) ?_
    obtain ⟨y12, e, hF13⟩ := bindS hF11; clear hF11
    have ey12 := e; clear e
    refine callF (laws_eqIntSS_c a__1 a__1h b__1 b__1h y12 ey12) (Γi := []) H ⟨Vw.sh 2 rfl, Vw.sh 3 rfl, trivial⟩ ?_; clear H ey12
    rintro _ _ w14 ⟨rfl, rfl⟩ (H : Cx w0 fp0 S0 w14 [Bx b7 [(.int .i64 b__0), (b__1h).v], Bx b4 [(.int .i64 a__0), (a__1h).v], Es (List (List Int)) a__1 a__1h, Es (List (List Int)) b__1 b__1h])
    obtain ⟨a15, e, hF16⟩ := bindS hF13; clear hF13
    refine boolO e ?_; clear e
    cases a15
    · have hF17 := condF hF16; clear hF16
      cases hF17
      exact ⟨_, _, rfl, ⟨rfl, rfl⟩, (H.sel [] rfl).close trivial⟩
    · have hF18 := condT hF16; clear hF16
      cases hF18
      exact ⟨_, _, rfl, ⟨rfl, rfl⟩, (H.sel [] rfl).close trivial⟩
  · have hF19 := condT hF10; clear hF10
    cases hF19
    exact ⟨_, _, rfl, ⟨rfl, rfl⟩, (H.sel [] rfl).close trivial⟩

theorem laws_eqMatrixS_c (a_ : List (Int × List (List Int))) (a_h : Hd) (b_ : List (Int × List (List Int))) (b_h : Hd) (y : Bool) (hF : F_laws_eqMatrixS a_ b_ = some y) :
    ConF Tryd.prog 22 #[(a_h).v, (b_h).v] [Es (List (Int × List (List Int))) a_ a_h, Es (List (Int × List (List Int))) b_ b_h] [] (fun v Γ' => v = (.bool y) ∧ Γ' = []) := by
  intro w0 S0 fp0 hI hS
  have H : Cx w0 fp0 S0 w0 [Es (List (Int × List (List Int))) a_ a_h, Es (List (Int × List (List Int))) b_ b_h] := Cx.start hI hS
  clear hI hS
  refine enterC (args := [_, _]) gok Tryd.func22 rfl _ rfl rfl rfl ?_
  refine sq ?_
  refine lenE (H.rs (α := List (Int × List (List Int))) 0 rfl).len ?_
  refine lenE (H.rs (α := List (Int × List (List Int))) 1 rfl).len ?_
  obtain ⟨a3, e, hF4⟩ := bindS hF; clear hF
  refine boolO e ?_; clear e
  cases a3
  · have hF5 := condF hF4; clear hF4
    obtain ⟨r137, hF139, hF138⟩ := bindS hF5; clear hF5
    refine cut (fun (q140 : Unit) => []) (fun (q140 : Unit) w' => .inl () = r137 ∧ Cx w0 fp0 S0 w' []) ?_ ?_
    · skip
      refine loopW _ (fun (s221 : Int) (_ : Unit) => [(0, (a_h).v), (1, (b_h).v), (5, (.int .i64 s221))]) (fun (s221 : Int) (_ : Unit) w' => Cx w0 fp0 S0 w' [Es (List (Int × List (List Int))) a_ a_h, Es (List (Int × List (List Int))) b_ b_h]) 0 () hF139 ⟨rfl, rfl, rfl, trivial⟩ (H.sel [0, 1] rfl) ?_
      · clear H
        rintro T227 s221 _ w226 o228 (H : Cx w0 fp0 S0 w226 [Es (List (Int × List (List Int))) a_ a_h, Es (List (Int × List (List Int))) b_ b_h]) hrt hF229
        refine sq ?_
        refine lenE (H.rs (α := List (Int × List (List Int))) 0 rfl).len ?_
        obtain ⟨a230, e, hF231⟩ := bindS hF229; clear hF229
        refine boolO e ?_; clear e
        cases a230
        · have hF232 := condF hF231; clear hF231
          have hs := Option.some.inj hF232; subst hs; clear hF232
          have hF233 : some _ = some _ := congrArg some (hrt _ rfl).symm
          exact ⟨(), trivial, Option.some.inj hF233, H.sel [] rfl⟩
        · have hF234 := condT hF231; clear hF231
          refine sq ?_
          refine heldX H [] (.fst 0 (.fst 1 (.fst 2 (.fst 4 (.fst 5 (.fst 6 (.fst 3 (.fst 7 (.act 8 (.fst 9 .done)))))))))) mixed [] trivial (by kernel_rfl) ?_
          clear H; intro w235 H
          have hX : Ext w235 w235 := Upd.refl _ _
          have H0 := H
          obtain ⟨a242, e, hF243⟩ := bindS hF234; clear hF234
          have HH := H; clear H; obtain ⟨p240, m241, g244, c236, c237, c238, c239, H⟩ := HH.el (α := Int × List (List Int)) 0 rfl e; clear HH
          clear e
          obtain ⟨a242_0, a242_1⟩ := a242
          obtain ⟨_, h246⟩ := g244
          replace H := H.part (β := List (List Int)) a242_1 (h246 : Hd) 0 rfl (fun S h => (And.right h))
          replace H := H.sel [0, 2, 3] rfl
          refine idxE c236 c237 c238 ?_; clear c236 c237 c238
          obtain ⟨a254, e, hF255⟩ := bindS hF243; clear hF243
          have HH := H; clear H; obtain ⟨p252, m253, g256, c248, c249, c250, c251, H⟩ := HH.el (α := Int × List (List Int)) 2 rfl e; clear HH
          clear e
          obtain ⟨a254_0, a254_1⟩ := a254
          obtain ⟨_, h258⟩ := g256
          replace H := H.part (β := List (List Int)) a254_1 (h258 : Hd) 0 rfl (fun S h => (And.right h))
          replace H := H.sel [0, 2, 3, 4] rfl
          refine idxE c248 c249 c250 ?_; clear c248 c249 c250
          refine loadNX [(.int .i64 a242_0), (h246).v] rfl c239 ?_; clear c239
          refine loadNX [(.int .i64 a254_0), (h258).v] rfl c251 ?_; clear c251
          obtain ⟨y260, e, hF261⟩ := bindS hF255; clear hF255
          have ey260 := e; clear e
          refine callFx (laws_eqMatrix_c a242_0 a242_1 h246 a254_0 a254_1 h258 y260 ey260) H ⟨Vw.sh 1 rfl, Vw.sh 0 rfl, trivial⟩ ?_; clear H ey260
          rintro _ _ w262 ⟨rfl, rfl⟩ hx (H : Cx w0 fp0 S0 w262 [Es (List (List Int)) a254_1 h258, Es (List (List Int)) a242_1 h246, Es (List (Int × List (List Int))) a_ a_h, Es (List (Int × List (List Int))) b_ b_h])
          replace hX := hX.trans0 hx; clear hx
          refine hold hX ?_
          obtain ⟨a263, e, hF264⟩ := bindS hF261; clear hF261
          refine boolO e ?_; clear e
          cases a263
          · have hF265 := condF hF264; clear hF264
            obtain ⟨a266, e, hF267⟩ := bindS hF265; clear hF265
            refine arO e ?_; clear e
            have hs := Option.some.inj hF267; subst hs; clear hF267
            exact ⟨a266, (), rfl, ⟨rfl, rfl, rfl, trivial⟩, H.sel [2, 3] rfl⟩
          · have hF268 := condT hF264; clear hF264
            have hs := Option.some.inj hF268; subst hs; clear hF268
            have hF269 : some _ = some _ := congrArg some (hrt _ rfl).symm
            have hs := Option.some.inj hF269; subst hs; clear hF269
            have hF270 : some _ = some _ := hF138; clear hF138
            cases hF270
            exact ⟨_, _, rfl, ⟨rfl, rfl⟩, (H.sel [] rfl).close trivial⟩
    · clear hF139 H
      rintro T272 _ w271 ⟨hr, (H : Cx w0 fp0 S0 w271 [])⟩
      subst hr
      cases hF138
      exact ⟨_, _, rfl, ⟨rfl, rfl⟩, (H.sel [] rfl).close trivial⟩
  · have hF273 := condT hF4; clear hF4
    cases hF273
    exact ⟨_, _, rfl, ⟨rfl, rfl⟩, (H.sel [] rfl).close trivial⟩
end Go.Proofs.YteikcdofblclhaaDoor
