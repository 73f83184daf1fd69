/-
  Contracts, printed by a program (wip/y/gen.py): each function of Go computes its partial function. Condition of each: its partial function yields a value.
-/
import Derived.Test.YteikcdofblclhaaDoorZEng
import Derived.Test.YteikcdofblclhaaDoorZFn
namespace Go.Proofs.YteikcdofblclhaaDoor
open Go Go.Proofs.YteikcdofblclhaaDoor.RW
set_option maxRecDepth 100000
set_option linter.unusedVariables false

theorem laws_szIntS_c (a_ : List Int) (a_h : Hd) (left_ : Int) (y : Int) (hF : F_laws_szIntS a_ left_ = some y) :
    ConF Tryd.prog 130 #[(a_h).v, (.int .i64 left_)] [Es (List Int) a_ a_h] [] (fun v Γ' => v = (.int .i64 y) ∧ Γ' = []) := by
  intro w0 S0 fp0 hI hS
  have H : Cx w0 fp0 S0 w0 [Es (List Int) a_ a_h] := Cx.start hI hS
  clear hI hS
  refine enterC (args := [_, _]) gok Tryd.func130 rfl _ rfl rfl rfl ?_
  refine lenE (H.rs (α := List Int) 0 rfl).len ?_
  obtain ⟨a2, e, hF3⟩ := bindS hF; clear hF
  refine arO e ?_; clear e
  refine sq ?_
  obtain ⟨a4, e, hF5⟩ := bindS hF3; clear hF3
  refine boolO e ?_; clear e
  cases a4
  · have hF6 := condF hF5; clear hF5
    cases hF6
    exact ⟨_, _, rfl, ⟨rfl, rfl⟩, (H.sel [] rfl).close trivial⟩
  · have hF7 := condT hF5; clear hF5
    cases hF7
    exact ⟨_, _, rfl, ⟨rfl, rfl⟩, (H.sel [] rfl).close trivial⟩

theorem laws_szIntSS_c (a_ : List (List Int)) (a_h : Hd) (left_ : Int) (y : Int) (hF : F_laws_szIntSS a_ left_ = some y) :
    ConF Tryd.prog 65 #[(a_h).v, (.int .i64 left_)] [Es (List (List Int)) a_ a_h] [] (fun v Γ' => v = (.int .i64 y) ∧ Γ' = []) := by
  intro w0 S0 fp0 hI hS
  have H : Cx w0 fp0 S0 w0 [Es (List (List Int)) a_ a_h] := Cx.start hI hS
  clear hI hS
  refine enterC (args := [_, _]) gok Tryd.func65 rfl _ rfl rfl rfl ?_
  refine lenE (H.rs (α := List (List Int)) 0 rfl).len ?_
  obtain ⟨a2, e, hF3⟩ := bindS hF; clear hF
  refine arO e ?_; clear e
  refine sq ?_
  obtain ⟨a4, e, hF5⟩ := bindS hF3; clear hF3
  refine boolO e ?_; clear e
  cases a4
  · have hF6 := condF hF5; clear hF5
    obtain ⟨r93, hF95, hF94⟩ := bindS hF6; clear hF6
    refine cut (fun (q96 : Int) => [(1, (.int .i64 q96))]) (fun (q96 : Int) w' => .inl q96 = r93 ∧ Cx w0 fp0 S0 w' []) ?_ ?_
    · skip
      refine loopW _ (fun (s147 : Int × Int) (_ : Unit) => [(0, (a_h).v), (1, (.int .i64 s147.1)), (5, (.int .i64 s147.2))]) (fun (s147 : Int × Int) (_ : Unit) w' => Cx w0 fp0 S0 w' [Es (List (List Int)) a_ a_h]) (a2, 0) () hF95 ⟨rfl, rfl, rfl, trivial⟩ (H.sel [0] rfl) ?_
      · clear H
        rintro T153 ⟨s147_0, s147_1⟩ _ w152 o154 (H : Cx w0 fp0 S0 w152 [Es (List (List Int)) a_ a_h]) hrt hF155
        refine sq ?_
        refine lenE (H.rs (α := List (List Int)) 0 rfl).len ?_
        obtain ⟨a156, e, hF157⟩ := bindS hF155; clear hF155
        refine boolO e ?_; clear e
        cases a156
        · have hF158 := condF hF157; clear hF157
          have hs := Option.some.inj hF158; subst hs; clear hF158
          have hF159 : some _ = some _ := congrArg some (hrt _ rfl).symm
          exact ⟨s147_0, ⟨rfl, trivial⟩, Option.some.inj hF159, H.sel [] rfl⟩
        · have hF160 := condT hF157; clear hF157
          refine sq ?_
          obtain ⟨a167, e, hF168⟩ := bindS hF160; clear hF160
          have HH := H; clear H; obtain ⟨p165, m166, h169, c161, c162, c163, c164, H⟩ := HH.elL 0 rfl e; clear HH
          clear e
          refine idxE c161 c162 c163 ?_; clear c161 c162 c163
          refine load1 c164 ?_; clear c164
          obtain ⟨y171, e, hF172⟩ := bindS hF168; clear hF168
          have ey171 := e; clear e
          refine callF (laws_szIntS_c a167 h169 s147_0 y171 ey171) (Γi := []) H ⟨Vw.sh 0 rfl, trivial⟩ ?_; clear H ey171
          rintro _ _ w173 ⟨rfl, rfl⟩ (H : Cx w0 fp0 S0 w173 [Es (List Int) a167 h169, Es (List (List Int)) a_ a_h])
          obtain ⟨a174, e, hF175⟩ := bindS hF172; clear hF172
          refine boolO e ?_; clear e
          cases a174
          · have hF176 := condF hF175; clear hF175
            obtain ⟨a177, e, hF178⟩ := bindS hF176; clear hF176
            refine arO e ?_; clear e
            have hs := Option.some.inj hF178; subst hs; clear hF178
            exact ⟨(y171, a177), (), rfl, ⟨rfl, rfl, rfl, trivial⟩, H.sel [1] rfl⟩
          · have hF179 := condT hF175; clear hF175
            have hs := Option.some.inj hF179; subst hs; clear hF179
            have hF180 : some _ = some _ := congrArg some (hrt _ rfl).symm
            have hs := Option.some.inj hF180; subst hs; clear hF180
            have hF181 : some _ = some _ := hF94; clear hF94
            cases hF181
            exact ⟨_, _, rfl, ⟨rfl, rfl⟩, (H.sel [] rfl).close trivial⟩
    · clear hF95 H
      rintro T183 s91 w182 ⟨hr, (H : Cx w0 fp0 S0 w182 [])⟩
      subst hr
      cases hF94
      exact ⟨_, _, rfl, ⟨rfl, rfl⟩, (H.sel [] rfl).close trivial⟩
  · have hF184 := condT hF5; clear hF5
    cases hF184
    exact ⟨_, _, rfl, ⟨rfl, rfl⟩, (H.sel [] rfl).close trivial⟩

theorem laws_szStateSpace_c (a__0 : Int) (a__1 : Int) (a__2 : Int) (a__3 : List (List Int)) (a__3h : Hd) (a__4 : List (List Int)) (a__4h : Hd) (a__5 : List (List Int)) (a__5h : Hd) (a__6 : List (List Int)) (a__6h : Hd) (left_ : Int) (y : Int) (hF : F_laws_szStateSpace (a__0, a__1, a__2, a__3, a__4, a__5, a__6) left_ = some y) :
    ConF Tryd.prog 15 #[(.agg #[(.int .i64 a__0), (.int .i64 a__1), (.int .i64 a__2), (a__3h).v, (a__4h).v, (a__5h).v, (a__6h).v]), (.int .i64 left_)] [Es (List (List Int)) a__3 a__3h, Es (List (List Int)) a__4 a__4h, Es (List (List Int)) a__5 a__5h, Es (List (List Int)) a__6 a__6h] [] (fun v Γ' => v = (.int .i64 y) ∧ Γ' = []) := by
  intro w0 S0 fp0 hI hS
  have H : Cx w0 fp0 S0 w0 [Es (List (List Int)) a__3 a__3h, Es (List (List Int)) a__4 a__4h, Es (List (List Int)) a__5 a__5h, Es (List (List Int)) a__6 a__6h] := Cx.start hI hS
  clear hI hS
  refine enterC (args := [_, _]) gok Tryd.func15 rfl _ rfl rfl rfl ?_
  refine box_ H ?_; clear H; intro b6 w5 hx H
  clear hx
  replace H : Cx w0 fp0 S0 w5 [Bx b6 [(.int .i64 a__0), (.int .i64 a__1), (.int .i64 a__2), (a__3h).v, (a__4h).v, (a__5h).v, (a__6h).v], Es (List (List Int)) a__3 a__3h, Es (List (List Int)) a__4 a__4h, Es (List (List Int)) a__5 a__5h, Es (List (List Int)) a__6 a__6h] := H
  refine fld gok rfl rfl rfl rfl ?_
  refine load1 (H.bx 0 rfl (j := 3) rfl) ?_
  obtain ⟨y8, e, hF9⟩ := bindS hF; clear hF
  have ey8 := e; clear e
  refine callF (laws_szIntSS_c a__3 a__3h left_ y8 ey8) (Γi := []) H ⟨Vw.sh 1 rfl, trivial⟩ ?_; clear H ey8
  rintro _ _ w10 ⟨rfl, rfl⟩ (H : Cx w0 fp0 S0 w10 [Bx b6 [(.int .i64 a__0), (.int .i64 a__1), (.int .i64 a__2), (a__3h).v, (a__4h).v, (a__5h).v, (a__6h).v], Es (List (List Int)) a__3 a__3h, Es (List (List Int)) a__4 a__4h, Es (List (List Int)) a__5 a__5h, Es (List (List Int)) a__6 a__6h])
  refine sq ?_
  obtain ⟨a11, e, hF12⟩ := bindS hF9; clear hF9
  refine boolO e ?_; clear e
  cases a11
  · have hF13 := condF hF12; clear hF12
    refine fld gok rfl rfl rfl rfl ?_
    refine load1 (H.bx 0 rfl (j := 4) rfl) ?_
    obtain ⟨y14, e, hF15⟩ := bindS hF13; clear hF13
    have ey14 := e; clear e
    refine callF (laws_szIntSS_c a__4 a__4h y8 y14 ey14) (Γi := []) H ⟨Vw.sh 2 rfl, trivial⟩ ?_; clear H ey14
    rintro _ _ w16 ⟨rfl, rfl⟩ (H : Cx w0 fp0 S0 w16 [Bx b6 [(.int .i64 a__0), (.int .i64 a__1), (.int .i64 a__2), (a__3h).v, (a__4h).v, (a__5h).v, (a__6h).v], Es (List (List Int)) a__3 a__3h, Es (List (List Int)) a__4 a__4h, Es (List (List Int)) a__5 a__5h, Es (List (List Int)) a__6 a__6h])
    refine sq ?_
    obtain ⟨a17, e, hF18⟩ := bindS hF15; clear hF15
    refine boolO e ?_; clear e
    cases a17
    · have hF19 := condF hF18; clear hF18
      refine fld gok rfl rfl rfl rfl ?_
      refine load1 (H.bx 0 rfl (j := 5) rfl) ?_
      obtain ⟨y20, e, hF21⟩ := bindS hF19; clear hF19
      have ey20 := e; clear e
      refine callF (laws_szIntSS_c a__5 a__5h y14 y20 ey20) (Γi := []) H ⟨Vw.sh 3 rfl, trivial⟩ ?_; clear H ey20
      rintro _ _ w22 ⟨rfl, rfl⟩ (H : Cx w0 fp0 S0 w22 [Bx b6 [(.int .i64 a__0), (.int .i64 a__1), (.int .i64 a__2), (a__3h).v, (a__4h).v, (a__5h).v, (a__6h).v], Es (List (List Int)) a__3 a__3h, Es (List (List Int)) a__4 a__4h, Es (List (List Int)) a__5 a__5h, Es (List (List Int)) a__6 a__6h])
      refine sq ?_
      obtain ⟨a23, e, hF24⟩ := bindS hF21; clear hF21
      refine boolO e ?_; clear e
      cases a23
      · have hF25 := condF hF24; clear hF24
        refine fld gok rfl rfl rfl rfl ?_
        refine load1 (H.bx 0 rfl (j := 6) rfl) ?_
        obtain ⟨y26, e, hF27⟩ := bindS hF25; clear hF25
        have ey26 := e; clear e
        refine callF (laws_szIntSS_c a__6 a__6h y20 y26 ey26) (Γi := []) H ⟨Vw.sh 4 rfl, trivial⟩ ?_; clear H ey26
        rintro _ _ w28 ⟨rfl, rfl⟩ (H : Cx w0 fp0 S0 w28 [Bx b6 [(.int .i64 a__0), (.int .i64 a__1), (.int .i64 a__2), (a__3h).v, (a__4h).v, (a__5h).v, (a__6h).v], Es (List (List Int)) a__3 a__3h, Es (List (List Int)) a__4 a__4h, Es (List (List Int)) a__5 a__5h, Es (List (List Int)) a__6 a__6h])
        refine sq ?_
        obtain ⟨a29, e, hF30⟩ := bindS hF27; clear hF27
        refine boolO e ?_; clear e
        cases a29
        · have hF31 := condF hF30; clear hF30
          cases hF31
          exact ⟨_, _, rfl, ⟨rfl, rfl⟩, (H.sel [] rfl).close trivial⟩
        · have hF32 := condT hF30; clear hF30
          cases hF32
          exact ⟨_, _, rfl, ⟨rfl, rfl⟩, (H.sel [] rfl).close trivial⟩
      · have hF33 := condT hF24; clear hF24
        cases hF33
        exact ⟨_, _, rfl, ⟨rfl, rfl⟩, (H.sel [] rfl).close trivial⟩
    · have hF34 := condT hF18; clear hF18
      cases hF34
      exact ⟨_, _, rfl, ⟨rfl, rfl⟩, (H.sel [] rfl).close trivial⟩
  · have hF35 := condT hF12; clear hF12
    cases hF35
    exact ⟨_, _, rfl, ⟨rfl, rfl⟩, (H.sel [] rfl).close trivial⟩

theorem laws_toIntS_c (a_ : List Int) (a_h : Hd) (y : List Int) (hF : F_laws_toIntS a_ = some y) :
    ConF Tryd.prog 31 #[(a_h).v] [Es (List Int) a_ a_h] [] (fun v Γ' => ∃ z0 : Hd, v = (z0).v ∧ Γ' = [E (List Int) y z0]) := by
  intro w0 S0 fp0 hI hS
  have H : Cx w0 fp0 S0 w0 [Es (List Int) a_ a_h] := Cx.start hI hS
  clear hI hS
  refine enterC (args := [_]) gok Tryd.func31 rfl _ rfl rfl rfl ?_
  refine lenE (H.rs (α := List Int) 0 rfl).len ?_
  obtain ⟨a2, e, hF3⟩ := bindS hF; clear hF
  refine make_ (α := Int) gok rfl rfl rfl rfl (makeCO_of e) H ?_; clear e H; intro h5 w4 hx H
  clear hx
  obtain ⟨r92, hF94, hF93⟩ := bindS hF3; clear hF3
  refine cut (fun (q95 : List Int) => [(3, (h5).v)]) (fun (q95 : List Int) w' => q95 = r92 ∧ Cx w0 fp0 S0 w' [E (List Int) q95 h5]) ?_ ?_
  · skip
    refine loopW _ (fun (s146 : List Int × Int) (_ : Unit) => [(0, (a_h).v), (3, (h5).v), (4, (.int .i64 s146.2))]) (fun (s146 : List Int × Int) (_ : Unit) w' => Cx w0 fp0 S0 w' [Es (List Int) a_ a_h, E (List Int) s146.1 h5]) (a2, 0) () hF94 ⟨rfl, rfl, rfl, trivial⟩ (H.sel [1, 0] rfl) ?_
    · clear H
      rintro T152 ⟨s146_0, s146_1⟩ _ w151 o153 (H : Cx w0 fp0 S0 w151 [Es (List Int) a_ a_h, E (List Int) s146_0 h5]) hrt hF154
      refine sq ?_
      refine lenE (H.rs (α := List Int) 0 rfl).len ?_
      obtain ⟨a155, e, hF156⟩ := bindS hF154; clear hF154
      refine boolO e ?_; clear e
      cases a155
      · have hF157 := condF hF156; clear hF156
        have hs := Option.some.inj hF157; subst hs; clear hF157
        have hF158 : some _ = some _ := congrArg some (hrt _ rfl).symm
        exact ⟨s146_0, ⟨rfl, trivial⟩, Option.some.inj hF158, H.sel [1] rfl⟩
      · have hF159 := condT hF156; clear hF156
        refine sq ?_
        obtain ⟨a166, e, hF167⟩ := bindS hF159; clear hF159
        obtain ⟨p164, m165, c160, c161, c162, c163⟩ := (H.rs (α := List Int) 0 rfl).at1 e; clear e
        refine idxE c160 c161 c162 ?_; clear c160 c161 c162
        refine load1 c163 ?_; clear c163
        obtain ⟨a174, e, hF175⟩ := bindS hF167; clear hF167
        have ea174 := e; clear e
        obtain ⟨p172, m173, c168, c169, c170⟩ := (H.ro (α := List Int) 1 rfl).setp ea174
        refine idxE c168 c169 c170 ?_
        replace H := H.sel [1, 0] rfl
        refine setS (α := Int) H c168 c169 ea174 ?_; clear H c168 c169 c170 ea174; intro w176 H
        obtain ⟨a177, e, hF178⟩ := bindS hF175; clear hF175
        refine arO e ?_; clear e
        have hs := Option.some.inj hF178; subst hs; clear hF178
        exact ⟨(a174, a177), (), rfl, ⟨rfl, rfl, rfl, trivial⟩, H.sel [1, 0] rfl⟩
  · clear hF94 H
    rintro T180 s90 w179 ⟨hr, (H : Cx w0 fp0 S0 w179 [E (List Int) s90 h5])⟩
    subst hr
    cases hF93
    exact ⟨_, _, rfl, ⟨h5, rfl, rfl⟩, (H.sel [0] rfl).close ⟨cloE, trivial⟩⟩

theorem laws_toIntSS_c (a_ : List (List Int)) (a_h : Hd) (y : List (List Int)) (hF : F_laws_toIntSS a_ = some y) :
    ConF Tryd.prog 69 #[(a_h).v] [Es (List (List Int)) a_ a_h] [] (fun v Γ' => ∃ z0 : Hd, v = (z0).v ∧ Γ' = [E (List (List Int)) y z0]) := by
  intro w0 S0 fp0 hI hS
  have H : Cx w0 fp0 S0 w0 [Es (List (List Int)) a_ a_h] := Cx.start hI hS
  clear hI hS
  refine enterC (args := [_]) gok Tryd.func69 rfl _ rfl rfl rfl ?_
  refine lenE (H.rs (α := List (List Int)) 0 rfl).len ?_
  obtain ⟨a2, e, hF3⟩ := bindS hF; clear hF
  refine make_ (α := List Int) gok rfl rfl rfl rfl (makeCO_of e) H ?_; clear e H; intro h5 w4 hx H
  clear hx
  obtain ⟨r113, hF115, hF114⟩ := bindS hF3; clear hF3
  refine cut (fun (q116 : List (List Int)) => [(3, (h5).v)]) (fun (q116 : List (List Int)) w' => q116 = r113 ∧ Cx w0 fp0 S0 w' [E (List (List Int)) q116 h5]) ?_ ?_
  · skip
    refine loopW _ (fun (s181 : List (List Int) × Int) (_ : Unit) => [(0, (a_h).v), (3, (h5).v), (4, (.int .i64 s181.2))]) (fun (s181 : List (List Int) × Int) (_ : Unit) w' => Cx w0 fp0 S0 w' [Es (List (List Int)) a_ a_h, E (List (List Int)) s181.1 h5]) (a2, 0) () hF115 ⟨rfl, rfl, rfl, trivial⟩ (H.sel [1, 0] rfl) ?_
    · clear H
      rintro T187 ⟨s181_0, s181_1⟩ _ w186 o188 (H : Cx w0 fp0 S0 w186 [Es (List (List Int)) a_ a_h, E (List (List Int)) s181_0 h5]) hrt hF189
      refine sq ?_
      refine lenE (H.rs (α := List (List Int)) 0 rfl).len ?_
      obtain ⟨a190, e, hF191⟩ := bindS hF189; clear hF189
      refine boolO e ?_; clear e
      cases a190
      · have hF192 := condF hF191; clear hF191
        have hs := Option.some.inj hF192; subst hs; clear hF192
        have hF193 : some _ = some _ := congrArg some (hrt _ rfl).symm
        exact ⟨s181_0, ⟨rfl, trivial⟩, Option.some.inj hF193, H.sel [1] rfl⟩
      · have hF194 := condT hF191; clear hF191
        refine sq ?_
        obtain ⟨a201, e, hF202⟩ := bindS hF194; clear hF194
        have HH := H; clear H; obtain ⟨p199, m200, h203, c195, c196, c197, c198, H⟩ := HH.elL 0 rfl e; clear HH
        clear e
        refine idxE c195 c196 c197 ?_; clear c195 c196 c197
        refine load1 c198 ?_; clear c198
        obtain ⟨y205, e, hF206⟩ := bindS hF202; clear hF202
        have ey205 := e; clear e
        refine callF (laws_toIntS_c a201 h203 y205 ey205) (Γi := []) H ⟨Vw.sh 0 rfl, trivial⟩ ?_; clear H ey205
        rintro _ _ w207 ⟨h208, rfl, rfl⟩ (H : Cx w0 fp0 S0 w207 [E (List Int) y205 h208, Es (List Int) a201 h203, Es (List (List Int)) a_ a_h, E (List (List Int)) s181_0 h5])
        obtain ⟨a216, e, hF217⟩ := bindS hF206; clear hF206
        have ea216 := e; clear e
        obtain ⟨p214, m215, c210, c211, c212⟩ := (H.ro (α := List (List Int)) 3 rfl).setp ea216
        refine idxE c210 c211 c212 ?_
        replace H := H.sel [3, 0, 1, 2] rfl
        refine setL H c210 c211 ea216 ?_; clear H c210 c211 c212 ea216; intro w218 H
        obtain ⟨a219, e, hF220⟩ := bindS hF217; clear hF217
        refine arO e ?_; clear e
        have hs := Option.some.inj hF220; subst hs; clear hF220
        exact ⟨(a216, a219), (), rfl, ⟨rfl, rfl, rfl, trivial⟩, H.sel [2, 0] rfl⟩
  · clear hF115 H
    rintro T222 s111 w221 ⟨hr, (H : Cx w0 fp0 S0 w221 [E (List (List Int)) s111 h5])⟩
    subst hr
    cases hF114
    exact ⟨_, _, rfl, ⟨h5, rfl, rfl⟩, (H.sel [0] rfl).close ⟨cloE, trivial⟩⟩

theorem laws_toStateSpace_c (a__0 : Int) (a__1 : Int) (a__2 : Int) (a__3 : List (List Int)) (a__3h : Hd) (a__4 : List (List Int)) (a__4h : Hd) (a__5 : List (List Int)) (a__5h : Hd) (a__6 : List (List Int)) (a__6h : Hd) (y_0 : Int) (y_1 : Int) (y_2 : Int) (y_3 : List (List Int)) (y_4 : List (List Int)) (y_5 : List (List Int)) (y_6 : List (List Int)) (hF : F_laws_toStateSpace (a__0, a__1, a__2, a__3, a__4, a__5, a__6) = some (y_0, y_1, y_2, y_3, y_4, y_5, y_6)) :
    ConF Tryd.prog 18 #[(.agg #[(.int .i64 a__0), (.int .i64 a__1), (.int .i64 a__2), (a__3h).v, (a__4h).v, (a__5h).v, (a__6h).v])] [Es (List (List Int)) a__3 a__3h, Es (List (List Int)) a__4 a__4h, Es (List (List Int)) a__5 a__5h, Es (List (List Int)) a__6 a__6h] [] (fun v Γ' => ∃ z0 z1 z2 z3 : Hd, v = (.agg #[(.int .i64 y_0), (.int .i64 y_1), (.int .i64 y_2), (z0).v, (z1).v, (z2).v, (z3).v]) ∧ Γ' = [E (List (List Int)) y_3 z0, E (List (List Int)) y_4 z1, E (List (List Int)) y_5 z2, E (List (List Int)) y_6 z3]) := by
  intro w0 S0 fp0 hI hS
  have H : Cx w0 fp0 S0 w0 [Es (List (List Int)) a__3 a__3h, Es (List (List Int)) a__4 a__4h, Es (List (List Int)) a__5 a__5h, Es (List (List Int)) a__6 a__6h] := Cx.start hI hS
  clear hI hS
  refine enterC (args := [_]) gok Tryd.func18 rfl _ rfl rfl rfl ?_
  refine box_ H ?_; clear H; intro b6 w5 hx H
  clear hx
  replace H : Cx w0 fp0 S0 w5 [Bx b6 [(.int .i64 a__0), (.int .i64 a__1), (.int .i64 a__2), (a__3h).v, (a__4h).v, (a__5h).v, (a__6h).v], Es (List (List Int)) a__3 a__3h, Es (List (List Int)) a__4 a__4h, Es (List (List Int)) a__5 a__5h, Es (List (List Int)) a__6 a__6h] := H
  refine alloc_ gok rfl H ?_; clear H; intro b9 w8 hx H
  clear hx
  replace H : Cx w0 fp0 S0 w8 [Bx b9 [(.int .i64 0), (.int .i64 0), (.int .i64 0), (.slice none 0 0), (.slice none 0 0), (.slice none 0 0), (.slice none 0 0)], Bx b6 [(.int .i64 a__0), (.int .i64 a__1), (.int .i64 a__2), (a__3h).v, (a__4h).v, (a__5h).v, (a__6h).v], Es (List (List Int)) a__3 a__3h, Es (List (List Int)) a__4 a__4h, Es (List (List Int)) a__5 a__5h, Es (List (List Int)) a__6 a__6h] := H
  refine alloc_ gok rfl H ?_; clear H; intro b12 w11 hx H
  clear hx
  replace H : Cx w0 fp0 S0 w11 [Bx b12 [(.int .i64 0), (.int .i64 0), (.int .i64 0), (.slice none 0 0), (.slice none 0 0), (.slice none 0 0), (.slice none 0 0)], Bx b9 [(.int .i64 0), (.int .i64 0), (.int .i64 0), (.slice none 0 0), (.slice none 0 0), (.slice none 0 0), (.slice none 0 0)], Bx b6 [(.int .i64 a__0), (.int .i64 a__1), (.int .i64 a__2), (a__3h).v, (a__4h).v, (a__5h).v, (a__6h).v], Es (List (List Int)) a__3 a__3h, Es (List (List Int)) a__4 a__4h, Es (List (List Int)) a__5 a__5h, Es (List (List Int)) a__6 a__6h] := H
  refine fld gok rfl rfl rfl rfl ?_
  refine load1 (H.bx 2 rfl (j := 0) rfl) ?_
  refine fld gok rfl rfl rfl rfl ?_
  refine stB (j := 0) H rfl rfl ?_; clear H; intro w14 H
  replace H : Cx w0 fp0 S0 w14 [Bx b12 [(.int .i64 a__0), (.int .i64 0), (.int .i64 0), (.slice none 0 0), (.slice none 0 0), (.slice none 0 0), (.slice none 0 0)], Bx b9 [(.int .i64 0), (.int .i64 0), (.int .i64 0), (.slice none 0 0), (.slice none 0 0), (.slice none 0 0), (.slice none 0 0)], Bx b6 [(.int .i64 a__0), (.int .i64 a__1), (.int .i64 a__2), (a__3h).v, (a__4h).v, (a__5h).v, (a__6h).v], Es (List (List Int)) a__3 a__3h, Es (List (List Int)) a__4 a__4h, Es (List (List Int)) a__5 a__5h, Es (List (List Int)) a__6 a__6h] := H
  refine fld gok rfl rfl rfl rfl ?_
  refine load1 (H.bx 2 rfl (j := 1) rfl) ?_
  refine fld gok rfl rfl rfl rfl ?_
  refine stB (j := 1) H rfl rfl ?_; clear H; intro w15 H
  replace H : Cx w0 fp0 S0 w15 [Bx b12 [(.int .i64 a__0), (.int .i64 a__1), (.int .i64 0), (.slice none 0 0), (.slice none 0 0), (.slice none 0 0), (.slice none 0 0)], Bx b9 [(.int .i64 0), (.int .i64 0), (.int .i64 0), (.slice none 0 0), (.slice none 0 0), (.slice none 0 0), (.slice none 0 0)], Bx b6 [(.int .i64 a__0), (.int .i64 a__1), (.int .i64 a__2), (a__3h).v, (a__4h).v, (a__5h).v, (a__6h).v], Es (List (List Int)) a__3 a__3h, Es (List (List Int)) a__4 a__4h, Es (List (List Int)) a__5 a__5h, Es (List (List Int)) a__6 a__6h] := H
  refine fld gok rfl rfl rfl rfl ?_
  refine load1 (H.bx 2 rfl (j := 2) rfl) ?_
  refine fld gok rfl rfl rfl rfl ?_
  refine stB (j := 2) H rfl rfl ?_; clear H; intro w16 H
  replace H : Cx w0 fp0 S0 w16 [Bx b12 [(.int .i64 a__0), (.int .i64 a__1), (.int .i64 a__2), (.slice none 0 0), (.slice none 0 0), (.slice none 0 0), (.slice none 0 0)], Bx b9 [(.int .i64 0), (.int .i64 0), (.int .i64 0), (.slice none 0 0), (.slice none 0 0), (.slice none 0 0), (.slice none 0 0)], Bx b6 [(.int .i64 a__0), (.int .i64 a__1), (.int .i64 a__2), (a__3h).v, (a__4h).v, (a__5h).v, (a__6h).v], Es (List (List Int)) a__3 a__3h, Es (List (List Int)) a__4 a__4h, Es (List (List Int)) a__5 a__5h, Es (List (List Int)) a__6 a__6h] := H
  refine fld gok rfl rfl rfl rfl ?_
  refine load1 (H.bx 2 rfl (j := 3) rfl) ?_
  obtain ⟨y17, e, hF18⟩ := bindS hF; clear hF
  have ey17 := e; clear e
  refine callF (laws_toIntSS_c a__3 a__3h y17 ey17) (Γi := []) H ⟨Vw.sh 3 rfl, trivial⟩ ?_; clear H ey17
  rintro _ _ w19 ⟨h20, rfl, rfl⟩ (H : Cx w0 fp0 S0 w19 [E (List (List Int)) y17 h20, Bx b12 [(.int .i64 a__0), (.int .i64 a__1), (.int .i64 a__2), (.slice none 0 0), (.slice none 0 0), (.slice none 0 0), (.slice none 0 0)], Bx b9 [(.int .i64 0), (.int .i64 0), (.int .i64 0), (.slice none 0 0), (.slice none 0 0), (.slice none 0 0), (.slice none 0 0)], Bx b6 [(.int .i64 a__0), (.int .i64 a__1), (.int .i64 a__2), (a__3h).v, (a__4h).v, (a__5h).v, (a__6h).v], Es (List (List Int)) a__3 a__3h, Es (List (List Int)) a__4 a__4h, Es (List (List Int)) a__5 a__5h, Es (List (List Int)) a__6 a__6h])
  refine fld gok rfl rfl rfl rfl ?_
  replace H := H.sel [1, 0, 2, 3, 4, 5, 6, 7] rfl
  refine stB (j := 3) H rfl rfl ?_; clear H; intro w22 H
  replace H : Cx w0 fp0 S0 w22 [Bx b12 [(.int .i64 a__0), (.int .i64 a__1), (.int .i64 a__2), (h20).v, (.slice none 0 0), (.slice none 0 0), (.slice none 0 0)], E (List (List Int)) y17 h20, Bx b9 [(.int .i64 0), (.int .i64 0), (.int .i64 0), (.slice none 0 0), (.slice none 0 0), (.slice none 0 0), (.slice none 0 0)], Bx b6 [(.int .i64 a__0), (.int .i64 a__1), (.int .i64 a__2), (a__3h).v, (a__4h).v, (a__5h).v, (a__6h).v], Es (List (List Int)) a__3 a__3h, Es (List (List Int)) a__4 a__4h, Es (List (List Int)) a__5 a__5h, Es (List (List Int)) a__6 a__6h] := H
  refine fld gok rfl rfl rfl rfl ?_
  refine load1 (H.bx 3 rfl (j := 4) rfl) ?_
  obtain ⟨y23, e, hF24⟩ := bindS hF18; clear hF18
  have ey23 := e; clear e
  refine callF (laws_toIntSS_c a__4 a__4h y23 ey23) (Γi := []) H ⟨Vw.sh 5 rfl, trivial⟩ ?_; clear H ey23
  rintro _ _ w25 ⟨h26, rfl, rfl⟩ (H : Cx w0 fp0 S0 w25 [E (List (List Int)) y23 h26, Bx b12 [(.int .i64 a__0), (.int .i64 a__1), (.int .i64 a__2), (h20).v, (.slice none 0 0), (.slice none 0 0), (.slice none 0 0)], E (List (List Int)) y17 h20, Bx b9 [(.int .i64 0), (.int .i64 0), (.int .i64 0), (.slice none 0 0), (.slice none 0 0), (.slice none 0 0), (.slice none 0 0)], Bx b6 [(.int .i64 a__0), (.int .i64 a__1), (.int .i64 a__2), (a__3h).v, (a__4h).v, (a__5h).v, (a__6h).v], Es (List (List Int)) a__3 a__3h, Es (List (List Int)) a__4 a__4h, Es (List (List Int)) a__5 a__5h, Es (List (List Int)) a__6 a__6h])
  refine fld gok rfl rfl rfl rfl ?_
  replace H := H.sel [1, 0, 2, 3, 4, 5, 6, 7, 8] rfl
  refine stB (j := 4) H rfl rfl ?_; clear H; intro w28 H
  replace H : Cx w0 fp0 S0 w28 [Bx b12 [(.int .i64 a__0), (.int .i64 a__1), (.int .i64 a__2), (h20).v, (h26).v, (.slice none 0 0), (.slice none 0 0)], E (List (List Int)) y23 h26, E (List (List Int)) y17 h20, Bx b9 [(.int .i64 0), (.int .i64 0), (.int .i64 0), (.slice none 0 0), (.slice none 0 0), (.slice none 0 0), (.slice none 0 0)], Bx b6 [(.int .i64 a__0), (.int .i64 a__1), (.int .i64 a__2), (a__3h).v, (a__4h).v, (a__5h).v, (a__6h).v], Es (List (List Int)) a__3 a__3h, Es (List (List Int)) a__4 a__4h, Es (List (List Int)) a__5 a__5h, Es (List (List Int)) a__6 a__6h] := H
  refine fld gok rfl rfl rfl rfl ?_
  refine load1 (H.bx 4 rfl (j := 5) rfl) ?_
  obtain ⟨y29, e, hF30⟩ := bindS hF24; clear hF24
  have ey29 := e; clear e
  refine callF (laws_toIntSS_c a__5 a__5h y29 ey29) (Γi := []) H ⟨Vw.sh 7 rfl, trivial⟩ ?_; clear H ey29
  rintro _ _ w31 ⟨h32, rfl, rfl⟩ (H : Cx w0 fp0 S0 w31 [E (List (List Int)) y29 h32, Bx b12 [(.int .i64 a__0), (.int .i64 a__1), (.int .i64 a__2), (h20).v, (h26).v, (.slice none 0 0), (.slice none 0 0)], E (List (List Int)) y23 h26, E (List (List Int)) y17 h20, Bx b9 [(.int .i64 0), (.int .i64 0), (.int .i64 0), (.slice none 0 0), (.slice none 0 0), (.slice none 0 0), (.slice none 0 0)], Bx b6 [(.int .i64 a__0), (.int .i64 a__1), (.int .i64 a__2), (a__3h).v, (a__4h).v, (a__5h).v, (a__6h).v], Es (List (List Int)) a__3 a__3h, Es (List (List Int)) a__4 a__4h, Es (List (List Int)) a__5 a__5h, Es (List (List Int)) a__6 a__6h])
  refine fld gok rfl rfl rfl rfl ?_
  replace H := H.sel [1, 0, 2, 3, 4, 5, 6, 7, 8, 9] rfl
  refine stB (j := 5) H rfl rfl ?_; clear H; intro w34 H
  replace H : Cx w0 fp0 S0 w34 [Bx b12 [(.int .i64 a__0), (.int .i64 a__1), (.int .i64 a__2), (h20).v, (h26).v, (h32).v, (.slice none 0 0)], E (List (List Int)) y29 h32, E (List (List Int)) y23 h26, E (List (List Int)) y17 h20, Bx b9 [(.int .i64 0), (.int .i64 0), (.int .i64 0), (.slice none 0 0), (.slice none 0 0), (.slice none 0 0), (.slice none 0 0)], Bx b6 [(.int .i64 a__0), (.int .i64 a__1), (.int .i64 a__2), (a__3h).v, (a__4h).v, (a__5h).v, (a__6h).v], Es (List (List Int)) a__3 a__3h, Es (List (List Int)) a__4 a__4h, Es (List (List Int)) a__5 a__5h, Es (List (List Int)) a__6 a__6h] := H
  refine fld gok rfl rfl rfl rfl ?_
  refine load1 (H.bx 5 rfl (j := 6) rfl) ?_
  obtain ⟨y35, e, hF36⟩ := bindS hF30; clear hF30
  have ey35 := e; clear e
  refine callF (laws_toIntSS_c a__6 a__6h y35 ey35) (Γi := []) H ⟨Vw.sh 9 rfl, trivial⟩ ?_; clear H ey35
  rintro _ _ w37 ⟨h38, rfl, rfl⟩ (H : Cx w0 fp0 S0 w37 [E (List (List Int)) y35 h38, Bx b12 [(.int .i64 a__0), (.int .i64 a__1), (.int .i64 a__2), (h20).v, (h26).v, (h32).v, (.slice none 0 0)], E (List (List Int)) y29 h32, E (List (List Int)) y23 h26, E (List (List Int)) y17 h20, Bx b9 [(.int .i64 0), (.int .i64 0), (.int .i64 0), (.slice none 0 0), (.slice none 0 0), (.slice none 0 0), (.slice none 0 0)], Bx b6 [(.int .i64 a__0), (.int .i64 a__1), (.int .i64 a__2), (a__3h).v, (a__4h).v, (a__5h).v, (a__6h).v], Es (List (List Int)) a__3 a__3h, Es (List (List Int)) a__4 a__4h, Es (List (List Int)) a__5 a__5h, Es (List (List Int)) a__6 a__6h])
  refine fld gok rfl rfl rfl rfl ?_
  replace H := H.sel [1, 0, 2, 3, 4, 5, 6, 7, 8, 9, 10] rfl
  refine stB (j := 6) H rfl rfl ?_; clear H; intro w40 H
  replace H : Cx w0 fp0 S0 w40 [Bx b12 [(.int .i64 a__0), (.int .i64 a__1), (.int .i64 a__2), (h20).v, (h26).v, (h32).v, (h38).v], E (List (List Int)) y35 h38, E (List (List Int)) y29 h32, E (List (List Int)) y23 h26, E (List (List Int)) y17 h20, Bx b9 [(.int .i64 0), (.int .i64 0), (.int .i64 0), (.slice none 0 0), (.slice none 0 0), (.slice none 0 0), (.slice none 0 0)], Bx b6 [(.int .i64 a__0), (.int .i64 a__1), (.int .i64 a__2), (a__3h).v, (a__4h).v, (a__5h).v, (a__6h).v], Es (List (List Int)) a__3 a__3h, Es (List (List Int)) a__4 a__4h, Es (List (List Int)) a__5 a__5h, Es (List (List Int)) a__6 a__6h] := H
  refine loadN [(.int .i64 a__0), (.int .i64 a__1), (.int .i64 a__2), (h20).v, (h26).v, (h32).v, (h38).v] rfl (fun j u hj => H.bx 0 rfl hj) ?_
  replace H := H.sel [5, 0, 1, 2, 3, 4, 6, 7, 8, 9, 10] rfl
  refine stA gok [(.int .i64 a__0), (.int .i64 a__1), (.int .i64 a__2), (h20).v, (h26).v, (h32).v, (h38).v] rfl H rfl rfl rfl ?_; clear H; intro w41 H
  replace H : Cx w0 fp0 S0 w41 [Bx b9 [(.int .i64 a__0), (.int .i64 a__1), (.int .i64 a__2), (h20).v, (h26).v, (h32).v, (h38).v], Bx b12 [(.int .i64 a__0), (.int .i64 a__1), (.int .i64 a__2), (h20).v, (h26).v, (h32).v, (h38).v], E (List (List Int)) y35 h38, E (List (List Int)) y29 h32, E (List (List Int)) y23 h26, E (List (List Int)) y17 h20, Bx b6 [(.int .i64 a__0), (.int .i64 a__1), (.int .i64 a__2), (a__3h).v, (a__4h).v, (a__5h).v, (a__6h).v], Es (List (List Int)) a__3 a__3h, Es (List (List Int)) a__4 a__4h, Es (List (List Int)) a__5 a__5h, Es (List (List Int)) a__6 a__6h] := H
  refine loadN [(.int .i64 a__0), (.int .i64 a__1), (.int .i64 a__2), (h20).v, (h26).v, (h32).v, (h38).v] rfl (fun j u hj => H.bx 0 rfl hj) ?_
  cases hF36
  exact ⟨_, _, rfl, ⟨h20, h26, h32, h38, rfl, rfl⟩, (H.sel [5, 4, 3, 2] rfl).close ⟨cloE, cloE, cloE, cloE, trivial⟩⟩

theorem spec_l1In_c (n_ : Int) (lo_ : Int) (hi_ : Int) (y : Bool) (hF : F_spec_l1In n_ lo_ hi_ = some y) :
    ConF Tryd.prog 80 #[(.int .i64 n_), (.int .i64 lo_), (.int .i64 hi_)] [] [] (fun v Γ' => v = (.bool y) ∧ Γ' = []) := by
  intro w0 S0 fp0 hI hS
  have H : Cx w0 fp0 S0 w0 [] := Cx.start hI hS
  clear hI hS
  refine enterC (args := [_, _, _]) gok Tryd.func80 rfl _ rfl rfl rfl ?_
  obtain ⟨r9, hF11, hF10⟩ := bindS hF; clear hF
  refine cut (fun (q12 : Bool) => [(6, (.bool q12))]) (fun (q12 : Bool) w' => q12 = r9 ∧ Cx w0 fp0 S0 w' []) ?_ ?_
  · skip
    obtain ⟨a13, e, hF14⟩ := bindS hF11; clear hF11
    refine boolO e ?_; clear e
    cases a13
    · have hF15 := condF hF14; clear hF14
      exact ⟨false, ⟨rfl, trivial⟩, Option.some.inj hF15, H.sel [] rfl⟩
    · have hF16 := condT hF14; clear hF14
      obtain ⟨a17, e, hF18⟩ := bindS hF16; clear hF16
      refine boolO e ?_; clear e
      exact ⟨a17, ⟨rfl, trivial⟩, Option.some.inj hF18, H.sel [] rfl⟩
  · clear hF11 H
    rintro T20 s7 w19 ⟨hr, (H : Cx w0 fp0 S0 w19 [])⟩
    subst hr
    cases hF10
    exact ⟨_, _, rfl, ⟨rfl, rfl⟩, (H.sel [] rfl).close trivial⟩

theorem spec_fdGood_c (p_ : Int) (y : Bool) (hF : F_spec_fdGood p_ = some y) :
    ConF Tryd.prog 131 #[(.int .i64 p_)] [] [] (fun v Γ' => v = (.bool y) ∧ Γ' = []) := by
  intro w0 S0 fp0 hI hS
  have H : Cx w0 fp0 S0 w0 [] := Cx.start hI hS
  clear hI hS
  refine enterC (args := [_]) gok Tryd.func131 rfl _ rfl rfl rfl ?_
  refine sq ?_
  obtain ⟨y1, e, hF2⟩ := bindS hF; clear hF
  have ey1 := e; clear e
  refine callF (spec_l1In_c p_ 2 97 y1 ey1) (Γi := []) H trivial ?_; clear H ey1
  rintro _ _ w3 ⟨rfl, rfl⟩ (H : Cx w0 fp0 S0 w3 [])
  obtain ⟨a4, e, hF5⟩ := bindS hF2; clear hF2
  refine boolO e ?_; clear e
  cases a4
  · have hF6 := condF hF5; clear hF5
    obtain ⟨r66, hF68, hF67⟩ := bindS hF6; clear hF6
    refine cut (fun (q69 : Unit) => []) (fun (q69 : Unit) w' => .inl () = r66 ∧ Cx w0 fp0 S0 w' []) ?_ ?_
    · skip
      refine loopW _ (fun (s102 : Int) (_ : Unit) => [(0, (.int .i64 p_)), (3, (.int .i64 s102))]) (fun (s102 : Int) (_ : Unit) w' => Cx w0 fp0 S0 w' []) 2 () hF68 ⟨rfl, rfl, trivial⟩ (H.sel [] rfl) ?_
      · clear H
        rintro T108 s102 _ w107 o109 (H : Cx w0 fp0 S0 w107 []) hrt hF110
        refine sq ?_
        obtain ⟨a111, e, hF112⟩ := bindS hF110; clear hF110
        refine arO e ?_; clear e
        obtain ⟨a113, e, hF114⟩ := bindS hF112; clear hF112
        refine boolO e ?_; clear e
        cases a113
        · have hF115 := condF hF114; clear hF114
          have hs := Option.some.inj hF115; subst hs; clear hF115
          have hF116 : some _ = some _ := congrArg some (hrt _ rfl).symm
          exact ⟨(), trivial, Option.some.inj hF116, H.sel [] rfl⟩
        · have hF117 := condT hF114; clear hF114
          refine sq ?_
          obtain ⟨a118, e, hF119⟩ := bindS hF117; clear hF117
          refine remO_ e ?_; clear e
          obtain ⟨a120, e, hF121⟩ := bindS hF119; clear hF119
          refine boolO e ?_; clear e
          cases a120
          · have hF122 := condF hF121; clear hF121
            obtain ⟨a123, e, hF124⟩ := bindS hF122; clear hF122
            refine arO e ?_; clear e
            have hs := Option.some.inj hF124; subst hs; clear hF124
            exact ⟨a123, (), rfl, ⟨rfl, rfl, trivial⟩, H.sel [] rfl⟩
          · have hF125 := condT hF121; clear hF121
            have hs := Option.some.inj hF125; subst hs; clear hF125
            have hF126 : some _ = some _ := congrArg some (hrt _ rfl).symm
            have hs := Option.some.inj hF126; subst hs; clear hF126
            have hF127 : some _ = some _ := hF67; clear hF67
            cases hF127
            exact ⟨_, _, rfl, ⟨rfl, rfl⟩, (H.sel [] rfl).close trivial⟩
    · clear hF68 H
      rintro T129 _ w128 ⟨hr, (H : Cx w0 fp0 S0 w128 [])⟩
      subst hr
      cases hF67
      exact ⟨_, _, rfl, ⟨rfl, rfl⟩, (H.sel [] rfl).close trivial⟩
  · have hF130 := condT hF5; clear hF5
    cases hF130
    exact ⟨_, _, rfl, ⟨rfl, rfl⟩, (H.sel [] rfl).close trivial⟩

theorem spec_l1All_c (l_ : List Int) (l_h : Hd) (lo_ : Int) (hi_ : Int) (y : Bool) (hF : F_spec_l1All l_ lo_ hi_ = some y) :
    ConF Tryd.prog 178 #[(l_h).v, (.int .i64 lo_), (.int .i64 hi_)] [Es (List Int) l_ l_h] [] (fun v Γ' => v = (.bool y) ∧ Γ' = []) := by
  intro w0 S0 fp0 hI hS
  have H : Cx w0 fp0 S0 w0 [Es (List Int) l_ l_h] := Cx.start hI hS
  clear hI hS
  refine enterC (args := [_, _, _]) gok Tryd.func178 rfl _ rfl rfl rfl ?_
  refine sq ?_
  refine lenE (H.rs (α := List Int) 0 rfl).len ?_
  have hmx22 := (H.rs (α := List Int) 0 rfl).max
  obtain ⟨r23, e, hF24⟩ := bindS hF; clear hF
  refine loopO _ l_.length (fun (k2 : Nat) (_ : Unit) (_ : Unit) => [(1, (.int .i64 lo_)), (2, (.int .i64 hi_)), (9, (l_h).v), (10, (.int .i64 ((l_.length : Nat) : Int))), (11, (.int .i64 ((k2 : Nat) : Int)))]) (fun _ (_ : Unit) (_ : Unit) w' => Cx w0 fp0 S0 w' [Es (List Int) l_ l_h]) () () e ⟨rfl, rfl, rfl, rfl, rfl, trivial⟩ (H.sel [0] rfl) ?_ ?_
  · clear H e
    rintro T26 k2 _ _ w25 o27 hk (H : Cx w0 fp0 S0 w25 [Es (List Int) l_ l_h]) hrt hF28
    refine boolE (z := true) (ltLen hk) ?_
    refine sq ?_
    refine sq ?_
    obtain ⟨a35, e, hF36⟩ := bindS hF28; clear hF28
    obtain ⟨p33, m34, c29, c30, c31, c32⟩ := (H.rs (α := List Int) 0 rfl).at1 e; clear e
    refine idxE c29 c30 c31 ?_; clear c29 c30 c31
    refine load1 c32 ?_; clear c32
    obtain ⟨y37, e, hF38⟩ := bindS hF36; clear hF36
    have ey37 := e; clear e
    refine callF (spec_l1In_c a35 lo_ hi_ y37 ey37) (Γi := []) H trivial ?_; clear H ey37
    rintro _ _ w39 ⟨rfl, rfl⟩ (H : Cx w0 fp0 S0 w39 [Es (List Int) l_ l_h])
    obtain ⟨a40, e, hF41⟩ := bindS hF38; clear hF38
    refine boolO e ?_; clear e
    cases a40
    · have hF42 := condF hF41; clear hF41
      refine arK hk hmx22 ?_
      have hs := Option.some.inj hF42; subst hs; clear hF42
      exact ⟨(), (), rfl, ⟨rfl, rfl, rfl, rfl, rfl, trivial⟩, H.sel [0] rfl⟩
    · have hF43 := condT hF41; clear hF41
      have hs := Option.some.inj hF43; subst hs; clear hF43
      have hr := hrt _ rfl; subst hr
      have hF44 : some _ = some _ := hF24
      cases hF44
      exact ⟨_, _, rfl, ⟨rfl, rfl⟩, (H.sel [] rfl).close trivial⟩
  · clear H e
    rintro T46 _ _ w45 hr (H : Cx w0 fp0 S0 w45 [Es (List Int) l_ l_h])
    subst hr
    refine boolE (z := false) geLen ?_
    refine sq ?_
    cases hF24
    exact ⟨_, _, rfl, ⟨rfl, rfl⟩, (H.sel [] rfl).close trivial⟩

theorem spec_fdIn_c (p_ : Int) (l_ : List Int) (l_h : Hd) (y : Bool) (hF : F_spec_fdIn p_ l_ = some y) :
    ConF Tryd.prog 142 #[(.int .i64 p_), (l_h).v] [Es (List Int) l_ l_h] [] (fun v Γ' => v = (.bool y) ∧ Γ' = []) := by
  intro w0 S0 fp0 hI hS
  have H : Cx w0 fp0 S0 w0 [Es (List Int) l_ l_h] := Cx.start hI hS
  clear hI hS
  refine enterC (args := [_, _]) gok Tryd.func142 rfl _ rfl rfl rfl ?_
  obtain ⟨a2, e, hF3⟩ := bindS hF; clear hF
  refine arO e ?_; clear e
  obtain ⟨y4, e, hF5⟩ := bindS hF3; clear hF3
  have ey4 := e; clear e
  refine callF (spec_l1All_c l_ l_h 0 a2 y4 ey4) (Γi := []) H ⟨Vw.sh 0 rfl, trivial⟩ ?_; clear H ey4
  rintro _ _ w6 ⟨rfl, rfl⟩ (H : Cx w0 fp0 S0 w6 [Es (List Int) l_ l_h])
  cases hF5
  exact ⟨_, _, rfl, ⟨rfl, rfl⟩, (H.sel [] rfl).close trivial⟩

theorem spec_spRows_c (p_ : Int) (size_ : Int) (rows_ : List (List Int)) (rows_h : Hd) (y : Bool) (hF : F_spec_spRows p_ size_ rows_ = some y) :
    ConF Tryd.prog 173 #[(.int .i64 p_), (.int .i64 size_), (rows_h).v] [Es (List (List Int)) rows_ rows_h] [] (fun v Γ' => v = (.bool y) ∧ Γ' = []) := by
  intro w0 S0 fp0 hI hS
  have H : Cx w0 fp0 S0 w0 [Es (List (List Int)) rows_ rows_h] := Cx.start hI hS
  clear hI hS
  refine enterC (args := [_, _, _]) gok Tryd.func173 rfl _ rfl rfl rfl ?_
  refine sq ?_
  refine lenE (H.rs (α := List (List Int)) 0 rfl).len ?_
  have hmx45 := (H.rs (α := List (List Int)) 0 rfl).max
  obtain ⟨r46, e, hF47⟩ := bindS hF; clear hF
  refine loopO _ rows_.length (fun (k2 : Nat) (_ : Unit) (_ : Unit) => [(0, (.int .i64 p_)), (1, (.int .i64 size_)), (9, (rows_h).v), (10, (.int .i64 ((rows_.length : Nat) : Int))), (11, (.int .i64 ((k2 : Nat) : Int)))]) (fun _ (_ : Unit) (_ : Unit) w' => Cx w0 fp0 S0 w' [Es (List (List Int)) rows_ rows_h]) () () e ⟨rfl, rfl, rfl, rfl, rfl, trivial⟩ (H.sel [0] rfl) ?_ ?_
  · clear H e
    rintro T49 k2 _ _ w48 o50 hk (H : Cx w0 fp0 S0 w48 [Es (List (List Int)) rows_ rows_h]) hrt hF51
    refine boolE (z := true) (ltLen hk) ?_
    refine sq ?_
    refine sq ?_
    obtain ⟨a58, e, hF59⟩ := bindS hF51; clear hF51
    have HH := H; clear H; obtain ⟨p56, m57, h60, c52, c53, c54, c55, H⟩ := HH.elL 0 rfl e; clear HH
    clear e
    refine idxE c52 c53 c54 ?_; clear c52 c53 c54
    refine load1 c55 ?_; clear c55
    obtain ⟨r73, hF75, hF74⟩ := bindS hF59; clear hF59
    refine cut (fun (q76 : Bool) => [(0, (.int .i64 p_)), (1, (.int .i64 size_)), (9, (rows_h).v), (10, (.int .i64 ((rows_.length : Nat) : Int))), (11, (.int .i64 ((k2 : Nat) : Int))), (24, (.bool q76))]) (fun (q76 : Bool) w' => q76 = r73 ∧ Cx w0 fp0 S0 w' [Es (List (List Int)) rows_ rows_h]) ?_ ?_
    · skip
      refine lenE (H.rs (α := List Int) 0 rfl).len ?_
      obtain ⟨a77, e, hF78⟩ := bindS hF75; clear hF75
      refine boolO e ?_; clear e
      cases a77
      · have hF79 := condF hF78; clear hF78
        obtain ⟨y80, e, hF81⟩ := bindS hF79; clear hF79
        have ey80 := e; clear e
        refine callF (spec_fdIn_c p_ a58 h60 y80 ey80) (Γi := []) H ⟨Vw.sh 0 rfl, trivial⟩ ?_; clear H ey80
        rintro _ _ w82 ⟨rfl, rfl⟩ (H : Cx w0 fp0 S0 w82 [Es (List Int) a58 h60, Es (List (List Int)) rows_ rows_h])
        obtain ⟨a83, e, hF84⟩ := bindS hF81; clear hF81
        refine boolO e ?_; clear e
        exact ⟨a83, ⟨rfl, rfl, rfl, rfl, rfl, rfl, trivial⟩, Option.some.inj hF84, H.sel [1] rfl⟩
      · have hF85 := condT hF78; clear hF78
        exact ⟨true, ⟨rfl, rfl, rfl, rfl, rfl, rfl, trivial⟩, Option.some.inj hF85, H.sel [1] rfl⟩
    · clear hF75 H
      rintro T87 s71 w86 ⟨hr, (H : Cx w0 fp0 S0 w86 [Es (List (List Int)) rows_ rows_h])⟩
      subst hr
      cases s71
      · have hF88 := condF hF74; clear hF74
        refine arK hk hmx45 ?_
        have hs := Option.some.inj hF88; subst hs; clear hF88
        exact ⟨(), (), rfl, ⟨rfl, rfl, rfl, rfl, rfl, trivial⟩, H.sel [0] rfl⟩
      · have hF89 := condT hF74; clear hF74
        have hs := Option.some.inj hF89; subst hs; clear hF89
        have hr := hrt _ rfl; subst hr
        have hF90 : some _ = some _ := hF47
        cases hF90
        exact ⟨_, _, rfl, ⟨rfl, rfl⟩, (H.sel [] rfl).close trivial⟩
  · clear H e
    rintro T92 _ _ w91 hr (H : Cx w0 fp0 S0 w91 [Es (List (List Int)) rows_ rows_h])
    subst hr
    refine boolE (z := false) geLen ?_
    refine sq ?_
    cases hF47
    exact ⟨_, _, rfl, ⟨rfl, rfl⟩, (H.sel [] rfl).close trivial⟩

theorem spec_ssTable_c (p_ : Int) (rows_ : Int) (cols_ : Int) (m_ : List (List Int)) (m_h : Hd) (y : Bool) (hF : F_spec_ssTable p_ rows_ cols_ m_ = some y) :
    ConF Tryd.prog 132 #[(.int .i64 p_), (.int .i64 rows_), (.int .i64 cols_), (m_h).v] [Es (List (List Int)) m_ m_h] [] (fun v Γ' => v = (.bool y) ∧ Γ' = []) := by
  intro w0 S0 fp0 hI hS
  have H : Cx w0 fp0 S0 w0 [Es (List (List Int)) m_ m_h] := Cx.start hI hS
  clear hI hS
  refine enterC (args := [_, _, _, _]) gok Tryd.func132 rfl _ rfl rfl rfl ?_
  obtain ⟨r11, hF13, hF12⟩ := bindS hF; clear hF
  refine cut (fun (q14 : Bool) => [(8, (.bool q14))]) (fun (q14 : Bool) w' => q14 = r11 ∧ Cx w0 fp0 S0 w' []) ?_ ?_
  · skip
    refine lenE (H.rs (α := List (List Int)) 0 rfl).len ?_
    obtain ⟨a15, e, hF16⟩ := bindS hF13; clear hF13
    refine boolO e ?_; clear e
    cases a15
    · have hF17 := condF hF16; clear hF16
      exact ⟨false, ⟨rfl, trivial⟩, Option.some.inj hF17, H.sel [] rfl⟩
    · have hF18 := condT hF16; clear hF16
      obtain ⟨y19, e, hF20⟩ := bindS hF18; clear hF18
      have ey19 := e; clear e
      refine callF (spec_spRows_c p_ cols_ m_ m_h y19 ey19) (Γi := []) H ⟨Vw.sh 0 rfl, trivial⟩ ?_; clear H ey19
      rintro _ _ w21 ⟨rfl, rfl⟩ (H : Cx w0 fp0 S0 w21 [Es (List (List Int)) m_ m_h])
      exact ⟨y19, ⟨rfl, trivial⟩, Option.some.inj hF20, H.sel [] rfl⟩
  · clear hF13 H
    rintro T23 s9 w22 ⟨hr, (H : Cx w0 fp0 S0 w22 [])⟩
    subst hr
    cases hF12
    exact ⟨_, _, rfl, ⟨rfl, rfl⟩, (H.sel [] rfl).close trivial⟩

theorem spec_ssGood_c (p_ : Int) (s__0 : Int) (s__1 : Int) (s__2 : Int) (s__3 : List (List Int)) (s__3h : Hd) (s__4 : List (List Int)) (s__4h : Hd) (s__5 : List (List Int)) (s__5h : Hd) (s__6 : List (List Int)) (s__6h : Hd) (y : Bool) (hF : F_spec_ssGood p_ (s__0, s__1, s__2, s__3, s__4, s__5, s__6) = some y) :
    ConF Tryd.prog 66 #[(.int .i64 p_), (.agg #[(.int .i64 s__0), (.int .i64 s__1), (.int .i64 s__2), (s__3h).v, (s__4h).v, (s__5h).v, (s__6h).v])] [Es (List (List Int)) s__3 s__3h, Es (List (List Int)) s__4 s__4h, Es (List (List Int)) s__5 s__5h, Es (List (List Int)) s__6 s__6h] [] (fun v Γ' => v = (.bool y) ∧ Γ' = []) := by
  intro w0 S0 fp0 hI hS
  have H : Cx w0 fp0 S0 w0 [Es (List (List Int)) s__3 s__3h, Es (List (List Int)) s__4 s__4h, Es (List (List Int)) s__5 s__5h, Es (List (List Int)) s__6 s__6h] := Cx.start hI hS
  clear hI hS
  refine enterC (args := [_, _]) gok Tryd.func66 rfl _ rfl rfl rfl ?_
  refine box_ H ?_; clear H; intro b6 w5 hx H
  clear hx
  replace H : Cx w0 fp0 S0 w5 [Bx b6 [(.int .i64 s__0), (.int .i64 s__1), (.int .i64 s__2), (s__3h).v, (s__4h).v, (s__5h).v, (s__6h).v], Es (List (List Int)) s__3 s__3h, Es (List (List Int)) s__4 s__4h, Es (List (List Int)) s__5 s__5h, Es (List (List Int)) s__6 s__6h] := H
  obtain ⟨r48, hF50, hF49⟩ := bindS hF; clear hF
  refine cut (fun (q51 : Bool) => [(4, (.bool q51))]) (fun (q51 : Bool) w' => q51 = r48 ∧ Cx w0 fp0 S0 w' []) ?_ ?_
  · skip
    obtain ⟨y52, e, hF53⟩ := bindS hF50; clear hF50
    have ey52 := e; clear e
    refine callF (spec_fdGood_c p_ y52 ey52) (Γi := []) H trivial ?_; clear H ey52
    rintro _ _ w54 ⟨rfl, rfl⟩ (H : Cx w0 fp0 S0 w54 [Bx b6 [(.int .i64 s__0), (.int .i64 s__1), (.int .i64 s__2), (s__3h).v, (s__4h).v, (s__5h).v, (s__6h).v], Es (List (List Int)) s__3 s__3h, Es (List (List Int)) s__4 s__4h, Es (List (List Int)) s__5 s__5h, Es (List (List Int)) s__6 s__6h])
    cases y52
    · have hF55 := condF hF53; clear hF53
      exact ⟨false, ⟨rfl, trivial⟩, Option.some.inj hF55, H.sel [] rfl⟩
    · have hF56 := condT hF53; clear hF53
      refine fld gok rfl rfl rfl rfl ?_
      refine load1 (H.bx 0 rfl (j := 0) rfl) ?_
      obtain ⟨y57, e, hF58⟩ := bindS hF56; clear hF56
      have ey57 := e; clear e
      refine callF (spec_l1In_c s__0 0 24 y57 ey57) (Γi := []) H trivial ?_; clear H ey57
      rintro _ _ w59 ⟨rfl, rfl⟩ (H : Cx w0 fp0 S0 w59 [Bx b6 [(.int .i64 s__0), (.int .i64 s__1), (.int .i64 s__2), (s__3h).v, (s__4h).v, (s__5h).v, (s__6h).v], Es (List (List Int)) s__3 s__3h, Es (List (List Int)) s__4 s__4h, Es (List (List Int)) s__5 s__5h, Es (List (List Int)) s__6 s__6h])
      cases y57
      · have hF60 := condF hF58; clear hF58
        exact ⟨false, ⟨rfl, trivial⟩, Option.some.inj hF60, H.sel [] rfl⟩
      · have hF61 := condT hF58; clear hF58
        refine fld gok rfl rfl rfl rfl ?_
        refine load1 (H.bx 0 rfl (j := 1) rfl) ?_
        obtain ⟨y62, e, hF63⟩ := bindS hF61; clear hF61
        have ey62 := e; clear e
        refine callF (spec_l1In_c s__1 0 8 y62 ey62) (Γi := []) H trivial ?_; clear H ey62
        rintro _ _ w64 ⟨rfl, rfl⟩ (H : Cx w0 fp0 S0 w64 [Bx b6 [(.int .i64 s__0), (.int .i64 s__1), (.int .i64 s__2), (s__3h).v, (s__4h).v, (s__5h).v, (s__6h).v], Es (List (List Int)) s__3 s__3h, Es (List (List Int)) s__4 s__4h, Es (List (List Int)) s__5 s__5h, Es (List (List Int)) s__6 s__6h])
        cases y62
        · have hF65 := condF hF63; clear hF63
          exact ⟨false, ⟨rfl, trivial⟩, Option.some.inj hF65, H.sel [] rfl⟩
        · have hF66 := condT hF63; clear hF63
          refine fld gok rfl rfl rfl rfl ?_
          refine load1 (H.bx 0 rfl (j := 2) rfl) ?_
          obtain ⟨y67, e, hF68⟩ := bindS hF66; clear hF66
          have ey67 := e; clear e
          refine callF (spec_l1In_c s__2 0 8 y67 ey67) (Γi := []) H trivial ?_; clear H ey67
          rintro _ _ w69 ⟨rfl, rfl⟩ (H : Cx w0 fp0 S0 w69 [Bx b6 [(.int .i64 s__0), (.int .i64 s__1), (.int .i64 s__2), (s__3h).v, (s__4h).v, (s__5h).v, (s__6h).v], Es (List (List Int)) s__3 s__3h, Es (List (List Int)) s__4 s__4h, Es (List (List Int)) s__5 s__5h, Es (List (List Int)) s__6 s__6h])
          cases y67
          · have hF70 := condF hF68; clear hF68
            exact ⟨false, ⟨rfl, trivial⟩, Option.some.inj hF70, H.sel [] rfl⟩
          · have hF71 := condT hF68; clear hF68
            refine fld gok rfl rfl rfl rfl ?_
            refine load1 (H.bx 0 rfl (j := 0) rfl) ?_
            refine fld gok rfl rfl rfl rfl ?_
            refine load1 (H.bx 0 rfl (j := 0) rfl) ?_
            refine fld gok rfl rfl rfl rfl ?_
            refine load1 (H.bx 0 rfl (j := 3) rfl) ?_
            obtain ⟨y72, e, hF73⟩ := bindS hF71; clear hF71
            have ey72 := e; clear e
            refine callF (spec_ssTable_c p_ s__0 s__0 s__3 s__3h y72 ey72) (Γi := []) H ⟨Vw.sh 1 rfl, trivial⟩ ?_; clear H ey72
            rintro _ _ w74 ⟨rfl, rfl⟩ (H : Cx w0 fp0 S0 w74 [Bx b6 [(.int .i64 s__0), (.int .i64 s__1), (.int .i64 s__2), (s__3h).v, (s__4h).v, (s__5h).v, (s__6h).v], Es (List (List Int)) s__3 s__3h, Es (List (List Int)) s__4 s__4h, Es (List (List Int)) s__5 s__5h, Es (List (List Int)) s__6 s__6h])
            cases y72
            · have hF75 := condF hF73; clear hF73
              exact ⟨false, ⟨rfl, trivial⟩, Option.some.inj hF75, H.sel [] rfl⟩
            · have hF76 := condT hF73; clear hF73
              refine fld gok rfl rfl rfl rfl ?_
              refine load1 (H.bx 0 rfl (j := 1) rfl) ?_
              refine fld gok rfl rfl rfl rfl ?_
              refine load1 (H.bx 0 rfl (j := 0) rfl) ?_
              refine fld gok rfl rfl rfl rfl ?_
              refine load1 (H.bx 0 rfl (j := 4) rfl) ?_
              obtain ⟨y77, e, hF78⟩ := bindS hF76; clear hF76
              have ey77 := e; clear e
              refine callF (spec_ssTable_c p_ s__1 s__0 s__4 s__4h y77 ey77) (Γi := []) H ⟨Vw.sh 2 rfl, trivial⟩ ?_; clear H ey77
              rintro _ _ w79 ⟨rfl, rfl⟩ (H : Cx w0 fp0 S0 w79 [Bx b6 [(.int .i64 s__0), (.int .i64 s__1), (.int .i64 s__2), (s__3h).v, (s__4h).v, (s__5h).v, (s__6h).v], Es (List (List Int)) s__3 s__3h, Es (List (List Int)) s__4 s__4h, Es (List (List Int)) s__5 s__5h, Es (List (List Int)) s__6 s__6h])
              cases y77
              · have hF80 := condF hF78; clear hF78
                exact ⟨false, ⟨rfl, trivial⟩, Option.some.inj hF80, H.sel [] rfl⟩
              · have hF81 := condT hF78; clear hF78
                refine fld gok rfl rfl rfl rfl ?_
                refine load1 (H.bx 0 rfl (j := 0) rfl) ?_
                refine fld gok rfl rfl rfl rfl ?_
                refine load1 (H.bx 0 rfl (j := 2) rfl) ?_
                refine fld gok rfl rfl rfl rfl ?_
                refine load1 (H.bx 0 rfl (j := 5) rfl) ?_
                obtain ⟨y82, e, hF83⟩ := bindS hF81; clear hF81
                have ey82 := e; clear e
                refine callF (spec_ssTable_c p_ s__0 s__2 s__5 s__5h y82 ey82) (Γi := []) H ⟨Vw.sh 3 rfl, trivial⟩ ?_; clear H ey82
                rintro _ _ w84 ⟨rfl, rfl⟩ (H : Cx w0 fp0 S0 w84 [Bx b6 [(.int .i64 s__0), (.int .i64 s__1), (.int .i64 s__2), (s__3h).v, (s__4h).v, (s__5h).v, (s__6h).v], Es (List (List Int)) s__3 s__3h, Es (List (List Int)) s__4 s__4h, Es (List (List Int)) s__5 s__5h, Es (List (List Int)) s__6 s__6h])
                cases y82
                · have hF85 := condF hF83; clear hF83
                  exact ⟨false, ⟨rfl, trivial⟩, Option.some.inj hF85, H.sel [] rfl⟩
                · have hF86 := condT hF83; clear hF83
                  refine fld gok rfl rfl rfl rfl ?_
                  refine load1 (H.bx 0 rfl (j := 1) rfl) ?_
                  refine fld gok rfl rfl rfl rfl ?_
                  refine load1 (H.bx 0 rfl (j := 2) rfl) ?_
                  refine fld gok rfl rfl rfl rfl ?_
                  refine load1 (H.bx 0 rfl (j := 6) rfl) ?_
                  obtain ⟨y87, e, hF88⟩ := bindS hF86; clear hF86
                  have ey87 := e; clear e
                  refine callF (spec_ssTable_c p_ s__1 s__2 s__6 s__6h y87 ey87) (Γi := []) H ⟨Vw.sh 4 rfl, trivial⟩ ?_; clear H ey87
                  rintro _ _ w89 ⟨rfl, rfl⟩ (H : Cx w0 fp0 S0 w89 [Bx b6 [(.int .i64 s__0), (.int .i64 s__1), (.int .i64 s__2), (s__3h).v, (s__4h).v, (s__5h).v, (s__6h).v], Es (List (List Int)) s__3 s__3h, Es (List (List Int)) s__4 s__4h, Es (List (List Int)) s__5 s__5h, Es (List (List Int)) s__6 s__6h])
                  exact ⟨y87, ⟨rfl, trivial⟩, Option.some.inj hF88, H.sel [] rfl⟩
  · clear hF50 H
    rintro T91 s46 w90 ⟨hr, (H : Cx w0 fp0 S0 w90 [])⟩
    subst hr
    cases hF49
    exact ⟨_, _, rfl, ⟨rfl, rfl⟩, (H.sel [] rfl).close trivial⟩

theorem spec_l1Own_c (l_ : List Int) (l_h : Hd) (y : List Int) (hF : F_spec_l1Own l_ = some y) :
    ConF Tryd.prog 144 #[(l_h).v] [Es (List Int) l_ l_h] [] (fun v Γ' => ∃ z0 : Hd, v = (z0).v ∧ Γ' = [E (List Int) y z0]) := by
  intro w0 S0 fp0 hI hS
  have H : Cx w0 fp0 S0 w0 [Es (List Int) l_ l_h] := Cx.start hI hS
  clear hI hS
  refine enterC (args := [_]) gok Tryd.func144 rfl _ rfl rfl rfl ?_
  refine lit0 (α := Int) gok rfl rfl H ?_; clear H; intro h3 w2 hx H
  clear hx
  obtain ⟨a5, e, hF6⟩ := bindS hF; clear hF
  refine appendS (α := Int) gok rfl rfl rfl rfl H (Vw.sh 0 rfl) e ?_; clear e H; intro h8 w7 H
  cases hF6
  exact ⟨_, _, rfl, ⟨h8, rfl, rfl⟩, (H.sel [0] rfl).close ⟨cloE, trivial⟩⟩

theorem spec_fdInv_c (p_ : Int) (a_ : Int) (y : Int) (hF : F_spec_fdInv p_ a_ = some y) :
    ConF Tryd.prog 145 #[(.int .i64 p_), (.int .i64 a_)] [] [] (fun v Γ' => v = (.int .i64 y) ∧ Γ' = []) := by
  intro w0 S0 fp0 hI hS
  have H : Cx w0 fp0 S0 w0 [] := Cx.start hI hS
  clear hI hS
  refine enterC (args := [_, _]) gok Tryd.func145 rfl _ rfl rfl rfl ?_
  obtain ⟨r60, hF62, hF61⟩ := bindS hF; clear hF
  refine cut (fun (q63 : Unit) => []) (fun (q63 : Unit) w' => .inl () = r60 ∧ Cx w0 fp0 S0 w' []) ?_ ?_
  · skip
    refine loopW _ (fun (s96 : Int) (_ : Unit) => [(0, (.int .i64 p_)), (1, (.int .i64 a_)), (5, (.int .i64 s96))]) (fun (s96 : Int) (_ : Unit) w' => Cx w0 fp0 S0 w' []) 1 () hF62 ⟨rfl, rfl, rfl, trivial⟩ (H.sel [] rfl) ?_
    · clear H
      rintro T102 s96 _ w101 o103 (H : Cx w0 fp0 S0 w101 []) hrt hF104
      refine sq ?_
      obtain ⟨a105, e, hF106⟩ := bindS hF104; clear hF104
      refine boolO e ?_; clear e
      cases a105
      · have hF107 := condF hF106; clear hF106
        have hs := Option.some.inj hF107; subst hs; clear hF107
        have hF108 : some _ = some _ := congrArg some (hrt _ rfl).symm
        exact ⟨(), trivial, Option.some.inj hF108, H.sel [] rfl⟩
      · have hF109 := condT hF106; clear hF106
        refine sq ?_
        obtain ⟨a110, e, hF111⟩ := bindS hF109; clear hF109
        refine arO e ?_; clear e
        obtain ⟨a112, e, hF113⟩ := bindS hF111; clear hF111
        refine remO_ e ?_; clear e
        obtain ⟨a114, e, hF115⟩ := bindS hF113; clear hF113
        refine boolO e ?_; clear e
        cases a114
        · have hF116 := condF hF115; clear hF115
          obtain ⟨a117, e, hF118⟩ := bindS hF116; clear hF116
          refine arO e ?_; clear e
          have hs := Option.some.inj hF118; subst hs; clear hF118
          exact ⟨a117, (), rfl, ⟨rfl, rfl, rfl, trivial⟩, H.sel [] rfl⟩
        · have hF119 := condT hF115; clear hF115
          have hs := Option.some.inj hF119; subst hs; clear hF119
          have hF120 : some _ = some _ := congrArg some (hrt _ rfl).symm
          have hs := Option.some.inj hF120; subst hs; clear hF120
          have hF121 : some _ = some _ := hF61; clear hF61
          cases hF121
          exact ⟨_, _, rfl, ⟨rfl, rfl⟩, (H.sel [] rfl).close trivial⟩
  · clear hF62 H
    rintro T123 _ w122 ⟨hr, (H : Cx w0 fp0 S0 w122 [])⟩
    subst hr
    cases hF61
    exact ⟨_, _, rfl, ⟨rfl, rfl⟩, (H.sel [] rfl).close trivial⟩

theorem spec_fdMul_c (p_ : Int) (a_ : Int) (b_ : Int) (y : Int) (hF : F_spec_fdMul p_ a_ b_ = some y) :
    ConF Tryd.prog 146 #[(.int .i64 p_), (.int .i64 a_), (.int .i64 b_)] [] [] (fun v Γ' => v = (.int .i64 y) ∧ Γ' = []) := by
  intro w0 S0 fp0 hI hS
  have H : Cx w0 fp0 S0 w0 [] := Cx.start hI hS
  clear hI hS
  refine enterC (args := [_, _, _]) gok Tryd.func146 rfl _ rfl rfl rfl ?_
  obtain ⟨a1, e, hF2⟩ := bindS hF; clear hF
  refine arO e ?_; clear e
  obtain ⟨a3, e, hF4⟩ := bindS hF2; clear hF2
  refine remO_ e ?_; clear e
  cases hF4
  exact ⟨_, _, rfl, ⟨rfl, rfl⟩, (H.sel [] rfl).close trivial⟩

theorem spec_fdSub_c (p_ : Int) (a_ : Int) (b_ : Int) (y : Int) (hF : F_spec_fdSub p_ a_ b_ = some y) :
    ConF Tryd.prog 147 #[(.int .i64 p_), (.int .i64 a_), (.int .i64 b_)] [] [] (fun v Γ' => v = (.int .i64 y) ∧ Γ' = []) := by
  intro w0 S0 fp0 hI hS
  have H : Cx w0 fp0 S0 w0 [] := Cx.start hI hS
  clear hI hS
  refine enterC (args := [_, _, _]) gok Tryd.func147 rfl _ rfl rfl rfl ?_
  obtain ⟨a1, e, hF2⟩ := bindS hF; clear hF
  refine arO e ?_; clear e
  obtain ⟨a3, e, hF4⟩ := bindS hF2; clear hF2
  refine arO e ?_; clear e
  obtain ⟨a5, e, hF6⟩ := bindS hF4; clear hF4
  refine remO_ e ?_; clear e
  cases hF6
  exact ⟨_, _, rfl, ⟨rfl, rfl⟩, (H.sel [] rfl).close trivial⟩

theorem spec_spReduce_c (p_ : Int) (size_ : Int) (rows_ : List (List Int)) (rows_h : Hd) (y : List (List Int)) (hF : F_spec_spReduce p_ size_ rows_ = some y) :
    ConF Tryd.prog 84 #[(.int .i64 p_), (.int .i64 size_), (rows_h).v] [Es (List (List Int)) rows_ rows_h] [] (fun v Γ' => ∃ z0 : Hd, v = (z0).v ∧ Γ' = [E (List (List Int)) y z0]) := by
  intro w0 S0 fp0 hI hS
  have H : Cx w0 fp0 S0 w0 [Es (List (List Int)) rows_ rows_h] := Cx.start hI hS
  clear hI hS
  refine enterC (args := [_, _, _]) gok Tryd.func84 rfl _ rfl rfl rfl ?_
  refine sq ?_
  refine lenE (H.rs (α := List (List Int)) 0 rfl).len ?_
  have hmx58 := (H.rs (α := List (List Int)) 0 rfl).max
  obtain ⟨r59, e, hF60⟩ := bindS hF; clear hF
  replace H := H.nil (α := List Int)
  refine loopS _ rows_.length (fun (k2 : Nat) (s55 : List (List Int)) (g56 : Hd) => [(0, (.int .i64 p_)), (1, (.int .i64 size_)), (7, (g56).v), (19, (rows_h).v), (20, (.int .i64 ((rows_.length : Nat) : Int))), (21, (.int .i64 ((k2 : Nat) : Int)))]) (fun _ (s55 : List (List Int)) (g56 : Hd) w' => Cx w0 fp0 S0 w' [E (List (List Int)) s55 g56, Es (List (List Int)) rows_ rows_h]) [] nilH e ⟨rfl, rfl, rfl, rfl, rfl, rfl, trivial⟩ (H.sel [0, 1] rfl) ?_ ?_
  · clear H e
    rintro T63 k2 s55 g56 w62 o64 hk (H : Cx w0 fp0 S0 w62 [E (List (List Int)) s55 g56, Es (List (List Int)) rows_ rows_h]) hF65
    refine boolE (z := true) (ltLen hk) ?_
    refine sq ?_
    refine sq ?_
    obtain ⟨a72, e, hF73⟩ := bindS hF65; clear hF65
    have HH := H; clear H; obtain ⟨p70, m71, h74, c66, c67, c68, c69, H⟩ := HH.elL 1 rfl e; clear HH
    clear e
    refine idxE c66 c67 c68 ?_; clear c66 c67 c68
    refine load1 c69 ?_; clear c69
    obtain ⟨y76, e, hF77⟩ := bindS hF73; clear hF73
    have ey76 := e; clear e
    refine callF (spec_l1Own_c a72 h74 y76 ey76) (Γi := []) H ⟨Vw.sh 0 rfl, trivial⟩ ?_; clear H ey76
    rintro _ _ w78 ⟨h79, rfl, rfl⟩ (H : Cx w0 fp0 S0 w78 [E (List Int) y76 h79, Es (List Int) a72 h74, E (List (List Int)) s55 g56, Es (List (List Int)) rows_ rows_h])
    refine lit1 (α := List Int) (g := h79) gok rfl rfl rfl rfl rfl H ?_; clear H; intro h82 w81 hx H
    clear hx
    obtain ⟨a84, e, hF85⟩ := bindS hF77; clear hF77
    replace H := H.sel [2, 0, 1, 3] rfl
    refine append_ (α := List Int) gok rfl rfl rfl rfl H e ?_; clear e H; intro h87 w86 H
    refine arK hk hmx58 ?_
    have hs := Option.some.inj hF85; subst hs; clear hF85
    exact ⟨h87, ⟨rfl, rfl, rfl, rfl, rfl, rfl, trivial⟩, H.sel [0, 2] rfl⟩
  · clear H e
    rintro T90 g92 w89 (H : Cx w0 fp0 S0 w89 [E (List (List Int)) r59 g92, Es (List (List Int)) rows_ rows_h])
    refine boolE (z := false) geLen ?_
    refine sq ?_
    obtain ⟨r14378, hF14380, hF14379⟩ := bindS hF60; clear hF60
    refine cut (fun (q14381 : List (List Int) × Int) => [(7, (g92).v), (10, (.int .i64 q14381.2))]) (fun (q14381 : List (List Int) × Int) w' => (q14381.1, q14381.2) = r14378 ∧ Cx w0 fp0 S0 w' [E (List (List Int)) q14381.1 g92]) ?_ ?_
    · skip
      refine loopW _ (fun (s23898 : List (List Int) × Int × Int) (_ : Unit) => [(0, (.int .i64 p_)), (1, (.int .i64 size_)), (7, (g92).v), (10, (.int .i64 s23898.2.1)), (11, (.int .i64 s23898.2.2))]) (fun (s23898 : List (List Int) × Int × Int) (_ : Unit) w' => Cx w0 fp0 S0 w' [E (List (List Int)) s23898.1 g92]) (r59, 0, 0) () hF14380 ⟨rfl, rfl, rfl, rfl, rfl, trivial⟩ (H.sel [0] rfl) ?_
      · clear H
        rintro T23904 ⟨s23898_0, s23898_1, s23898_2⟩ _ w23903 o23905 (H : Cx w0 fp0 S0 w23903 [E (List (List Int)) s23898_0 g92]) hrt hF23906
        refine sq ?_
        obtain ⟨r23915, hF23917, hF23916⟩ := bindS hF23906; clear hF23906
        refine cut (fun (q23918 : Bool) => [(0, (.int .i64 p_)), (1, (.int .i64 size_)), (7, (g92).v), (10, (.int .i64 s23898_1)), (11, (.int .i64 s23898_2)), (39, (.bool q23918))]) (fun (q23918 : Bool) w' => q23918 = r23915 ∧ Cx w0 fp0 S0 w' [E (List (List Int)) s23898_0 g92]) ?_ ?_
        · skip
          obtain ⟨a23919, e, hF23920⟩ := bindS hF23917; clear hF23917
          refine boolO e ?_; clear e
          cases a23919
          · have hF23921 := condF hF23920; clear hF23920
            exact ⟨false, ⟨rfl, rfl, rfl, rfl, rfl, rfl, trivial⟩, Option.some.inj hF23921, H.sel [0] rfl⟩
          · have hF23922 := condT hF23920; clear hF23920
            refine lenE (H.ro (α := List (List Int)) 0 rfl).len ?_
            obtain ⟨a23923, e, hF23924⟩ := bindS hF23922; clear hF23922
            refine boolO e ?_; clear e
            exact ⟨a23923, ⟨rfl, rfl, rfl, rfl, rfl, rfl, trivial⟩, Option.some.inj hF23924, H.sel [0] rfl⟩
        · clear hF23917 H
          rintro T23926 s23913 w23925 ⟨hr, (H : Cx w0 fp0 S0 w23925 [E (List (List Int)) s23898_0 g92])⟩
          subst hr
          cases s23913
          · have hF23927 := condF hF23916; clear hF23916
            have hs := Option.some.inj hF23927; subst hs; clear hF23927
            have hF23928 : some _ = some _ := congrArg some (hrt _ rfl).symm
            exact ⟨(s23898_0, s23898_1), ⟨rfl, rfl, trivial⟩, Option.some.inj hF23928, H.sel [0] rfl⟩
          · have hF23929 := condT hF23916; clear hF23916
            obtain ⟨r26294, hF26296, hF26295⟩ := bindS hF23929; clear hF23929
            refine cut (fun (q26297 : List (List Int) × Int) => [(0, (.int .i64 p_)), (1, (.int .i64 size_)), (7, (g92).v), (10, (.int .i64 q26297.2)), (11, (.int .i64 s23898_2))]) (fun (q26297 : List (List Int) × Int) w' => (q26297.1, q26297.2) = r26294 ∧ Cx w0 fp0 S0 w' [E (List (List Int)) q26297.1 g92]) ?_ ?_
            · skip
              obtain ⟨r26488, hF26490, hF26489⟩ := bindS hF26296; clear hF26296
              refine cut (fun (q26491 : Int) => [(0, (.int .i64 p_)), (1, (.int .i64 size_)), (7, (g92).v), (10, (.int .i64 s23898_1)), (11, (.int .i64 s23898_2)), (12, (.int .i64 q26491))]) (fun (q26491 : Int) w' => q26491 = r26488 ∧ Cx w0 fp0 S0 w' [E (List (List Int)) s23898_0 g92]) ?_ ?_
              · skip
                refine loopW _ (fun (s26612 : Int) (_ : Unit) => [(0, (.int .i64 p_)), (1, (.int .i64 size_)), (7, (g92).v), (10, (.int .i64 s23898_1)), (11, (.int .i64 s23898_2)), (12, (.int .i64 s26612))]) (fun (s26612 : Int) (_ : Unit) w' => Cx w0 fp0 S0 w' [E (List (List Int)) s23898_0 g92]) s23898_1 () hF26490 ⟨rfl, rfl, rfl, rfl, rfl, rfl, trivial⟩ (H.sel [0] rfl) ?_
                · clear H
                  rintro T26618 s26612 _ w26617 o26619 (H : Cx w0 fp0 S0 w26617 [E (List (List Int)) s23898_0 g92]) hrt hF26620
                  refine sq ?_
                  obtain ⟨r26646, hF26648, hF26647⟩ := bindS hF26620; clear hF26620
                  refine cut (fun (q26649 : Bool) => [(0, (.int .i64 p_)), (1, (.int .i64 size_)), (7, (g92).v), (10, (.int .i64 s23898_1)), (11, (.int .i64 s23898_2)), (12, (.int .i64 s26612)), (56, (.bool q26649))]) (fun (q26649 : Bool) w' => q26649 = r26646 ∧ Cx w0 fp0 S0 w' [E (List (List Int)) s23898_0 g92]) ?_ ?_
                  · skip
                    refine lenE (H.ro (α := List (List Int)) 0 rfl).len ?_
                    obtain ⟨a26650, e, hF26651⟩ := bindS hF26648; clear hF26648
                    refine boolO e ?_; clear e
                    cases a26650
                    · have hF26652 := condF hF26651; clear hF26651
                      exact ⟨false, ⟨rfl, rfl, rfl, rfl, rfl, rfl, rfl, trivial⟩, Option.some.inj hF26652, H.sel [0] rfl⟩
                    · have hF26653 := condT hF26651; clear hF26651
                      obtain ⟨a26660, e, hF26661⟩ := bindS hF26653; clear hF26653
                      replace H := H.toEH (α := List Int)
                      have HH := H; clear H; obtain ⟨p26658, m26659, h26662, c26654, c26655, c26656, c26657, H⟩ := HH.peekL e; clear HH
                      clear e
                      refine idxE c26654 c26655 c26656 ?_
                      refine load1 c26657 ?_; clear c26657
                      obtain ⟨a26669, e, hF26670⟩ := bindS hF26661; clear hF26661
                      obtain ⟨p26667, m26668, c26663, c26664, c26665, c26666⟩ := (H.rh (α := List Int) 0 rfl 0 rfl).at1 e; clear e
                      refine idxE c26663 c26664 c26665 ?_; clear c26663 c26664 c26665
                      refine load1 c26666 ?_; clear c26666
                      obtain ⟨a26671, e, hF26672⟩ := bindS hF26670; clear hF26670
                      refine boolO e ?_; clear e
                      replace H := H.ofEH
                      exact ⟨a26671, ⟨rfl, rfl, rfl, rfl, rfl, rfl, rfl, trivial⟩, Option.some.inj hF26672, H.sel [0] rfl⟩
                  · clear hF26648 H
                    rintro T26674 s26644 w26673 ⟨hr, (H : Cx w0 fp0 S0 w26673 [E (List (List Int)) s23898_0 g92])⟩
                    subst hr
                    cases s26644
                    · have hF26675 := condF hF26647; clear hF26647
                      have hs := Option.some.inj hF26675; subst hs; clear hF26675
                      have hF26676 : some _ = some _ := congrArg some (hrt _ rfl).symm
                      exact ⟨s26612, ⟨rfl, rfl, rfl, rfl, rfl, rfl, trivial⟩, Option.some.inj hF26676, H.sel [0] rfl⟩
                    · have hF26677 := condT hF26647; clear hF26647
                      obtain ⟨a26678, e, hF26679⟩ := bindS hF26677; clear hF26677
                      refine arO e ?_; clear e
                      have hs := Option.some.inj hF26679; subst hs; clear hF26679
                      exact ⟨a26678, (), rfl, ⟨rfl, rfl, rfl, rfl, rfl, rfl, trivial⟩, H.sel [0] rfl⟩
              · clear hF26490 H
                rintro T26681 s26486 w26680 ⟨hr, (H : Cx w0 fp0 S0 w26680 [E (List (List Int)) s23898_0 g92])⟩
                subst hr
                refine sq ?_
                refine lenE (H.ro (α := List (List Int)) 0 rfl).len ?_
                obtain ⟨a26682, e, hF26683⟩ := bindS hF26489; clear hF26489
                refine boolO e ?_; clear e
                cases a26682
                · have hF26684 := condF hF26683; clear hF26683
                  obtain ⟨a26691, e, hF26692⟩ := bindS hF26684; clear hF26684
                  replace H := H.toEH (α := List Int)
                  have HH := H; clear H; obtain ⟨p26689, m26690, h26693, c26685, c26686, c26687, c26688, H⟩ := HH.peekL e; clear HH
                  clear e
                  refine idxE c26685 c26686 c26687 ?_
                  refine load1 c26688 ?_; clear c26688
                  obtain ⟨a26700, e, hF26701⟩ := bindS hF26692; clear hF26692
                  have HH := H; clear H; obtain ⟨p26698, m26699, h26702, c26694, c26695, c26696, c26697, H⟩ := HH.peekL e; clear HH
                  clear e
                  refine idxE c26694 c26695 c26696 ?_
                  refine load1 c26697 ?_; clear c26697
                  refine idxE c26685 c26686 c26687 ?_
                  refine stZ1 (ki := 1) (kj := 0) H rfl rfl c26685 ?_; clear H; intro w26709 H
                  replace H : Cx w0 fp0 S0 w26709 [EZ (List Int) m26690 m26699 a26691 a26700 h26693 h26702 s23898_0 g92] := H
                  refine idxE c26694 c26695 c26696 ?_
                  obtain ⟨a26717, e, hF26718⟩ := bindS hF26701; clear hF26701
                  refine stZ2 H c26686 c26695 c26694 e ?_; clear H e; intro w26716 H
                  obtain ⟨a26725, e, hF26726⟩ := bindS hF26718; clear hF26718
                  replace H := H.toEH (α := List Int)
                  have HH := H; clear H; obtain ⟨p26723, m26724, h26727, c26719, c26720, c26721, c26722, H⟩ := HH.peekL e; clear HH
                  clear e
                  refine idxE c26719 c26720 c26721 ?_
                  refine load1 c26722 ?_; clear c26722
                  obtain ⟨a26734, e, hF26735⟩ := bindS hF26726; clear hF26726
                  obtain ⟨p26732, m26733, c26728, c26729, c26730, c26731⟩ := (H.rh (α := List Int) 0 rfl 0 rfl).at1 e; clear e
                  refine idxE c26728 c26729 c26730 ?_; clear c26728 c26729 c26730
                  refine load1 c26731 ?_; clear c26731
                  obtain ⟨y26736, e, hF26737⟩ := bindS hF26735; clear hF26735
                  have ey26736 := e; clear e
                  refine callF (spec_fdInv_c p_ a26734 y26736 ey26736) (Γi := []) H trivial ?_; clear H ey26736
                  rintro _ _ w26738 ⟨rfl, rfl⟩ (H : Cx w0 fp0 S0 w26738 [EH (List Int) a26717 g92 [⟨m26724, a26725, h26727⟩]])
                  refine sq ?_
                  obtain ⟨a26745, e, hF26746⟩ := bindS hF26737; clear hF26737
                  have HH := H; clear H; obtain ⟨p26743, m26744, h26747, c26739, c26740, c26741, c26742, H⟩ := HH.peekL e; clear HH
                  clear e
                  refine idxE c26739 c26740 c26741 ?_
                  refine load1 c26742 ?_; clear c26742
                  have hmx26748 := (H.rh (α := List Int) 0 rfl 0 rfl).max
                  refine lenE (H.rh (α := List Int) 0 rfl 0 rfl).len ?_
                  replace H := H.ofEH
                  obtain ⟨r26841, e, hF26842⟩ := bindS hF26746; clear hF26746
                  refine loopS _ a26745.length (fun (k26749 : Nat) (s26838 : List (List Int)) (_ : Unit) => [(0, (.int .i64 p_)), (1, (.int .i64 size_)), (7, (g92).v), (10, (.int .i64 s23898_1)), (11, (.int .i64 s23898_2)), (14, (.int .i64 y26736)), (91, (.int .i64 ((a26745.length : Nat) : Int))), (92, (.int .i64 ((k26749 : Nat) : Int)))]) (fun _ (s26838 : List (List Int)) (_ : Unit) w' => Cx w0 fp0 S0 w' [E (List (List Int)) s26838 g92]) a26717 () e ⟨rfl, rfl, rfl, rfl, rfl, rfl, rfl, rfl, trivial⟩ (H.sel [0] rfl) ?_ ?_
                  · clear H e
                    rintro T26844 k26749 s26838 _ w26843 o26845 hk (H : Cx w0 fp0 S0 w26843 [E (List (List Int)) s26838 g92]) hF26846
                    refine boolE (z := true) (ltLen hk) ?_
                    refine sq ?_
                    refine sq ?_
                    refine heldX H [16] (.fst 0 (.fst 1 (.fst 2 (.fst 4 (.fst 5 (.fst 6 (.fst 7 (.fst 8 (.fst 10 (.fst 13 (.fst 3 (.fst 9 (.fst 11 (.fst 12 (.act 14 (.fst 15 (.act 16 .done))))))))))))))))) mixed [] trivial (by kernel_rfl) ?_
                    clear H; intro w26847 H
                    have hX : Ext w26847 w26847 := Upd.refl _ _
                    have H0 := H
                    obtain ⟨a26854, e, hF26855⟩ := bindS hF26846; clear hF26846
                    replace H := H.toEH (α := List Int)
                    have HH := H; clear H; obtain ⟨p26852, m26853, h26856, c26848, c26849, c26850, c26851, H⟩ := HH.peekL e; clear HH
                    clear e
                    refine idxE c26848 c26849 c26850 ?_
                    obtain ⟨a26863, e, hF26864⟩ := bindS hF26855; clear hF26855
                    have HH := H; clear H; obtain ⟨p26861, m26862, h26865, c26857, c26858, c26859, c26860, H⟩ := HH.peekL e; clear HH
                    clear e
                    refine idxE c26857 c26858 c26859 ?_
                    refine load1X c26851 ?_; clear c26851
                    refine load1X c26860 ?_; clear c26860
                    obtain ⟨a26872, e, hF26873⟩ := bindS hF26864; clear hF26864
                    obtain ⟨p26870, m26871, c26866, c26867, c26868, c26869⟩ := (H.rh (α := List Int) 0 rfl 0 rfl).at1 e; clear e
                    refine idxE c26866 c26867 c26868 ?_; clear c26866 c26867 c26868
                    refine load1X c26869 ?_; clear c26869
                    obtain ⟨y26874, e, hF26875⟩ := bindS hF26873; clear hF26873
                    have ey26874 := e; clear e
                    refine callFx (spec_fdMul_c p_ a26872 y26736 y26874 ey26874) H trivial ?_; clear H ey26874
                    rintro _ _ w26876 ⟨rfl, rfl⟩ hx (H : Cx w0 fp0 S0 w26876 [EH (List Int) s26838 g92 [⟨m26862, a26863, h26865⟩, ⟨m26853, a26854, h26856⟩]])
                    replace hX := hX.trans0 hx; clear hx
                    refine hold hX ?_
                    replace H := H.takeK 1 rfl
                    obtain ⟨a26884, e, hF26885⟩ := bindS hF26875; clear hF26875
                    have ea26884 := e; clear e
                    obtain ⟨p26881, m26882, c26877, c26878, c26879⟩ := (H.ro (α := List Int) 0 rfl).setp ea26884
                    refine idxE c26877 c26878 c26879 ?_
                    refine setS (α := Int) H c26877 c26878 ea26884 ?_; clear H c26877 c26878 c26879 ea26884; intro w26886 H
                    obtain ⟨a26887, e, hF26888⟩ := bindS hF26885; clear hF26885
                    replace H := H.put c26849 e; clear e
                    refine hold trivial ?_
                    refine arK hk hmx26748 ?_
                    have hs := Option.some.inj hF26888; subst hs; clear hF26888
                    exact ⟨(), ⟨rfl, rfl, rfl, rfl, rfl, rfl, rfl, rfl, trivial⟩, H.sel [0] rfl⟩
                  · clear H e
                    rintro T26890 _ w26889 (H : Cx w0 fp0 S0 w26889 [E (List (List Int)) r26841 g92])
                    refine boolE (z := false) geLen ?_
                    refine sq ?_
                    refine sq ?_
                    refine lenE (H.ro (α := List (List Int)) 0 rfl).len ?_
                    have hmx28064 := (H.ro (α := List (List Int)) 0 rfl).max
                    obtain ⟨r28065, e, hF28066⟩ := bindS hF26842; clear hF26842
                    refine loopS _ r26841.length (fun (k26893 : Nat) (s28062 : List (List Int)) (_ : Unit) => [(0, (.int .i64 p_)), (1, (.int .i64 size_)), (7, (g92).v), (10, (.int .i64 s23898_1)), (11, (.int .i64 s23898_2)), (113, (.int .i64 ((r26841.length : Nat) : Int))), (114, (.int .i64 ((k26893 : Nat) : Int)))]) (fun _ (s28062 : List (List Int)) (_ : Unit) w' => Cx w0 fp0 S0 w' [E (List (List Int)) s28062 g92]) r26841 () e ⟨rfl, rfl, rfl, rfl, rfl, rfl, rfl, trivial⟩ (H.sel [0] rfl) ?_ ?_
                    · clear H e
                      rintro T28068 k26893 s28062 _ w28067 o28069 hk (H : Cx w0 fp0 S0 w28067 [E (List (List Int)) s28062 g92]) hF28070
                      refine boolE (z := true) (ltLen hk) ?_
                      refine sq ?_
                      obtain ⟨r28360, hF28362, hF28361⟩ := bindS hF28070; clear hF28070
                      refine cut (fun (q28363 : List (List Int)) => [(0, (.int .i64 p_)), (1, (.int .i64 size_)), (7, (g92).v), (10, (.int .i64 s23898_1)), (11, (.int .i64 s23898_2)), (113, (.int .i64 ((r26841.length : Nat) : Int))), (114, (.int .i64 ((k26893 : Nat) : Int)))]) (fun (q28363 : List (List Int)) w' => q28363 = r28360 ∧ Cx w0 fp0 S0 w' [E (List (List Int)) q28363 g92]) ?_ ?_
                      · skip
                        refine sq ?_
                        obtain ⟨r28389, hF28391, hF28390⟩ := bindS hF28362; clear hF28362
                        refine cut (fun (q28392 : Bool) => [(0, (.int .i64 p_)), (1, (.int .i64 size_)), (7, (g92).v), (10, (.int .i64 s23898_1)), (11, (.int .i64 s23898_2)), (16, (.int .i64 ((k26893 : Nat) : Int))), (113, (.int .i64 ((r26841.length : Nat) : Int))), (114, (.int .i64 ((k26893 : Nat) : Int))), (129, (.bool q28392))]) (fun (q28392 : Bool) w' => q28392 = r28389 ∧ Cx w0 fp0 S0 w' [E (List (List Int)) s28062 g92]) ?_ ?_
                        · skip
                          obtain ⟨a28393, e, hF28394⟩ := bindS hF28391; clear hF28391
                          refine boolO e ?_; clear e
                          cases a28393
                          · have hF28395 := condF hF28394; clear hF28394
                            obtain ⟨a28402, e, hF28403⟩ := bindS hF28395; clear hF28395
                            replace H := H.toEH (α := List Int)
                            have HH := H; clear H; obtain ⟨p28400, m28401, h28404, c28396, c28397, c28398, c28399, H⟩ := HH.peekL e; clear HH
                            clear e
                            refine idxE c28396 c28397 c28398 ?_
                            refine load1 c28399 ?_; clear c28399
                            obtain ⟨a28411, e, hF28412⟩ := bindS hF28403; clear hF28403
                            obtain ⟨p28409, m28410, c28405, c28406, c28407, c28408⟩ := (H.rh (α := List Int) 0 rfl 0 rfl).at1 e; clear e
                            refine idxE c28405 c28406 c28407 ?_; clear c28405 c28406 c28407
                            refine load1 c28408 ?_; clear c28408
                            obtain ⟨a28413, e, hF28414⟩ := bindS hF28412; clear hF28412
                            refine boolO e ?_; clear e
                            replace H := H.ofEH
                            exact ⟨a28413, ⟨rfl, rfl, rfl, rfl, rfl, rfl, rfl, rfl, rfl, trivial⟩, Option.some.inj hF28414, H.sel [0] rfl⟩
                          · have hF28415 := condT hF28394; clear hF28394
                            exact ⟨true, ⟨rfl, rfl, rfl, rfl, rfl, rfl, rfl, rfl, rfl, trivial⟩, Option.some.inj hF28415, H.sel [0] rfl⟩
                        · clear hF28391 H
                          rintro T28417 s28387 w28416 ⟨hr, (H : Cx w0 fp0 S0 w28416 [E (List (List Int)) s28062 g92])⟩
                          subst hr
                          cases s28387
                          · have hF28418 := condF hF28390; clear hF28390
                            obtain ⟨a28425, e, hF28426⟩ := bindS hF28418; clear hF28418
                            replace H := H.toEH (α := List Int)
                            have HH := H; clear H; obtain ⟨p28423, m28424, h28427, c28419, c28420, c28421, c28422, H⟩ := HH.peekL e; clear HH
                            clear e
                            refine idxE c28419 c28420 c28421 ?_
                            refine load1 c28422 ?_; clear c28422
                            obtain ⟨a28434, e, hF28435⟩ := bindS hF28426; clear hF28426
                            obtain ⟨p28432, m28433, c28428, c28429, c28430, c28431⟩ := (H.rh (α := List Int) 0 rfl 0 rfl).at1 e; clear e
                            refine idxE c28428 c28429 c28430 ?_; clear c28428 c28429 c28430
                            refine load1 c28431 ?_; clear c28431
                            replace H := H.ofEH
                            obtain ⟨a28442, e, hF28443⟩ := bindS hF28435; clear hF28435
                            replace H := H.toEH (α := List Int)
                            have HH := H; clear H; obtain ⟨p28440, m28441, h28444, c28436, c28437, c28438, c28439, H⟩ := HH.peekL e; clear HH
                            clear e
                            refine idxE c28436 c28437 c28438 ?_
                            refine load1 c28439 ?_; clear c28439
                            have hmx28445 := (H.rh (α := List Int) 0 rfl 0 rfl).max
                            refine lenE (H.rh (α := List Int) 0 rfl 0 rfl).len ?_
                            replace H := H.ofEH
                            obtain ⟨r28578, e, hF28579⟩ := bindS hF28443; clear hF28443
                            refine loopS _ a28442.length (fun (k28446 : Nat) (s28575 : List (List Int)) (_ : Unit) => [(0, (.int .i64 p_)), (1, (.int .i64 size_)), (7, (g92).v), (10, (.int .i64 s23898_1)), (11, (.int .i64 s23898_2)), (16, (.int .i64 ((k26893 : Nat) : Int))), (17, (.int .i64 a28434)), (113, (.int .i64 ((r26841.length : Nat) : Int))), (114, (.int .i64 ((k26893 : Nat) : Int))), (141, (.int .i64 ((a28442.length : Nat) : Int))), (142, (.int .i64 ((k28446 : Nat) : Int)))]) (fun _ (s28575 : List (List Int)) (_ : Unit) w' => Cx w0 fp0 S0 w' [E (List (List Int)) s28575 g92]) s28062 () e ⟨rfl, rfl, rfl, rfl, rfl, rfl, rfl, rfl, rfl, rfl, rfl, trivial⟩ (H.sel [0] rfl) ?_ ?_
                            · clear H e
                              rintro T28581 k28446 s28575 _ w28580 o28582 hk (H : Cx w0 fp0 S0 w28580 [E (List (List Int)) s28575 g92]) hF28583
                              refine boolE (z := true) (ltLen hk) ?_
                              refine sq ?_
                              refine sq ?_
                              refine heldX H [25] (.fst 0 (.fst 1 (.fst 2 (.fst 4 (.fst 5 (.fst 6 (.fst 7 (.fst 8 (.fst 10 (.fst 13 (.fst 14 (.fst 15 (.fst 16 (.fst 17 (.fst 19 (.fst 3 (.fst 9 (.fst 11 (.fst 12 (.fst 18 (.fst 20 (.fst 21 (.act 22 (.act 23 (.fst 24 (.act 25 .done)))))))))))))))))))))))))) mixed [] trivial (by kernel_rfl) ?_
                              clear H; intro w28584 H
                              have hX : Ext w28584 w28584 := Upd.refl _ _
                              have H0 := H
                              obtain ⟨a28591, e, hF28592⟩ := bindS hF28583; clear hF28583
                              replace H := H.toEH (α := List Int)
                              have HH := H; clear H; obtain ⟨p28589, m28590, h28593, c28585, c28586, c28587, c28588, H⟩ := HH.peekL e; clear HH
                              clear e
                              refine idxE c28585 c28586 c28587 ?_
                              obtain ⟨a28600, e, hF28601⟩ := bindS hF28592; clear hF28592
                              have HH := H; clear H; obtain ⟨p28598, m28599, h28602, c28594, c28595, c28596, c28597, H⟩ := HH.peekL e; clear HH
                              clear e
                              refine idxE c28594 c28595 c28596 ?_
                              obtain ⟨a28609, e, hF28610⟩ := bindS hF28601; clear hF28601
                              have HH := H; clear H; obtain ⟨p28607, m28608, h28611, c28603, c28604, c28605, c28606, H⟩ := HH.peekL e; clear HH
                              clear e
                              refine idxE c28603 c28604 c28605 ?_
                              refine load1X c28588 ?_; clear c28588
                              refine load1X c28597 ?_; clear c28597
                              obtain ⟨a28618, e, hF28619⟩ := bindS hF28610; clear hF28610
                              obtain ⟨p28616, m28617, c28612, c28613, c28614, c28615⟩ := (H.rh (α := List Int) 0 rfl 1 rfl).at1 e; clear e
                              refine idxE c28612 c28613 c28614 ?_; clear c28612 c28613 c28614
                              refine load1X c28615 ?_; clear c28615
                              refine load1X c28606 ?_; clear c28606
                              obtain ⟨a28626, e, hF28627⟩ := bindS hF28619; clear hF28619
                              obtain ⟨p28624, m28625, c28620, c28621, c28622, c28623⟩ := (H.rh (α := List Int) 0 rfl 0 rfl).at1 e; clear e
                              refine idxE c28620 c28621 c28622 ?_; clear c28620 c28621 c28622
                              refine load1X c28623 ?_; clear c28623
                              obtain ⟨y28628, e, hF28629⟩ := bindS hF28627; clear hF28627
                              have ey28628 := e; clear e
                              refine callFx (spec_fdMul_c p_ a28434 a28626 y28628 ey28628) H trivial ?_; clear H ey28628
                              rintro _ _ w28630 ⟨rfl, rfl⟩ hx (H : Cx w0 fp0 S0 w28630 [EH (List Int) s28575 g92 [⟨m28608, a28609, h28611⟩, ⟨m28599, a28600, h28602⟩, ⟨m28590, a28591, h28593⟩]])
                              replace hX := hX.trans0 hx; clear hx
                              refine hold hX ?_
                              obtain ⟨y28631, e, hF28632⟩ := bindS hF28629; clear hF28629
                              have ey28631 := e; clear e
                              refine callFx (spec_fdSub_c p_ a28618 y28628 y28631 ey28631) H trivial ?_; clear H ey28631
                              rintro _ _ w28633 ⟨rfl, rfl⟩ hx (H : Cx w0 fp0 S0 w28633 [EH (List Int) s28575 g92 [⟨m28608, a28609, h28611⟩, ⟨m28599, a28600, h28602⟩, ⟨m28590, a28591, h28593⟩]])
                              replace hX := hX.trans0 hx; clear hx
                              refine hold hX ?_
                              replace H := H.takeK 2 rfl
                              obtain ⟨a28641, e, hF28642⟩ := bindS hF28632; clear hF28632
                              have ea28641 := e; clear e
                              obtain ⟨p28638, m28639, c28634, c28635, c28636⟩ := (H.ro (α := List Int) 0 rfl).setp ea28641
                              refine idxE c28634 c28635 c28636 ?_
                              refine setS (α := Int) H c28634 c28635 ea28641 ?_; clear H c28634 c28635 c28636 ea28641; intro w28643 H
                              obtain ⟨a28644, e, hF28645⟩ := bindS hF28642; clear hF28642
                              replace H := H.put c28586 e; clear e
                              refine hold trivial ?_
                              refine arK hk hmx28445 ?_
                              have hs := Option.some.inj hF28645; subst hs; clear hF28645
                              exact ⟨(), ⟨rfl, rfl, rfl, rfl, rfl, rfl, rfl, rfl, rfl, rfl, rfl, trivial⟩, H.sel [0] rfl⟩
                            · clear H e
                              rintro T28647 _ w28646 (H : Cx w0 fp0 S0 w28646 [E (List (List Int)) r28578 g92])
                              refine boolE (z := false) geLen ?_
                              refine sq ?_
                              exact ⟨r28578, ⟨rfl, rfl, rfl, rfl, rfl, rfl, rfl, trivial⟩, Option.some.inj hF28579, H.sel [0] rfl⟩
                          · have hF28650 := condT hF28390; clear hF28390
                            exact ⟨s28062, ⟨rfl, rfl, rfl, rfl, rfl, rfl, rfl, trivial⟩, Option.some.inj hF28650, H.sel [0] rfl⟩
                      · clear hF28362 H
                        rintro T28652 s28358 w28651 ⟨hr, (H : Cx w0 fp0 S0 w28651 [E (List (List Int)) s28358 g92])⟩
                        subst hr
                        refine arK hk hmx28064 ?_
                        have hs := Option.some.inj hF28361; subst hs; clear hF28361
                        exact ⟨(), ⟨rfl, rfl, rfl, rfl, rfl, rfl, rfl, trivial⟩, H.sel [0] rfl⟩
                    · clear H e
                      rintro T28654 _ w28653 (H : Cx w0 fp0 S0 w28653 [E (List (List Int)) r28065 g92])
                      refine boolE (z := false) geLen ?_
                      refine sq ?_
                      obtain ⟨a28657, e, hF28658⟩ := bindS hF28066; clear hF28066
                      refine arO e ?_; clear e
                      exact ⟨(r28065, a28657), ⟨rfl, rfl, rfl, rfl, rfl, trivial⟩, Option.some.inj hF28658, H.sel [0] rfl⟩
                · have hF28659 := condT hF26683; clear hF26683
                  exact ⟨(s23898_0, s23898_1), ⟨rfl, rfl, rfl, rfl, rfl, trivial⟩, Option.some.inj hF28659, H.sel [0] rfl⟩
            · clear hF26296 H
              rintro T28661 ⟨s26292_0, s26292_1⟩ w28660 ⟨hr, (H : Cx w0 fp0 S0 w28660 [E (List (List Int)) s26292_0 g92])⟩
              subst hr
              obtain ⟨a28662, e, hF28663⟩ := bindS hF26295; clear hF26295
              refine arO e ?_; clear e
              have hs := Option.some.inj hF28663; subst hs; clear hF28663
              exact ⟨(s26292_0, s26292_1, a28662), (), rfl, ⟨rfl, rfl, rfl, rfl, rfl, trivial⟩, H.sel [0] rfl⟩
    · clear hF14380 H
      rintro T28665 ⟨s14376_0, s14376_1⟩ w28664 ⟨hr, (H : Cx w0 fp0 S0 w28664 [E (List (List Int)) s14376_0 g92])⟩
      subst hr
      obtain ⟨a28666, e, hF28667⟩ := bindS hF14379; clear hF14379
      refine slO (α := List Int) gok rfl rfl H e rfl rfl ?_; clear e H; intro h28668 H
      cases hF28667
      exact ⟨_, _, rfl, ⟨h28668, rfl, rfl⟩, (H.sel [0] rfl).close ⟨cloE, trivial⟩⟩

theorem spec_spSum_c (p_ : Int) (size_ : Int) (rows_ : List (List Int)) (rows_h : Hd) (coefs_ : List Int) (coefs_h : Hd) (y : List Int) (hF : F_spec_spSum p_ size_ rows_ coefs_ = some y) :
    ConF Tryd.prog 151 #[(.int .i64 p_), (.int .i64 size_), (rows_h).v, (coefs_h).v] [Es (List (List Int)) rows_ rows_h, Es (List Int) coefs_ coefs_h] [] (fun v Γ' => ∃ z0 : Hd, v = (z0).v ∧ Γ' = [E (List Int) y z0]) := by
  intro w0 S0 fp0 hI hS
  have H : Cx w0 fp0 S0 w0 [Es (List (List Int)) rows_ rows_h, Es (List Int) coefs_ coefs_h] := Cx.start hI hS
  clear hI hS
  refine enterC (args := [_, _, _, _]) gok Tryd.func151 rfl _ rfl rfl rfl ?_
  obtain ⟨a3, e, hF4⟩ := bindS hF; clear hF
  refine make_ (α := Int) gok rfl rfl rfl rfl (makeCO_of e) H ?_; clear e H; intro h6 w5 hx H
  clear hx
  refine sq ?_
  refine lenE (H.rs (α := List (List Int)) 1 rfl).len ?_
  have hmx311 := (H.rs (α := List (List Int)) 1 rfl).max
  obtain ⟨r312, e, hF313⟩ := bindS hF4; clear hF4
  refine loopS _ rows_.length (fun (k8 : Nat) (s309 : List Int) (_ : Unit) => [(0, (.int .i64 p_)), (3, (coefs_h).v), (9, (h6).v), (16, (rows_h).v), (17, (.int .i64 ((rows_.length : Nat) : Int))), (18, (.int .i64 ((k8 : Nat) : Int)))]) (fun _ (s309 : List Int) (_ : Unit) w' => Cx w0 fp0 S0 w' [Es (List Int) coefs_ coefs_h, E (List Int) s309 h6, Es (List (List Int)) rows_ rows_h]) a3 () e ⟨rfl, rfl, rfl, rfl, rfl, rfl, trivial⟩ (H.sel [2, 0, 1] rfl) ?_ ?_
  · clear H e
    rintro T315 k8 s309 _ w314 o316 hk (H : Cx w0 fp0 S0 w314 [Es (List Int) coefs_ coefs_h, E (List Int) s309 h6, Es (List (List Int)) rows_ rows_h]) hF317
    refine boolE (z := true) (ltLen hk) ?_
    refine sq ?_
    refine sq ?_
    obtain ⟨a324, e, hF325⟩ := bindS hF317; clear hF317
    have HH := H; clear H; obtain ⟨p322, m323, h326, c318, c319, c320, c321, H⟩ := HH.elL 2 rfl e; clear HH
    clear e
    refine idxE c318 c319 c320 ?_; clear c318 c319 c320
    refine load1 c321 ?_; clear c321
    refine lenE (H.rs (α := List Int) 0 rfl).len ?_
    have hmx415 := (H.rs (α := List Int) 0 rfl).max
    obtain ⟨r416, e, hF417⟩ := bindS hF325; clear hF325
    refine loopS _ a324.length (fun (k328 : Nat) (s413 : List Int) (_ : Unit) => [(0, (.int .i64 p_)), (3, (coefs_h).v), (9, (h6).v), (10, (.int .i64 ((k8 : Nat) : Int))), (16, (rows_h).v), (17, (.int .i64 ((rows_.length : Nat) : Int))), (18, (.int .i64 ((k8 : Nat) : Int))), (23, (h326).v), (24, (.int .i64 ((a324.length : Nat) : Int))), (25, (.int .i64 ((k328 : Nat) : Int)))]) (fun _ (s413 : List Int) (_ : Unit) w' => Cx w0 fp0 S0 w' [Es (List Int) coefs_ coefs_h, E (List Int) s413 h6, Es (List (List Int)) rows_ rows_h, Es (List Int) a324 h326]) s309 () e ⟨rfl, rfl, rfl, rfl, rfl, rfl, rfl, rfl, rfl, rfl, trivial⟩ (H.sel [1, 2, 3, 0] rfl) ?_ ?_
    · clear H e
      rintro T419 k328 s413 _ w418 o420 hk (H : Cx w0 fp0 S0 w418 [Es (List Int) coefs_ coefs_h, E (List Int) s413 h6, Es (List (List Int)) rows_ rows_h, Es (List Int) a324 h326]) hF421
      refine boolE (z := true) (ltLen hk) ?_
      refine sq ?_
      refine sq ?_
      obtain ⟨a428, e, hF429⟩ := bindS hF421; clear hF421
      obtain ⟨p426, m427, c422, c423, c424, c425⟩ := (H.rs (α := List Int) 3 rfl).at1 e; clear e
      refine idxE c422 c423 c424 ?_; clear c422 c423 c424
      refine load1 c425 ?_; clear c425
      refine heldX H [16] (.fst 0 (.fst 1 (.fst 2 (.fst 3 (.fst 4 (.fst 6 (.fst 7 (.fst 8 (.fst 10 (.fst 13 (.fst 5 (.fst 9 (.fst 11 (.fst 12 (.fst 14 (.fst 15 (.act 16 .done))))))))))))))))) mixed [] trivial (by kernel_rfl) ?_
      clear H; intro w430 H
      have hX : Ext w430 w430 := Upd.refl _ _
      have H0 := H
      obtain ⟨a437, e, hF438⟩ := bindS hF429; clear hF429
      obtain ⟨p435, m436, c431, c432, c433, c434⟩ := (H.ro (α := List Int) 1 rfl).at1 e; clear e
      refine idxE c431 c432 c433 ?_; clear c431 c432 c433
      obtain ⟨a445, e, hF446⟩ := bindS hF438; clear hF438
      obtain ⟨p443, m444, c439, c440, c441, c442⟩ := (H.rs (α := List Int) 0 rfl).at1 e; clear e
      refine idxE c439 c440 c441 ?_; clear c439 c440 c441
      refine load1X c434 ?_; clear c434
      refine load1X c442 ?_; clear c442
      obtain ⟨a447, e, hF448⟩ := bindS hF446; clear hF446
      refine arO e ?_; clear e
      obtain ⟨a449, e, hF450⟩ := bindS hF448; clear hF448
      refine arO e ?_; clear e
      obtain ⟨a451, e, hF452⟩ := bindS hF450; clear hF450
      refine remO_ e ?_; clear e
      obtain ⟨a459, e, hF460⟩ := bindS hF452; clear hF452
      have ea459 := e; clear e
      obtain ⟨p457, m458, c453, c454, c455⟩ := (H.ro (α := List Int) 1 rfl).setp ea459
      refine idxE c453 c454 c455 ?_
      replace H := H.sel [1, 0, 2, 3] rfl
      refine setS (α := Int) H c453 c454 ea459 ?_; clear H c453 c454 c455 ea459; intro w461 H
      refine hold trivial ?_
      refine arK hk hmx415 ?_
      have hs := Option.some.inj hF460; subst hs; clear hF460
      exact ⟨(), ⟨rfl, rfl, rfl, rfl, rfl, rfl, rfl, rfl, rfl, rfl, trivial⟩, H.sel [1, 0, 2, 3] rfl⟩
    · clear H e
      rintro T463 _ w462 (H : Cx w0 fp0 S0 w462 [Es (List Int) coefs_ coefs_h, E (List Int) r416 h6, Es (List (List Int)) rows_ rows_h, Es (List Int) a324 h326])
      refine boolE (z := false) geLen ?_
      refine sq ?_
      refine arK hk hmx311 ?_
      have hs := Option.some.inj hF417; subst hs; clear hF417
      exact ⟨(), ⟨rfl, rfl, rfl, rfl, rfl, rfl, trivial⟩, H.sel [0, 1, 2] rfl⟩
  · clear H e
    rintro T467 _ w466 (H : Cx w0 fp0 S0 w466 [Es (List Int) coefs_ coefs_h, E (List Int) r312 h6, Es (List (List Int)) rows_ rows_h])
    refine boolE (z := false) geLen ?_
    refine sq ?_
    cases hF313
    exact ⟨_, _, rfl, ⟨h6, rfl, rfl⟩, (H.sel [1] rfl).close ⟨cloE, trivial⟩⟩

theorem spec_ssTimes_c (p_ : Int) (cols_ : Int) (rows_ : List (List Int)) (rows_h : Hd) (m_ : List (List Int)) (m_h : Hd) (y : List (List Int)) (hF : F_spec_ssTimes p_ cols_ rows_ m_ = some y) :
    ConF Tryd.prog 121 #[(.int .i64 p_), (.int .i64 cols_), (rows_h).v, (m_h).v] [Es (List (List Int)) rows_ rows_h, Es (List (List Int)) m_ m_h] [] (fun v Γ' => ∃ z0 : Hd, v = (z0).v ∧ Γ' = [E (List (List Int)) y z0]) := by
  intro w0 S0 fp0 hI hS
  have H : Cx w0 fp0 S0 w0 [Es (List (List Int)) rows_ rows_h, Es (List (List Int)) m_ m_h] := Cx.start hI hS
  clear hI hS
  refine enterC (args := [_, _, _, _]) gok Tryd.func121 rfl _ rfl rfl rfl ?_
  refine sq ?_
  refine lenE (H.rs (α := List (List Int)) 0 rfl).len ?_
  have hmx59 := (H.rs (α := List (List Int)) 0 rfl).max
  obtain ⟨r60, e, hF61⟩ := bindS hF; clear hF
  replace H := H.nil (α := List Int)
  refine loopS _ rows_.length (fun (k3 : Nat) (s56 : List (List Int)) (g57 : Hd) => [(0, (.int .i64 p_)), (1, (.int .i64 cols_)), (3, (m_h).v), (9, (g57).v), (12, (rows_h).v), (13, (.int .i64 ((rows_.length : Nat) : Int))), (14, (.int .i64 ((k3 : Nat) : Int)))]) (fun _ (s56 : List (List Int)) (g57 : Hd) w' => Cx w0 fp0 S0 w' [Es (List (List Int)) m_ m_h, E (List (List Int)) s56 g57, Es (List (List Int)) rows_ rows_h]) [] nilH e ⟨rfl, rfl, rfl, rfl, rfl, rfl, rfl, trivial⟩ (H.sel [2, 0, 1] rfl) ?_ ?_
  · clear H e
    rintro T64 k3 s56 g57 w63 o65 hk (H : Cx w0 fp0 S0 w63 [Es (List (List Int)) m_ m_h, E (List (List Int)) s56 g57, Es (List (List Int)) rows_ rows_h]) hF66
    refine boolE (z := true) (ltLen hk) ?_
    refine sq ?_
    refine sq ?_
    obtain ⟨a73, e, hF74⟩ := bindS hF66; clear hF66
    have HH := H; clear H; obtain ⟨p71, m72, h75, c67, c68, c69, c70, H⟩ := HH.elL 2 rfl e; clear HH
    clear e
    refine idxE c67 c68 c69 ?_; clear c67 c68 c69
    refine load1 c70 ?_; clear c70
    obtain ⟨y77, e, hF78⟩ := bindS hF74; clear hF74
    have ey77 := e; clear e
    refine callF (spec_spSum_c p_ cols_ m_ m_h a73 h75 y77 ey77) (Γi := []) H ⟨Vw.sh 1 rfl, Vw.sh 0 rfl, trivial⟩ ?_; clear H ey77
    rintro _ _ w79 ⟨h80, rfl, rfl⟩ (H : Cx w0 fp0 S0 w79 [E (List Int) y77 h80, Es (List Int) a73 h75, Es (List (List Int)) m_ m_h, E (List (List Int)) s56 g57, Es (List (List Int)) rows_ rows_h])
    refine lit1 (α := List Int) (g := h80) gok rfl rfl rfl rfl rfl H ?_; clear H; intro h83 w82 hx H
    clear hx
    obtain ⟨a85, e, hF86⟩ := bindS hF78; clear hF78
    replace H := H.sel [3, 0, 1, 2, 4] rfl
    refine append_ (α := List Int) gok rfl rfl rfl rfl H e ?_; clear e H; intro h88 w87 H
    refine arK hk hmx59 ?_
    have hs := Option.some.inj hF86; subst hs; clear hF86
    exact ⟨h88, ⟨rfl, rfl, rfl, rfl, rfl, rfl, rfl, trivial⟩, H.sel [2, 0, 3] rfl⟩
  · clear H e
    rintro T91 g93 w90 (H : Cx w0 fp0 S0 w90 [Es (List (List Int)) m_ m_h, E (List (List Int)) r60 g93, Es (List (List Int)) rows_ rows_h])
    refine boolE (z := false) geLen ?_
    refine sq ?_
    cases hF61
    exact ⟨_, _, rfl, ⟨g93, rfl, rfl⟩, (H.sel [1] rfl).close ⟨cloE, trivial⟩⟩

theorem spec_spJoin_c (a_ : List (List Int)) (a_h : Hd) (b_ : List (List Int)) (b_h : Hd) (y : List (List Int)) (hF : F_spec_spJoin a_ b_ = some y) :
    ConS Tryd.prog 141 #[(a_h).v, (b_h).v] [Es (List (List Int)) a_ a_h, Es (List (List Int)) b_ b_h] [] (fun v Γ' => ∃ z0 : Hd, v = (z0).v ∧ Γ' = [Es (List (List Int)) y z0]) := by
  intro w0 S0 fp0 hI hS
  have H : Cx w0 fp0 S0 w0 [Es (List (List Int)) a_ a_h, Es (List (List Int)) b_ b_h] := Cx.start hI hS
  clear hI hS
  refine enterC (args := [_, _]) gok Tryd.func141 rfl _ rfl rfl rfl ?_
  refine lit0 (α := List Int) gok rfl rfl H ?_; clear H; intro h4 w3 hx H
  clear hx
  obtain ⟨a6, e, hF7⟩ := bindS hF; clear hF
  replace H := H.frzE (α := List Int)
  refine appendSh (α := List Int) gok rfl rfl rfl rfl rfl H 0 rfl e ?_; clear e H; intro h9 w8 H
  obtain ⟨a11, e, hF12⟩ := bindS hF7; clear hF7
  refine appendSh (α := List Int) gok rfl rfl rfl rfl rfl H 1 rfl e ?_; clear e H; intro h14 w13 H
  replace H := Cx.reS (e' := Es (List (List Int)) a11 h14) rfl H.frz
  cases hF12
  exact ⟨_, _, rfl, ⟨h14, rfl, rfl⟩, (H.sel [0] rfl)⟩

theorem spec_ssReach_c (p_ : Int) (s__0 : Int) (s__1 : Int) (s__2 : Int) (s__3 : List (List Int)) (s__3h : Hd) (s__4 : List (List Int)) (s__4h : Hd) (s__5 : List (List Int)) (s__5h : Hd) (s__6 : List (List Int)) (s__6h : Hd) (y : List (List Int)) (hF : F_spec_ssReach p_ (s__0, s__1, s__2, s__3, s__4, s__5, s__6) = some y) :
    ConF Tryd.prog 76 #[(.int .i64 p_), (.agg #[(.int .i64 s__0), (.int .i64 s__1), (.int .i64 s__2), (s__3h).v, (s__4h).v, (s__5h).v, (s__6h).v])] [Es (List (List Int)) s__3 s__3h, Es (List (List Int)) s__4 s__4h, Es (List (List Int)) s__5 s__5h, Es (List (List Int)) s__6 s__6h] [] (fun v Γ' => ∃ z0 : Hd, v = (z0).v ∧ Γ' = [E (List (List Int)) y z0]) := by
  intro w0 S0 fp0 hI hS
  have H : Cx w0 fp0 S0 w0 [Es (List (List Int)) s__3 s__3h, Es (List (List Int)) s__4 s__4h, Es (List (List Int)) s__5 s__5h, Es (List (List Int)) s__6 s__6h] := Cx.start hI hS
  clear hI hS
  refine enterC (args := [_, _]) gok Tryd.func76 rfl _ rfl rfl rfl ?_
  refine box_ H ?_; clear H; intro b6 w5 hx H
  clear hx
  replace H : Cx w0 fp0 S0 w5 [Bx b6 [(.int .i64 s__0), (.int .i64 s__1), (.int .i64 s__2), (s__3h).v, (s__4h).v, (s__5h).v, (s__6h).v], Es (List (List Int)) s__3 s__3h, Es (List (List Int)) s__4 s__4h, Es (List (List Int)) s__5 s__5h, Es (List (List Int)) s__6 s__6h] := H
  refine fld gok rfl rfl rfl rfl ?_
  refine load1 (H.bx 0 rfl (j := 0) rfl) ?_
  refine fld gok rfl rfl rfl rfl ?_
  refine load1 (H.bx 0 rfl (j := 4) rfl) ?_
  obtain ⟨y8, e, hF9⟩ := bindS hF; clear hF
  have ey8 := e; clear e
  refine callF (spec_spReduce_c p_ s__0 s__4 s__4h y8 ey8) (Γi := []) H ⟨Vw.sh 2 rfl, trivial⟩ ?_; clear H ey8
  rintro _ _ w10 ⟨h11, rfl, rfl⟩ (H : Cx w0 fp0 S0 w10 [E (List (List Int)) y8 h11, Bx b6 [(.int .i64 s__0), (.int .i64 s__1), (.int .i64 s__2), (s__3h).v, (s__4h).v, (s__5h).v, (s__6h).v], Es (List (List Int)) s__3 s__3h, Es (List (List Int)) s__4 s__4h, Es (List (List Int)) s__5 s__5h, Es (List (List Int)) s__6 s__6h])
  refine loopW _ (fun (s76 : List (List Int)) (g77 : Hd) => [(0, (.int .i64 p_)), (3, (.pointer (some ⟨b6, 0, none⟩))), (5, (g77).v)]) (fun (s76 : List (List Int)) (g77 : Hd) w' => Cx w0 fp0 S0 w' [Bx b6 [(.int .i64 s__0), (.int .i64 s__1), (.int .i64 s__2), (s__3h).v, (s__4h).v, (s__5h).v, (s__6h).v], Es (List (List Int)) s__3 s__3h, Es (List (List Int)) s__4 s__4h, Es (List (List Int)) s__5 s__5h, Es (List (List Int)) s__6 s__6h, E (List (List Int)) s76 g77]) y8 h11 hF9 ⟨rfl, rfl, rfl, trivial⟩ (H.sel [1, 2, 3, 4, 5, 0] rfl) ?_
  · clear H
    rintro T83 s76 g77 w82 o84 (H : Cx w0 fp0 S0 w82 [Bx b6 [(.int .i64 s__0), (.int .i64 s__1), (.int .i64 s__2), (s__3h).v, (s__4h).v, (s__5h).v, (s__6h).v], Es (List (List Int)) s__3 s__3h, Es (List (List Int)) s__4 s__4h, Es (List (List Int)) s__5 s__5h, Es (List (List Int)) s__6 s__6h, E (List (List Int)) s76 g77]) hrt hF85
    refine heldX H [] (.fst 0 (.fst 1 (.fst 3 (.fst 4 (.fst 5 (.fst 7 (.fst 8 (.fst 2 (.fst 6 (.fst 9 (.act 10 (.act 11 (.act 12 (.fst 13 .done)))))))))))))) mixed [] trivial (by kernel_rfl) ?_
    clear H; intro w86 H
    have hX : Ext w86 w86 := Upd.refl _ _
    have H0 := H
    refine anyH (fun _ => fld gok rfl rfl rfl rfl ⟨rfl, rfl⟩) ?_
    refine anyH (fun _ => fld gok rfl rfl rfl rfl ⟨rfl, rfl⟩) ?_
    refine anyH (fun _ => fld gok rfl rfl rfl rfl ⟨rfl, rfl⟩) ?_
    refine load1X (H.bx 0 rfl (j := 0) rfl) ?_
    refine load1X (H.bx 0 rfl (j := 0) rfl) ?_
    refine load1X (H.bx 0 rfl (j := 3) rfl) ?_
    obtain ⟨y87, e, hF88⟩ := bindS hF85; clear hF85
    have ey87 := e; clear e
    refine callFx (spec_ssTimes_c p_ s__0 s76 g77 s__3 s__3h y87 ey87) H ⟨Vw.own 5 rfl, Vw.sh 1 rfl, trivial⟩ ?_; clear H ey87
    rintro _ _ w89 ⟨h90, rfl, rfl⟩ hx (H : Cx w0 fp0 S0 w89 [E (List (List Int)) y87 h90, Bx b6 [(.int .i64 s__0), (.int .i64 s__1), (.int .i64 s__2), (s__3h).v, (s__4h).v, (s__5h).v, (s__6h).v], Es (List (List Int)) s__3 s__3h, Es (List (List Int)) s__4 s__4h, Es (List (List Int)) s__5 s__5h, Es (List (List Int)) s__6 s__6h, E (List (List Int)) s76 g77])
    replace hX := hX.trans0 hx; clear hx
    refine hold hX ?_
    obtain ⟨y92, e, hF93⟩ := bindS hF88; clear hF88
    have ey92 := e; clear e
    obtain ⟨S100, hl101, hc102⟩ := H.lend (Γs := [Es (List (List Int)) y87 h90, Es (List (List Int)) s__3 s__3h, Es (List (List Int)) s__4 s__4h, Es (List (List Int)) s__5 s__5h, Es (List (List Int)) s__6 s__6h, Es (List (List Int)) s76 g77]) ⟨Vw.own 0 rfl, Vw.sh 2 rfl, Vw.sh 3 rfl, Vw.sh 4 rfl, Vw.sh 5 rfl, Vw.own 6 rfl, trivial⟩; clear H; have H := hl101; clear hl101
    refine callSx (spec_spJoin_c s76 g77 y87 h90 y92 ey92) H [5, 0] rfl (persC persS (persC persS persN)) ?_; clear H ey92
    rintro _ _ w103 ⟨h104, rfl, rfl⟩ hx (H : Cx w89 [] S100 w103 [Es (List (List Int)) y92 h104, Es (List (List Int)) y87 h90, Es (List (List Int)) s__3 s__3h, Es (List (List Int)) s__4 s__4h, Es (List (List Int)) s__5 s__5h, Es (List (List Int)) s__6 s__6h, Es (List (List Int)) s76 g77])
    replace hX := hX.trans0 hx; clear hx
    refine hold hX ?_
    obtain ⟨y106, e, hF107⟩ := bindS hF93; clear hF93
    have ey106 := e; clear e
    refine callFx (spec_spReduce_c p_ s__0 y92 h104 y106 ey106) H ⟨Vw.sh 0 rfl, trivial⟩ ?_; clear H ey106
    rintro _ _ w108 ⟨h109, rfl, rfl⟩ hx (H : Cx w89 [] S100 w108 [E (List (List Int)) y106 h109, Es (List (List Int)) y92 h104, Es (List (List Int)) y87 h90, Es (List (List Int)) s__3 s__3h, Es (List (List Int)) s__4 s__4h, Es (List (List Int)) s__5 s__5h, Es (List (List Int)) s__6 s__6h, Es (List (List Int)) s76 g77])
    replace hX := hX.trans0 hx; clear hx
    replace H : Cx w0 fp0 S0 w108 [E (List (List Int)) y106 h109, E (List (List Int)) y87 h90, Bx b6 [(.int .i64 s__0), (.int .i64 s__1), (.int .i64 s__2), (s__3h).v, (s__4h).v, (s__5h).v, (s__6h).v], Es (List (List Int)) s__3 s__3h, Es (List (List Int)) s__4 s__4h, Es (List (List Int)) s__5 s__5h, Es (List (List Int)) s__6 s__6h, E (List (List Int)) s76 g77] := hc102 _ _ ((H.sel [0] rfl).close ⟨cloE, trivial⟩); clear hc102
    refine hold hX ?_
    refine sq ?_
    refine lenE (H.ro (α := List (List Int)) 0 rfl).len ?_
    refine lenE (H.ro (α := List (List Int)) 7 rfl).len ?_
    obtain ⟨a111, e, hF112⟩ := bindS hF107; clear hF107
    refine boolO e ?_; clear e
    cases a111
    · have hF113 := condF hF112; clear hF112
      have hs := Option.some.inj hF113; subst hs; clear hF113
      exact ⟨y106, h109, rfl, ⟨rfl, rfl, rfl, trivial⟩, H.sel [2, 3, 4, 5, 6, 0] rfl⟩
    · have hF114 := condT hF112; clear hF112
      have hs := Option.some.inj hF114; subst hs; clear hF114
      have hF115 : some _ = some _ := congrArg some (hrt _ rfl).symm
      cases hF115
      exact ⟨_, _, rfl, ⟨g77, rfl, rfl⟩, (H.sel [7] rfl).close ⟨cloE, trivial⟩⟩

theorem spec_ssCopy_c (m_ : List (List Int)) (m_h : Hd) (y : List (List Int)) (hF : F_spec_ssCopy m_ = some y) :
    ConF Tryd.prog 120 #[(m_h).v] [Es (List (List Int)) m_ m_h] [] (fun v Γ' => ∃ z0 : Hd, v = (z0).v ∧ Γ' = [E (List (List Int)) y z0]) := by
  intro w0 S0 fp0 hI hS
  have H : Cx w0 fp0 S0 w0 [Es (List (List Int)) m_ m_h] := Cx.start hI hS
  clear hI hS
  refine enterC (args := [_]) gok Tryd.func120 rfl _ rfl rfl rfl ?_
  refine sq ?_
  refine lenE (H.rs (α := List (List Int)) 0 rfl).len ?_
  have hmx58 := (H.rs (α := List (List Int)) 0 rfl).max
  obtain ⟨r59, e, hF60⟩ := bindS hF; clear hF
  replace H := H.nil (α := List Int)
  refine loopS _ m_.length (fun (k2 : Nat) (s55 : List (List Int)) (g56 : Hd) => [(3, (g56).v), (6, (m_h).v), (7, (.int .i64 ((m_.length : Nat) : Int))), (8, (.int .i64 ((k2 : Nat) : Int)))]) (fun _ (s55 : List (List Int)) (g56 : Hd) w' => Cx w0 fp0 S0 w' [E (List (List Int)) s55 g56, Es (List (List Int)) m_ m_h]) [] nilH e ⟨rfl, rfl, rfl, rfl, trivial⟩ (H.sel [0, 1] rfl) ?_ ?_
  · clear H e
    rintro T63 k2 s55 g56 w62 o64 hk (H : Cx w0 fp0 S0 w62 [E (List (List Int)) s55 g56, Es (List (List Int)) m_ m_h]) hF65
    refine boolE (z := true) (ltLen hk) ?_
    refine sq ?_
    refine sq ?_
    obtain ⟨a72, e, hF73⟩ := bindS hF65; clear hF65
    have HH := H; clear H; obtain ⟨p70, m71, h74, c66, c67, c68, c69, H⟩ := HH.elL 1 rfl e; clear HH
    clear e
    refine idxE c66 c67 c68 ?_; clear c66 c67 c68
    refine load1 c69 ?_; clear c69
    obtain ⟨y76, e, hF77⟩ := bindS hF73; clear hF73
    have ey76 := e; clear e
    refine callF (spec_l1Own_c a72 h74 y76 ey76) (Γi := []) H ⟨Vw.sh 0 rfl, trivial⟩ ?_; clear H ey76
    rintro _ _ w78 ⟨h79, rfl, rfl⟩ (H : Cx w0 fp0 S0 w78 [E (List Int) y76 h79, Es (List Int) a72 h74, E (List (List Int)) s55 g56, Es (List (List Int)) m_ m_h])
    refine lit1 (α := List Int) (g := h79) gok rfl rfl rfl rfl rfl H ?_; clear H; intro h82 w81 hx H
    clear hx
    obtain ⟨a84, e, hF85⟩ := bindS hF77; clear hF77
    replace H := H.sel [2, 0, 1, 3] rfl
    refine append_ (α := List Int) gok rfl rfl rfl rfl H e ?_; clear e H; intro h87 w86 H
    refine arK hk hmx58 ?_
    have hs := Option.some.inj hF85; subst hs; clear hF85
    exact ⟨h87, ⟨rfl, rfl, rfl, rfl, trivial⟩, H.sel [0, 2] rfl⟩
  · clear H e
    rintro T90 g92 w89 (H : Cx w0 fp0 S0 w89 [E (List (List Int)) r59 g92, Es (List (List Int)) m_ m_h])
    refine boolE (z := false) geLen ?_
    refine sq ?_
    cases hF60
    exact ⟨_, _, rfl, ⟨g92, rfl, rfl⟩, (H.sel [0] rfl).close ⟨cloE, trivial⟩⟩

theorem spec_spLead_c (v_ : List Int) (v_h : Hd) (y : Int) (hF : F_spec_spLead v_ = some y) :
    ConF Tryd.prog 155 #[(v_h).v] [Es (List Int) v_ v_h] [] (fun v Γ' => v = (.int .i64 y) ∧ Γ' = []) := by
  intro w0 S0 fp0 hI hS
  have H : Cx w0 fp0 S0 w0 [Es (List Int) v_ v_h] := Cx.start hI hS
  clear hI hS
  refine enterC (args := [_]) gok Tryd.func155 rfl _ rfl rfl rfl ?_
  obtain ⟨r138, hF140, hF139⟩ := bindS hF; clear hF
  refine cut (fun (q141 : Int) => [(3, (.int .i64 q141))]) (fun (q141 : Int) w' => q141 = r138 ∧ Cx w0 fp0 S0 w' []) ?_ ?_
  · skip
    refine loopW _ (fun (s226 : Int) (_ : Unit) => [(0, (v_h).v), (3, (.int .i64 s226))]) (fun (s226 : Int) (_ : Unit) w' => Cx w0 fp0 S0 w' [Es (List Int) v_ v_h]) 0 () hF140 ⟨rfl, rfl, trivial⟩ (H.sel [0] rfl) ?_
    · clear H
      rintro T232 s226 _ w231 o233 (H : Cx w0 fp0 S0 w231 [Es (List Int) v_ v_h]) hrt hF234
      refine sq ?_
      obtain ⟨r251, hF253, hF252⟩ := bindS hF234; clear hF234
      refine cut (fun (q254 : Bool) => [(0, (v_h).v), (3, (.int .i64 s226)), (14, (.bool q254))]) (fun (q254 : Bool) w' => q254 = r251 ∧ Cx w0 fp0 S0 w' [Es (List Int) v_ v_h]) ?_ ?_
      · skip
        refine lenE (H.rs (α := List Int) 0 rfl).len ?_
        obtain ⟨a255, e, hF256⟩ := bindS hF253; clear hF253
        refine boolO e ?_; clear e
        cases a255
        · have hF257 := condF hF256; clear hF256
          exact ⟨false, ⟨rfl, rfl, rfl, trivial⟩, Option.some.inj hF257, H.sel [0] rfl⟩
        · have hF258 := condT hF256; clear hF256
          obtain ⟨a265, e, hF266⟩ := bindS hF258; clear hF258
          obtain ⟨p263, m264, c259, c260, c261, c262⟩ := (H.rs (α := List Int) 0 rfl).at1 e; clear e
          refine idxE c259 c260 c261 ?_; clear c259 c260 c261
          refine load1 c262 ?_; clear c262
          obtain ⟨a267, e, hF268⟩ := bindS hF266; clear hF266
          refine boolO e ?_; clear e
          exact ⟨a267, ⟨rfl, rfl, rfl, trivial⟩, Option.some.inj hF268, H.sel [0] rfl⟩
      · clear hF253 H
        rintro T270 s249 w269 ⟨hr, (H : Cx w0 fp0 S0 w269 [Es (List Int) v_ v_h])⟩
        subst hr
        cases s249
        · have hF271 := condF hF252; clear hF252
          have hs := Option.some.inj hF271; subst hs; clear hF271
          have hF272 : some _ = some _ := congrArg some (hrt _ rfl).symm
          exact ⟨s226, ⟨rfl, trivial⟩, Option.some.inj hF272, H.sel [] rfl⟩
        · have hF273 := condT hF252; clear hF252
          obtain ⟨a274, e, hF275⟩ := bindS hF273; clear hF273
          refine arO e ?_; clear e
          have hs := Option.some.inj hF275; subst hs; clear hF275
          exact ⟨a274, (), rfl, ⟨rfl, rfl, trivial⟩, H.sel [0] rfl⟩
  · clear hF140 H
    rintro T277 s136 w276 ⟨hr, (H : Cx w0 fp0 S0 w276 [])⟩
    subst hr
    cases hF139
    exact ⟨_, _, rfl, ⟨rfl, rfl⟩, (H.sel [] rfl).close trivial⟩

theorem spec_spCoords_c (basis_ : List (List Int)) (basis_h : Hd) (v_ : List Int) (v_h : Hd) (y : List Int) (hF : F_spec_spCoords basis_ v_ = some y) :
    ConF Tryd.prog 152 #[(basis_h).v, (v_h).v] [Es (List (List Int)) basis_ basis_h, Es (List Int) v_ v_h] [] (fun v Γ' => ∃ z0 : Hd, v = (z0).v ∧ Γ' = [E (List Int) y z0]) := by
  intro w0 S0 fp0 hI hS
  have H : Cx w0 fp0 S0 w0 [Es (List (List Int)) basis_ basis_h, Es (List Int) v_ v_h] := Cx.start hI hS
  clear hI hS
  refine enterC (args := [_, _]) gok Tryd.func152 rfl _ rfl rfl rfl ?_
  refine sq ?_
  refine lenE (H.rs (α := List (List Int)) 0 rfl).len ?_
  have hmx71 := (H.rs (α := List (List Int)) 0 rfl).max
  obtain ⟨r72, e, hF73⟩ := bindS hF; clear hF
  replace H := H.nil (α := Int)
  refine loopS _ basis_.length (fun (k3 : Nat) (s68 : List Int) (g69 : Hd) => [(1, (v_h).v), (5, (g69).v), (8, (basis_h).v), (9, (.int .i64 ((basis_.length : Nat) : Int))), (10, (.int .i64 ((k3 : Nat) : Int)))]) (fun _ (s68 : List Int) (g69 : Hd) w' => Cx w0 fp0 S0 w' [Es (List Int) v_ v_h, E (List Int) s68 g69, Es (List (List Int)) basis_ basis_h]) [] nilH e ⟨rfl, rfl, rfl, rfl, rfl, trivial⟩ (H.sel [2, 0, 1] rfl) ?_ ?_
  · clear H e
    rintro T76 k3 s68 g69 w75 o77 hk (H : Cx w0 fp0 S0 w75 [Es (List Int) v_ v_h, E (List Int) s68 g69, Es (List (List Int)) basis_ basis_h]) hF78
    refine boolE (z := true) (ltLen hk) ?_
    refine sq ?_
    refine sq ?_
    obtain ⟨a85, e, hF86⟩ := bindS hF78; clear hF78
    have HH := H; clear H; obtain ⟨p83, m84, h87, c79, c80, c81, c82, H⟩ := HH.elL 2 rfl e; clear HH
    clear e
    refine idxE c79 c80 c81 ?_; clear c79 c80 c81
    refine load1 c82 ?_; clear c82
    obtain ⟨y89, e, hF90⟩ := bindS hF86; clear hF86
    have ey89 := e; clear e
    refine callF (spec_spLead_c a85 h87 y89 ey89) (Γi := []) H ⟨Vw.sh 0 rfl, trivial⟩ ?_; clear H ey89
    rintro _ _ w91 ⟨rfl, rfl⟩ (H : Cx w0 fp0 S0 w91 [Es (List Int) a85 h87, Es (List Int) v_ v_h, E (List Int) s68 g69, Es (List (List Int)) basis_ basis_h])
    obtain ⟨a98, e, hF99⟩ := bindS hF90; clear hF90
    obtain ⟨p96, m97, c92, c93, c94, c95⟩ := (H.rs (α := List Int) 1 rfl).at1 e; clear e
    refine idxE c92 c93 c94 ?_; clear c92 c93 c94
    refine load1 c95 ?_; clear c95
    refine lit1S (α := Int) gok rfl rfl rfl rfl H ?_; clear H; intro h101 w100 hx H
    clear hx
    obtain ⟨a103, e, hF104⟩ := bindS hF99; clear hF99
    replace H := H.sel [3, 0, 1, 2, 4] rfl
    refine append_ (α := Int) gok rfl rfl rfl rfl H e ?_; clear e H; intro h106 w105 H
    refine arK hk hmx71 ?_
    have hs := Option.some.inj hF104; subst hs; clear hF104
    exact ⟨h106, ⟨rfl, rfl, rfl, rfl, rfl, trivial⟩, H.sel [2, 0, 3] rfl⟩
  · clear H e
    rintro T109 g111 w108 (H : Cx w0 fp0 S0 w108 [Es (List Int) v_ v_h, E (List Int) r72 g111, Es (List (List Int)) basis_ basis_h])
    refine boolE (z := false) geLen ?_
    refine sq ?_
    cases hF73
    exact ⟨_, _, rfl, ⟨g111, rfl, rfl⟩, (H.sel [1] rfl).close ⟨cloE, trivial⟩⟩

theorem spec_ssReached_c (p_ : Int) (s__0 : Int) (s__1 : Int) (s__2 : Int) (s__3 : List (List Int)) (s__3h : Hd) (s__4 : List (List Int)) (s__4h : Hd) (s__5 : List (List Int)) (s__5h : Hd) (s__6 : List (List Int)) (s__6h : Hd) (y_0 : Int) (y_1 : Int) (y_2 : Int) (y_3 : List (List Int)) (y_4 : List (List Int)) (y_5 : List (List Int)) (y_6 : List (List Int)) (hF : F_spec_ssReached p_ (s__0, s__1, s__2, s__3, s__4, s__5, s__6) = some (y_0, y_1, y_2, y_3, y_4, y_5, y_6)) :
    ConF Tryd.prog 159 #[(.int .i64 p_), (.agg #[(.int .i64 s__0), (.int .i64 s__1), (.int .i64 s__2), (s__3h).v, (s__4h).v, (s__5h).v, (s__6h).v])] [Es (List (List Int)) s__3 s__3h, Es (List (List Int)) s__4 s__4h, Es (List (List Int)) s__5 s__5h, Es (List (List Int)) s__6 s__6h] [] (fun v Γ' => ∃ z0 z1 z2 z3 : Hd, v = (.agg #[(.int .i64 y_0), (.int .i64 y_1), (.int .i64 y_2), (z0).v, (z1).v, (z2).v, (z3).v]) ∧ Γ' = [E (List (List Int)) y_3 z0, E (List (List Int)) y_4 z1, E (List (List Int)) y_5 z2, E (List (List Int)) y_6 z3]) := by
  intro w0 S0 fp0 hI hS
  have H : Cx w0 fp0 S0 w0 [Es (List (List Int)) s__3 s__3h, Es (List (List Int)) s__4 s__4h, Es (List (List Int)) s__5 s__5h, Es (List (List Int)) s__6 s__6h] := Cx.start hI hS
  clear hI hS
  refine enterC (args := [_, _]) gok Tryd.func159 rfl _ rfl rfl rfl ?_
  refine box_ H ?_; clear H; intro b6 w5 hx H
  clear hx
  replace H : Cx w0 fp0 S0 w5 [Bx b6 [(.int .i64 s__0), (.int .i64 s__1), (.int .i64 s__2), (s__3h).v, (s__4h).v, (s__5h).v, (s__6h).v], Es (List (List Int)) s__3 s__3h, Es (List (List Int)) s__4 s__4h, Es (List (List Int)) s__5 s__5h, Es (List (List Int)) s__6 s__6h] := H
  refine alloc_ gok rfl H ?_; clear H; intro b9 w8 hx H
  clear hx
  replace H : Cx w0 fp0 S0 w8 [Bx b9 [(.int .i64 0), (.int .i64 0), (.int .i64 0), (.slice none 0 0), (.slice none 0 0), (.slice none 0 0), (.slice none 0 0)], Bx b6 [(.int .i64 s__0), (.int .i64 s__1), (.int .i64 s__2), (s__3h).v, (s__4h).v, (s__5h).v, (s__6h).v], Es (List (List Int)) s__3 s__3h, Es (List (List Int)) s__4 s__4h, Es (List (List Int)) s__5 s__5h, Es (List (List Int)) s__6 s__6h] := H
  refine loadN [(.int .i64 s__0), (.int .i64 s__1), (.int .i64 s__2), (s__3h).v, (s__4h).v, (s__5h).v, (s__6h).v] rfl (fun j u hj => H.bx 1 rfl hj) ?_
  obtain ⟨y11, e, hF12⟩ := bindS hF; clear hF
  have ey11 := e; clear e
  refine callF (spec_ssReach_c p_ s__0 s__1 s__2 s__3 s__3h s__4 s__4h s__5 s__5h s__6 s__6h y11 ey11) (Γi := []) H ⟨Vw.sh 2 rfl, Vw.sh 3 rfl, Vw.sh 4 rfl, Vw.sh 5 rfl, trivial⟩ ?_; clear H ey11
  rintro _ _ w13 ⟨h14, rfl, rfl⟩ (H : Cx w0 fp0 S0 w13 [E (List (List Int)) y11 h14, Bx b9 [(.int .i64 0), (.int .i64 0), (.int .i64 0), (.slice none 0 0), (.slice none 0 0), (.slice none 0 0), (.slice none 0 0)], Bx b6 [(.int .i64 s__0), (.int .i64 s__1), (.int .i64 s__2), (s__3h).v, (s__4h).v, (s__5h).v, (s__6h).v], Es (List (List Int)) s__3 s__3h, Es (List (List Int)) s__4 s__4h, Es (List (List Int)) s__5 s__5h, Es (List (List Int)) s__6 s__6h])
  obtain ⟨r49, hF51, hF50⟩ := bindS hF12; clear hF12
  refine heldJ H [11] (.fst 0 (.fst 1 (.fst 2 (.fst 4 (.fst 6 (.fst 3 (.fst 5 (.fst 7 (.alts (.alt 8 (.fst 9 (.act 10 (.act 11 .done))) (.alt 10 (.act 8 (.fst 9 (.act 11 .done))) .no))))))))))) mixed [] trivial (by kernel_rfl) (fun (q52 : (Int × Int × Int × List (List Int)) × (Hd × Nat)) => [(0, (.int .i64 p_)), (3, (.pointer (some ⟨b6, 0, none⟩))), (4, (.pointer (some ⟨b9, 0, none⟩))), (5, (h14).v), (6, (.pointer (some ⟨q52.2.2, 0, none⟩)))]) (fun (q52 : (Int × Int × Int × List (List Int)) × (Hd × Nat)) w' => (q52.1.1, q52.1.2.1, q52.1.2.2.1, q52.1.2.2.2) = r49 ∧ Cx w0 fp0 S0 w' [Bx b6 [(.int .i64 s__0), (.int .i64 s__1), (.int .i64 s__2), (s__3h).v, (s__4h).v, (s__5h).v, (s__6h).v], Es (List (List Int)) s__3 s__3h, Es (List (List Int)) s__4 s__4h, Es (List (List Int)) s__5 s__5h, Es (List (List Int)) s__6 s__6h, Bx b9 [(.int .i64 0), (.int .i64 0), (.int .i64 0), (.slice none 0 0), (.slice none 0 0), (.slice none 0 0), (.slice none 0 0)], E (List (List Int)) y11 h14, Bx q52.2.2 [(.int .i64 q52.1.1), (.int .i64 q52.1.2.1), (.int .i64 q52.1.2.2.1), (.slice none 0 0), (.slice none 0 0), (.slice none 0 0), (q52.2.1).v], E (List (List Int)) q52.1.2.2.2 q52.2.1]) ?_ ?_
  · skip
    clear H; intro w53 H
    have hX : Ext w53 w53 := Upd.refl _ _
    have H0 := H
    refine lenE (H.ro (α := List (List Int)) 0 rfl).len ?_
    refine anyH (fun _ => fld gok rfl rfl rfl rfl ⟨rfl, rfl⟩) ?_
    refine anyH (fun _ => fld gok rfl rfl rfl rfl ⟨rfl, rfl⟩) ?_
    refine anyH (fun _ => fld gok rfl rfl rfl rfl ⟨rfl, rfl⟩) ?_
    refine load1X (H.bx 2 rfl (j := 1) rfl) ?_
    refine load1X (H.bx 2 rfl (j := 2) rfl) ?_
    refine load1X (H.bx 2 rfl (j := 6) rfl) ?_
    refine both ?_ ?_
    · skip
      obtain ⟨y63, e, hF64⟩ := bindS hF51; clear hF51
      have ey63 := e; clear e
      refine callFx (spec_ssCopy_c s__6 s__6h y63 ey63) H ⟨Vw.sh 6 rfl, trivial⟩ ?_; clear H ey63
      rintro _ _ w65 ⟨h66, rfl, rfl⟩ hx (H : Cx w0 fp0 S0 w65 [E (List (List Int)) y63 h66, E (List (List Int)) y11 h14, Bx b9 [(.int .i64 0), (.int .i64 0), (.int .i64 0), (.slice none 0 0), (.slice none 0 0), (.slice none 0 0), (.slice none 0 0)], Bx b6 [(.int .i64 s__0), (.int .i64 s__1), (.int .i64 s__2), (s__3h).v, (s__4h).v, (s__5h).v, (s__6h).v], Es (List (List Int)) s__3 s__3h, Es (List (List Int)) s__4 s__4h, Es (List (List Int)) s__5 s__5h, Es (List (List Int)) s__6 s__6h])
      replace hX := hX.trans0 hx; clear hx
      refine hold hX ?_
      refine anyH (fun _ => build_ (cs := #[(.int .i64 ((y11.length : Nat) : Int)), (.int .i64 s__1), (.int .i64 s__2), (.slice none 0 0), (.slice none 0 0), (.slice none 0 0), (h66).v]) gok rfl rfl rfl ⟨rfl, rfl⟩) ?_
      refine alloc_ gok rfl H ?_; clear H; intro b69 w68 hx H
      replace hX := hX.trans0 hx; clear hx
      replace H : Cx w0 fp0 S0 w68 [Bx b69 [(.int .i64 0), (.int .i64 0), (.int .i64 0), (.slice none 0 0), (.slice none 0 0), (.slice none 0 0), (.slice none 0 0)], E (List (List Int)) y63 h66, E (List (List Int)) y11 h14, Bx b9 [(.int .i64 0), (.int .i64 0), (.int .i64 0), (.slice none 0 0), (.slice none 0 0), (.slice none 0 0), (.slice none 0 0)], Bx b6 [(.int .i64 s__0), (.int .i64 s__1), (.int .i64 s__2), (s__3h).v, (s__4h).v, (s__5h).v, (s__6h).v], Es (List (List Int)) s__3 s__3h, Es (List (List Int)) s__4 s__4h, Es (List (List Int)) s__5 s__5h, Es (List (List Int)) s__6 s__6h] := H
      refine hold hX ?_
      refine stA gok [(.int .i64 ((y11.length : Nat) : Int)), (.int .i64 s__1), (.int .i64 s__2), (.slice none 0 0), (.slice none 0 0), (.slice none 0 0), (h66).v] rfl H rfl rfl rfl ?_; clear H; intro w71 H
      replace H : Cx w0 fp0 S0 w71 [Bx b69 [(.int .i64 ((y11.length : Nat) : Int)), (.int .i64 s__1), (.int .i64 s__2), (.slice none 0 0), (.slice none 0 0), (.slice none 0 0), (h66).v], E (List (List Int)) y63 h66, E (List (List Int)) y11 h14, Bx b9 [(.int .i64 0), (.int .i64 0), (.int .i64 0), (.slice none 0 0), (.slice none 0 0), (.slice none 0 0), (.slice none 0 0)], Bx b6 [(.int .i64 s__0), (.int .i64 s__1), (.int .i64 s__2), (s__3h).v, (s__4h).v, (s__5h).v, (s__6h).v], Es (List (List Int)) s__3 s__3h, Es (List (List Int)) s__4 s__4h, Es (List (List Int)) s__5 s__5h, Es (List (List Int)) s__6 s__6h] := H
      refine hold trivial ?_
      exact ⟨((((y11.length : Nat) : Int), s__1, s__2, y63), (h66, b69)), ⟨rfl, rfl, rfl, rfl, rfl, trivial⟩, Option.some.inj hF64, H.sel [4, 5, 6, 7, 8, 3, 2, 0, 1] rfl⟩
    · skip
      refine both ?_ ?_
      · skip
        obtain ⟨a72, eq73, hF74⟩ := bindS hF51; clear hF51
        refine alloc_ gok rfl H ?_; clear H; intro b76 w75 hx H
        replace hX := hX.trans0 hx; clear hx
        replace H : Cx w0 fp0 S0 w75 [Bx b76 [(.int .i64 0), (.int .i64 0), (.int .i64 0), (.slice none 0 0), (.slice none 0 0), (.slice none 0 0), (.slice none 0 0)], E (List (List Int)) y11 h14, Bx b9 [(.int .i64 0), (.int .i64 0), (.int .i64 0), (.slice none 0 0), (.slice none 0 0), (.slice none 0 0), (.slice none 0 0)], Bx b6 [(.int .i64 s__0), (.int .i64 s__1), (.int .i64 s__2), (s__3h).v, (s__4h).v, (s__5h).v, (s__6h).v], Es (List (List Int)) s__3 s__3h, Es (List (List Int)) s__4 s__4h, Es (List (List Int)) s__5 s__5h, Es (List (List Int)) s__6 s__6h] := H
        refine hold hX ?_
        have e := eq73; clear eq73
        have ea72 := e; clear e
        refine callFx (spec_ssCopy_c s__6 s__6h a72 ea72) H ⟨Vw.sh 7 rfl, trivial⟩ ?_; clear H ea72
        rintro _ _ w78 ⟨h79, rfl, rfl⟩ hx (H : Cx w0 fp0 S0 w78 [E (List (List Int)) a72 h79, Bx b76 [(.int .i64 0), (.int .i64 0), (.int .i64 0), (.slice none 0 0), (.slice none 0 0), (.slice none 0 0), (.slice none 0 0)], E (List (List Int)) y11 h14, Bx b9 [(.int .i64 0), (.int .i64 0), (.int .i64 0), (.slice none 0 0), (.slice none 0 0), (.slice none 0 0), (.slice none 0 0)], Bx b6 [(.int .i64 s__0), (.int .i64 s__1), (.int .i64 s__2), (s__3h).v, (s__4h).v, (s__5h).v, (s__6h).v], Es (List (List Int)) s__3 s__3h, Es (List (List Int)) s__4 s__4h, Es (List (List Int)) s__5 s__5h, Es (List (List Int)) s__6 s__6h])
        replace hX := hX.trans0 hx; clear hx
        refine hold hX ?_
        refine anyH (fun _ => build_ (cs := #[(.int .i64 ((y11.length : Nat) : Int)), (.int .i64 s__1), (.int .i64 s__2), (.slice none 0 0), (.slice none 0 0), (.slice none 0 0), (h79).v]) gok rfl rfl rfl ⟨rfl, rfl⟩) ?_
        replace H := H.sel [1, 0, 2, 3, 4, 5, 6, 7, 8] rfl
        refine stA gok [(.int .i64 ((y11.length : Nat) : Int)), (.int .i64 s__1), (.int .i64 s__2), (.slice none 0 0), (.slice none 0 0), (.slice none 0 0), (h79).v] rfl H rfl rfl rfl ?_; clear H; intro w81 H
        replace H : Cx w0 fp0 S0 w81 [Bx b76 [(.int .i64 ((y11.length : Nat) : Int)), (.int .i64 s__1), (.int .i64 s__2), (.slice none 0 0), (.slice none 0 0), (.slice none 0 0), (h79).v], E (List (List Int)) a72 h79, E (List (List Int)) y11 h14, Bx b9 [(.int .i64 0), (.int .i64 0), (.int .i64 0), (.slice none 0 0), (.slice none 0 0), (.slice none 0 0), (.slice none 0 0)], Bx b6 [(.int .i64 s__0), (.int .i64 s__1), (.int .i64 s__2), (s__3h).v, (s__4h).v, (s__5h).v, (s__6h).v], Es (List (List Int)) s__3 s__3h, Es (List (List Int)) s__4 s__4h, Es (List (List Int)) s__5 s__5h, Es (List (List Int)) s__6 s__6h] := H
        refine hold trivial ?_
        exact ⟨((((y11.length : Nat) : Int), s__1, s__2, a72), (h79, b76)), ⟨rfl, rfl, rfl, rfl, rfl, trivial⟩, Option.some.inj hF74, H.sel [4, 5, 6, 7, 8, 3, 2, 0, 1] rfl⟩
      · skip
        exact trivial
  · clear hF51 H
    rintro T83 ⟨⟨s45_0, s45_1, s45_2, s45_3⟩, ⟨g46_0, g46_1⟩⟩ w82 ⟨hr, (H : Cx w0 fp0 S0 w82 [Bx b6 [(.int .i64 s__0), (.int .i64 s__1), (.int .i64 s__2), (s__3h).v, (s__4h).v, (s__5h).v, (s__6h).v], Es (List (List Int)) s__3 s__3h, Es (List (List Int)) s__4 s__4h, Es (List (List Int)) s__5 s__5h, Es (List (List Int)) s__6 s__6h, Bx b9 [(.int .i64 0), (.int .i64 0), (.int .i64 0), (.slice none 0 0), (.slice none 0 0), (.slice none 0 0), (.slice none 0 0)], E (List (List Int)) y11 h14, Bx g46_1 [(.int .i64 s45_0), (.int .i64 s45_1), (.int .i64 s45_2), (.slice none 0 0), (.slice none 0 0), (.slice none 0 0), (g46_0).v], E (List (List Int)) s45_3 g46_0])⟩
    subst hr
    refine sq ?_
    refine fld gok rfl rfl rfl rfl ?_
    refine load1 (H.bx 0 rfl (j := 0) rfl) ?_
    refine fld gok rfl rfl rfl rfl ?_
    refine load1 (H.bx 0 rfl (j := 3) rfl) ?_
    obtain ⟨y84, e, hF85⟩ := bindS hF50; clear hF50
    have ey84 := e; clear e
    refine callF (spec_ssTimes_c p_ s__0 y11 h14 s__3 s__3h y84 ey84) (Γi := []) H ⟨Vw.own 6 rfl, Vw.sh 1 rfl, trivial⟩ ?_; clear H ey84
    rintro _ _ w86 ⟨h87, rfl, rfl⟩ (H : Cx w0 fp0 S0 w86 [E (List (List Int)) y84 h87, Bx b6 [(.int .i64 s__0), (.int .i64 s__1), (.int .i64 s__2), (s__3h).v, (s__4h).v, (s__5h).v, (s__6h).v], Es (List (List Int)) s__3 s__3h, Es (List (List Int)) s__4 s__4h, Es (List (List Int)) s__5 s__5h, Es (List (List Int)) s__6 s__6h, Bx b9 [(.int .i64 0), (.int .i64 0), (.int .i64 0), (.slice none 0 0), (.slice none 0 0), (.slice none 0 0), (.slice none 0 0)], E (List (List Int)) y11 h14, Bx g46_1 [(.int .i64 s45_0), (.int .i64 s45_1), (.int .i64 s45_2), (.slice none 0 0), (.slice none 0 0), (.slice none 0 0), (g46_0).v], E (List (List Int)) s45_3 g46_0])
    refine lenE (H.ro (α := List (List Int)) 0 rfl).len ?_
    replace H := H.frz
    have hmx177 := (H.rs (α := List (List Int)) 0 rfl).max
    obtain ⟨r178, e, hF179⟩ := bindS hF85; clear hF85
    replace H := H.nil (α := List Int)
    refine loopS _ y84.length (fun (k89 : Nat) (s174 : List (List Int)) (g175 : Hd) => [(0, (.int .i64 p_)), (3, (.pointer (some ⟨b6, 0, none⟩))), (4, (.pointer (some ⟨b9, 0, none⟩))), (5, (h14).v), (6, (.pointer (some ⟨g46_1, 0, none⟩))), (30, (h87).v), (31, (.int .i64 ((y84.length : Nat) : Int))), (32, (.int .i64 ((k89 : Nat) : Int)))]) (fun _ (s174 : List (List Int)) (g175 : Hd) w' => Cx w0 fp0 S0 w' [Bx b6 [(.int .i64 s__0), (.int .i64 s__1), (.int .i64 s__2), (s__3h).v, (s__4h).v, (s__5h).v, (s__6h).v], Es (List (List Int)) s__3 s__3h, Es (List (List Int)) s__4 s__4h, Es (List (List Int)) s__5 s__5h, Es (List (List Int)) s__6 s__6h, Bx b9 [(.int .i64 0), (.int .i64 0), (.int .i64 0), (.slice none 0 0), (.slice none 0 0), (.slice none 0 0), (.slice none 0 0)], E (List (List Int)) y11 h14, Bx g46_1 [(.int .i64 s45_0), (.int .i64 s45_1), (.int .i64 s45_2), (g175).v, (.slice none 0 0), (.slice none 0 0), (g46_0).v], E (List (List Int)) s174 g175, E (List (List Int)) s45_3 g46_0, Es (List (List Int)) y84 h87]) [] nilH e ⟨rfl, rfl, rfl, rfl, rfl, rfl, rfl, rfl, trivial⟩ (H.sel [2, 3, 4, 5, 6, 7, 8, 9, 0, 10, 1] rfl) ?_ ?_
    · clear H e
      rintro T182 k89 s174 g175 w181 o183 hk (H : Cx w0 fp0 S0 w181 [Bx b6 [(.int .i64 s__0), (.int .i64 s__1), (.int .i64 s__2), (s__3h).v, (s__4h).v, (s__5h).v, (s__6h).v], Es (List (List Int)) s__3 s__3h, Es (List (List Int)) s__4 s__4h, Es (List (List Int)) s__5 s__5h, Es (List (List Int)) s__6 s__6h, Bx b9 [(.int .i64 0), (.int .i64 0), (.int .i64 0), (.slice none 0 0), (.slice none 0 0), (.slice none 0 0), (.slice none 0 0)], E (List (List Int)) y11 h14, Bx g46_1 [(.int .i64 s45_0), (.int .i64 s45_1), (.int .i64 s45_2), (g175).v, (.slice none 0 0), (.slice none 0 0), (g46_0).v], E (List (List Int)) s174 g175, E (List (List Int)) s45_3 g46_0, Es (List (List Int)) y84 h87]) hF184
      refine boolE (z := true) (ltLen hk) ?_
      refine sq ?_
      refine sq ?_
      obtain ⟨a191, e, hF192⟩ := bindS hF184; clear hF184
      have HH := H; clear H; obtain ⟨p189, m190, h193, c185, c186, c187, c188, H⟩ := HH.elL 10 rfl e; clear HH
      clear e
      refine idxE c185 c186 c187 ?_; clear c185 c186 c187
      refine load1 c188 ?_; clear c188
      refine heldX H [6, 8, 7] (.fst 0 (.fst 2 (.fst 3 (.fst 1 (.act 4 (.act 5 (.act 6 (.act 7 (.act 8 .done))))))))) mixed [] trivial (by kernel_rfl) ?_
      clear H; intro w195 H
      have hX : Ext w195 w195 := Upd.refl _ _
      have H0 := H
      refine anyH (fun _ => fld gok rfl rfl rfl rfl ⟨rfl, rfl⟩) ?_
      refine load1X (H.bx 8 rfl (j := 3) rfl) ?_
      obtain ⟨y196, e, hF197⟩ := bindS hF192; clear hF192
      have ey196 := e; clear e
      refine callFx (spec_spCoords_c y11 h14 a191 h193 y196 ey196) H ⟨Vw.own 7 rfl, Vw.sh 0 rfl, trivial⟩ ?_; clear H ey196
      rintro _ _ w198 ⟨h199, rfl, rfl⟩ hx (H : Cx w0 fp0 S0 w198 [E (List Int) y196 h199, Es (List Int) a191 h193, Bx b6 [(.int .i64 s__0), (.int .i64 s__1), (.int .i64 s__2), (s__3h).v, (s__4h).v, (s__5h).v, (s__6h).v], Es (List (List Int)) s__3 s__3h, Es (List (List Int)) s__4 s__4h, Es (List (List Int)) s__5 s__5h, Es (List (List Int)) s__6 s__6h, Bx b9 [(.int .i64 0), (.int .i64 0), (.int .i64 0), (.slice none 0 0), (.slice none 0 0), (.slice none 0 0), (.slice none 0 0)], E (List (List Int)) y11 h14, Bx g46_1 [(.int .i64 s45_0), (.int .i64 s45_1), (.int .i64 s45_2), (g175).v, (.slice none 0 0), (.slice none 0 0), (g46_0).v], E (List (List Int)) s174 g175, E (List (List Int)) s45_3 g46_0, Es (List (List Int)) y84 h87])
      replace hX := hX.trans0 hx; clear hx
      refine hold hX ?_
      refine lit1 (α := List Int) (g := h199) gok rfl rfl rfl rfl rfl H ?_; clear H; intro h202 w201 hx H
      replace hX := hX.trans0 hx; clear hx
      refine hold hX ?_
      obtain ⟨a204, e, hF205⟩ := bindS hF197; clear hF197
      replace H := H.sel [10, 0, 1, 2, 3, 4, 5, 6, 7, 8, 9, 11, 12] rfl
      refine append_ (α := List Int) gok rfl rfl rfl rfl H e ?_; clear e H; intro h207 w206 H
      refine hold trivial ?_
      refine fld gok rfl rfl rfl rfl ?_
      refine hold trivial ?_
      replace H := H.sel [9, 0, 1, 2, 3, 4, 5, 6, 7, 8, 10, 11] rfl
      refine stB (j := 3) H rfl rfl ?_; clear H; intro w209 H
      replace H : Cx w0 fp0 S0 w209 [Bx g46_1 [(.int .i64 s45_0), (.int .i64 s45_1), (.int .i64 s45_2), (h207).v, (.slice none 0 0), (.slice none 0 0), (g46_0).v], E (List (List Int)) a204 h207, Es (List Int) a191 h193, Bx b6 [(.int .i64 s__0), (.int .i64 s__1), (.int .i64 s__2), (s__3h).v, (s__4h).v, (s__5h).v, (s__6h).v], Es (List (List Int)) s__3 s__3h, Es (List (List Int)) s__4 s__4h, Es (List (List Int)) s__5 s__5h, Es (List (List Int)) s__6 s__6h, Bx b9 [(.int .i64 0), (.int .i64 0), (.int .i64 0), (.slice none 0 0), (.slice none 0 0), (.slice none 0 0), (.slice none 0 0)], E (List (List Int)) y11 h14, E (List (List Int)) s45_3 g46_0, Es (List (List Int)) y84 h87] := H
      refine hold trivial ?_
      refine arK hk hmx177 ?_
      have hs := Option.some.inj hF205; subst hs; clear hF205
      exact ⟨h207, ⟨rfl, rfl, rfl, rfl, rfl, rfl, rfl, rfl, trivial⟩, H.sel [3, 4, 5, 6, 7, 8, 9, 0, 1, 10, 11] rfl⟩
    · clear H e
      rintro T211 g213 w210 (H : Cx w0 fp0 S0 w210 [Bx b6 [(.int .i64 s__0), (.int .i64 s__1), (.int .i64 s__2), (s__3h).v, (s__4h).v, (s__5h).v, (s__6h).v], Es (List (List Int)) s__3 s__3h, Es (List (List Int)) s__4 s__4h, Es (List (List Int)) s__5 s__5h, Es (List (List Int)) s__6 s__6h, Bx b9 [(.int .i64 0), (.int .i64 0), (.int .i64 0), (.slice none 0 0), (.slice none 0 0), (.slice none 0 0), (.slice none 0 0)], E (List (List Int)) y11 h14, Bx g46_1 [(.int .i64 s45_0), (.int .i64 s45_1), (.int .i64 s45_2), (g213).v, (.slice none 0 0), (.slice none 0 0), (g46_0).v], E (List (List Int)) r178 g213, E (List (List Int)) s45_3 g46_0, Es (List (List Int)) y84 h87])
      refine boolE (z := false) geLen ?_
      refine sq ?_
      refine sq ?_
      refine fld gok rfl rfl rfl rfl ?_
      refine load1 (H.bx 0 rfl (j := 4) rfl) ?_
      refine lenE (H.rs (α := List (List Int)) 2 rfl).len ?_
      have hmx275 := (H.rs (α := List (List Int)) 2 rfl).max
      obtain ⟨r276, e, hF277⟩ := bindS hF179; clear hF179
      replace H := H.nil (α := List Int)
      refine loopS _ s__4.length (fun (k215 : Nat) (s272 : List (List Int)) (g273 : Hd) => [(0, (.int .i64 p_)), (3, (.pointer (some ⟨b6, 0, none⟩))), (4, (.pointer (some ⟨b9, 0, none⟩))), (5, (h14).v), (6, (.pointer (some ⟨g46_1, 0, none⟩))), (46, (s__4h).v), (47, (.int .i64 ((s__4.length : Nat) : Int))), (48, (.int .i64 ((k215 : Nat) : Int)))]) (fun _ (s272 : List (List Int)) (g273 : Hd) w' => Cx w0 fp0 S0 w' [Bx b6 [(.int .i64 s__0), (.int .i64 s__1), (.int .i64 s__2), (s__3h).v, (s__4h).v, (s__5h).v, (s__6h).v], Es (List (List Int)) s__3 s__3h, Es (List (List Int)) s__4 s__4h, Es (List (List Int)) s__5 s__5h, Es (List (List Int)) s__6 s__6h, Bx b9 [(.int .i64 0), (.int .i64 0), (.int .i64 0), (.slice none 0 0), (.slice none 0 0), (.slice none 0 0), (.slice none 0 0)], E (List (List Int)) y11 h14, Bx g46_1 [(.int .i64 s45_0), (.int .i64 s45_1), (.int .i64 s45_2), (g213).v, (g273).v, (.slice none 0 0), (g46_0).v], E (List (List Int)) r178 g213, E (List (List Int)) s272 g273, E (List (List Int)) s45_3 g46_0]) [] nilH e ⟨rfl, rfl, rfl, rfl, rfl, rfl, rfl, rfl, trivial⟩ (H.sel [1, 2, 3, 4, 5, 6, 7, 8, 9, 0, 10] rfl) ?_ ?_
      · clear H e
        rintro T280 k215 s272 g273 w279 o281 hk (H : Cx w0 fp0 S0 w279 [Bx b6 [(.int .i64 s__0), (.int .i64 s__1), (.int .i64 s__2), (s__3h).v, (s__4h).v, (s__5h).v, (s__6h).v], Es (List (List Int)) s__3 s__3h, Es (List (List Int)) s__4 s__4h, Es (List (List Int)) s__5 s__5h, Es (List (List Int)) s__6 s__6h, Bx b9 [(.int .i64 0), (.int .i64 0), (.int .i64 0), (.slice none 0 0), (.slice none 0 0), (.slice none 0 0), (.slice none 0 0)], E (List (List Int)) y11 h14, Bx g46_1 [(.int .i64 s45_0), (.int .i64 s45_1), (.int .i64 s45_2), (g213).v, (g273).v, (.slice none 0 0), (g46_0).v], E (List (List Int)) r178 g213, E (List (List Int)) s272 g273, E (List (List Int)) s45_3 g46_0]) hF282
        refine boolE (z := true) (ltLen hk) ?_
        refine sq ?_
        refine sq ?_
        obtain ⟨a289, e, hF290⟩ := bindS hF282; clear hF282
        have HH := H; clear H; obtain ⟨p287, m288, h291, c283, c284, c285, c286, H⟩ := HH.elL 2 rfl e; clear HH
        clear e
        refine idxE c283 c284 c285 ?_; clear c283 c284 c285
        refine load1 c286 ?_; clear c286
        refine heldX H [6, 8, 7] (.fst 0 (.fst 2 (.fst 3 (.fst 1 (.act 4 (.act 5 (.act 6 (.act 7 (.act 8 .done))))))))) mixed [] trivial (by kernel_rfl) ?_
        clear H; intro w293 H
        have hX : Ext w293 w293 := Upd.refl _ _
        have H0 := H
        refine anyH (fun _ => fld gok rfl rfl rfl rfl ⟨rfl, rfl⟩) ?_
        refine load1X (H.bx 8 rfl (j := 4) rfl) ?_
        obtain ⟨y294, e, hF295⟩ := bindS hF290; clear hF290
        have ey294 := e; clear e
        refine callFx (spec_spCoords_c y11 h14 a289 h291 y294 ey294) H ⟨Vw.own 7 rfl, Vw.sh 0 rfl, trivial⟩ ?_; clear H ey294
        rintro _ _ w296 ⟨h297, rfl, rfl⟩ hx (H : Cx w0 fp0 S0 w296 [E (List Int) y294 h297, Es (List Int) a289 h291, Bx b6 [(.int .i64 s__0), (.int .i64 s__1), (.int .i64 s__2), (s__3h).v, (s__4h).v, (s__5h).v, (s__6h).v], Es (List (List Int)) s__3 s__3h, Es (List (List Int)) s__4 s__4h, Es (List (List Int)) s__5 s__5h, Es (List (List Int)) s__6 s__6h, Bx b9 [(.int .i64 0), (.int .i64 0), (.int .i64 0), (.slice none 0 0), (.slice none 0 0), (.slice none 0 0), (.slice none 0 0)], E (List (List Int)) y11 h14, Bx g46_1 [(.int .i64 s45_0), (.int .i64 s45_1), (.int .i64 s45_2), (g213).v, (g273).v, (.slice none 0 0), (g46_0).v], E (List (List Int)) r178 g213, E (List (List Int)) s272 g273, E (List (List Int)) s45_3 g46_0])
        replace hX := hX.trans0 hx; clear hx
        refine hold hX ?_
        refine lit1 (α := List Int) (g := h297) gok rfl rfl rfl rfl rfl H ?_; clear H; intro h300 w299 hx H
        replace hX := hX.trans0 hx; clear hx
        refine hold hX ?_
        obtain ⟨a302, e, hF303⟩ := bindS hF295; clear hF295
        replace H := H.sel [11, 0, 1, 2, 3, 4, 5, 6, 7, 8, 9, 10, 12] rfl
        refine append_ (α := List Int) gok rfl rfl rfl rfl H e ?_; clear e H; intro h305 w304 H
        refine hold trivial ?_
        refine fld gok rfl rfl rfl rfl ?_
        refine hold trivial ?_
        replace H := H.sel [9, 0, 1, 2, 3, 4, 5, 6, 7, 8, 10, 11] rfl
        refine stB (j := 4) H rfl rfl ?_; clear H; intro w307 H
        replace H : Cx w0 fp0 S0 w307 [Bx g46_1 [(.int .i64 s45_0), (.int .i64 s45_1), (.int .i64 s45_2), (g213).v, (h305).v, (.slice none 0 0), (g46_0).v], E (List (List Int)) a302 h305, Es (List Int) a289 h291, Bx b6 [(.int .i64 s__0), (.int .i64 s__1), (.int .i64 s__2), (s__3h).v, (s__4h).v, (s__5h).v, (s__6h).v], Es (List (List Int)) s__3 s__3h, Es (List (List Int)) s__4 s__4h, Es (List (List Int)) s__5 s__5h, Es (List (List Int)) s__6 s__6h, Bx b9 [(.int .i64 0), (.int .i64 0), (.int .i64 0), (.slice none 0 0), (.slice none 0 0), (.slice none 0 0), (.slice none 0 0)], E (List (List Int)) y11 h14, E (List (List Int)) r178 g213, E (List (List Int)) s45_3 g46_0] := H
        refine hold trivial ?_
        refine arK hk hmx275 ?_
        have hs := Option.some.inj hF303; subst hs; clear hF303
        exact ⟨h305, ⟨rfl, rfl, rfl, rfl, rfl, rfl, rfl, rfl, trivial⟩, H.sel [3, 4, 5, 6, 7, 8, 9, 0, 10, 1, 11] rfl⟩
      · clear H e
        rintro T309 g311 w308 (H : Cx w0 fp0 S0 w308 [Bx b6 [(.int .i64 s__0), (.int .i64 s__1), (.int .i64 s__2), (s__3h).v, (s__4h).v, (s__5h).v, (s__6h).v], Es (List (List Int)) s__3 s__3h, Es (List (List Int)) s__4 s__4h, Es (List (List Int)) s__5 s__5h, Es (List (List Int)) s__6 s__6h, Bx b9 [(.int .i64 0), (.int .i64 0), (.int .i64 0), (.slice none 0 0), (.slice none 0 0), (.slice none 0 0), (.slice none 0 0)], E (List (List Int)) y11 h14, Bx g46_1 [(.int .i64 s45_0), (.int .i64 s45_1), (.int .i64 s45_2), (g213).v, (g311).v, (.slice none 0 0), (g46_0).v], E (List (List Int)) r178 g213, E (List (List Int)) r276 g311, E (List (List Int)) s45_3 g46_0])
        refine boolE (z := false) geLen ?_
        refine sq ?_
        refine fld gok rfl rfl rfl rfl ?_
        refine load1 (H.bx 0 rfl (j := 2) rfl) ?_
        refine fld gok rfl rfl rfl rfl ?_
        refine load1 (H.bx 0 rfl (j := 5) rfl) ?_
        obtain ⟨y313, e, hF314⟩ := bindS hF277; clear hF277
        have ey313 := e; clear e
        refine callF (spec_ssTimes_c p_ s__2 y11 h14 s__5 s__5h y313 ey313) (Γi := []) H ⟨Vw.own 6 rfl, Vw.sh 3 rfl, trivial⟩ ?_; clear H ey313
        rintro _ _ w315 ⟨h316, rfl, rfl⟩ (H : Cx w0 fp0 S0 w315 [E (List (List Int)) y313 h316, Bx b6 [(.int .i64 s__0), (.int .i64 s__1), (.int .i64 s__2), (s__3h).v, (s__4h).v, (s__5h).v, (s__6h).v], Es (List (List Int)) s__3 s__3h, Es (List (List Int)) s__4 s__4h, Es (List (List Int)) s__5 s__5h, Es (List (List Int)) s__6 s__6h, Bx b9 [(.int .i64 0), (.int .i64 0), (.int .i64 0), (.slice none 0 0), (.slice none 0 0), (.slice none 0 0), (.slice none 0 0)], E (List (List Int)) y11 h14, Bx g46_1 [(.int .i64 s45_0), (.int .i64 s45_1), (.int .i64 s45_2), (g213).v, (g311).v, (.slice none 0 0), (g46_0).v], E (List (List Int)) r178 g213, E (List (List Int)) r276 g311, E (List (List Int)) s45_3 g46_0])
        refine fld gok rfl rfl rfl rfl ?_
        replace H := H.sel [8, 0, 1, 2, 3, 4, 5, 6, 7, 9, 10, 11] rfl
        refine stB (j := 5) H rfl rfl ?_; clear H; intro w318 H
        replace H : Cx w0 fp0 S0 w318 [Bx g46_1 [(.int .i64 s45_0), (.int .i64 s45_1), (.int .i64 s45_2), (g213).v, (g311).v, (h316).v, (g46_0).v], E (List (List Int)) y313 h316, Bx b6 [(.int .i64 s__0), (.int .i64 s__1), (.int .i64 s__2), (s__3h).v, (s__4h).v, (s__5h).v, (s__6h).v], Es (List (List Int)) s__3 s__3h, Es (List (List Int)) s__4 s__4h, Es (List (List Int)) s__5 s__5h, Es (List (List Int)) s__6 s__6h, Bx b9 [(.int .i64 0), (.int .i64 0), (.int .i64 0), (.slice none 0 0), (.slice none 0 0), (.slice none 0 0), (.slice none 0 0)], E (List (List Int)) y11 h14, E (List (List Int)) r178 g213, E (List (List Int)) r276 g311, E (List (List Int)) s45_3 g46_0] := H
        refine loadN [(.int .i64 s45_0), (.int .i64 s45_1), (.int .i64 s45_2), (g213).v, (g311).v, (h316).v, (g46_0).v] rfl (fun j u hj => H.bx 0 rfl hj) ?_
        replace H := H.sel [7, 0, 1, 2, 3, 4, 5, 6, 8, 9, 10, 11] rfl
        refine stA gok [(.int .i64 s45_0), (.int .i64 s45_1), (.int .i64 s45_2), (g213).v, (g311).v, (h316).v, (g46_0).v] rfl H rfl rfl rfl ?_; clear H; intro w319 H
        replace H : Cx w0 fp0 S0 w319 [Bx b9 [(.int .i64 s45_0), (.int .i64 s45_1), (.int .i64 s45_2), (g213).v, (g311).v, (h316).v, (g46_0).v], Bx g46_1 [(.int .i64 s45_0), (.int .i64 s45_1), (.int .i64 s45_2), (g213).v, (g311).v, (h316).v, (g46_0).v], E (List (List Int)) y313 h316, Bx b6 [(.int .i64 s__0), (.int .i64 s__1), (.int .i64 s__2), (s__3h).v, (s__4h).v, (s__5h).v, (s__6h).v], Es (List (List Int)) s__3 s__3h, Es (List (List Int)) s__4 s__4h, Es (List (List Int)) s__5 s__5h, Es (List (List Int)) s__6 s__6h, E (List (List Int)) y11 h14, E (List (List Int)) r178 g213, E (List (List Int)) r276 g311, E (List (List Int)) s45_3 g46_0] := H
        refine loadN [(.int .i64 s45_0), (.int .i64 s45_1), (.int .i64 s45_2), (g213).v, (g311).v, (h316).v, (g46_0).v] rfl (fun j u hj => H.bx 0 rfl hj) ?_
        cases hF314
        exact ⟨_, _, rfl, ⟨g213, g311, h316, g46_0, rfl, rfl⟩, (H.sel [9, 10, 2, 11] rfl).close ⟨cloE, cloE, cloE, cloE, trivial⟩⟩

theorem spec_ssTurn_c (m_ : List (List Int)) (m_h : Hd) (cols_ : Int) (y : List (List Int)) (hF : F_spec_ssTurn m_ cols_ = some y) :
    ConF Tryd.prog 156 #[(m_h).v, (.int .i64 cols_)] [Es (List (List Int)) m_ m_h] [] (fun v Γ' => ∃ z0 : Hd, v = (z0).v ∧ Γ' = [E (List (List Int)) y z0]) := by
  intro w0 S0 fp0 hI hS
  have H : Cx w0 fp0 S0 w0 [Es (List (List Int)) m_ m_h] := Cx.start hI hS
  clear hI hS
  refine enterC (args := [_, _]) gok Tryd.func156 rfl _ rfl rfl rfl ?_
  obtain ⟨a2, e, hF3⟩ := bindS hF; clear hF
  refine make_ (α := List Int) gok rfl rfl rfl rfl (makeCO_of e) H ?_; clear e H; intro h5 w4 hx H
  clear hx
  refine sq ?_
  refine lenE (H.ro (α := List (List Int)) 0 rfl).len ?_
  have hmx326 := (H.ro (α := List (List Int)) 0 rfl).max
  obtain ⟨r327, e, hF328⟩ := bindS hF3; clear hF3
  refine loopS _ a2.length (fun (k7 : Nat) (s324 : List (List Int)) (_ : Unit) => [(0, (m_h).v), (5, (h5).v), (12, (.int .i64 ((a2.length : Nat) : Int))), (13, (.int .i64 ((k7 : Nat) : Int)))]) (fun _ (s324 : List (List Int)) (_ : Unit) w' => Cx w0 fp0 S0 w' [Es (List (List Int)) m_ m_h, E (List (List Int)) s324 h5]) a2 () e ⟨rfl, rfl, rfl, rfl, trivial⟩ (H.sel [1, 0] rfl) ?_ ?_
  · clear H e
    rintro T330 k7 s324 _ w329 o331 hk (H : Cx w0 fp0 S0 w329 [Es (List (List Int)) m_ m_h, E (List (List Int)) s324 h5]) hF332
    refine boolE (z := true) (ltLen hk) ?_
    refine sq ?_
    refine sq ?_
    refine lenE (H.rs (α := List (List Int)) 0 rfl).len ?_
    have hmx432 := (H.rs (α := List (List Int)) 0 rfl).max
    obtain ⟨r433, e, hF434⟩ := bindS hF332; clear hF332
    refine loopS _ m_.length (fun (k333 : Nat) (s430 : List (List Int)) (_ : Unit) => [(0, (m_h).v), (5, (h5).v), (6, (.int .i64 ((k7 : Nat) : Int))), (12, (.int .i64 ((a2.length : Nat) : Int))), (13, (.int .i64 ((k7 : Nat) : Int))), (16, (m_h).v), (17, (.int .i64 ((m_.length : Nat) : Int))), (18, (.int .i64 ((k333 : Nat) : Int)))]) (fun _ (s430 : List (List Int)) (_ : Unit) w' => Cx w0 fp0 S0 w' [Es (List (List Int)) m_ m_h, E (List (List Int)) s430 h5]) s324 () e ⟨rfl, rfl, rfl, rfl, rfl, rfl, rfl, rfl, trivial⟩ (H.sel [0, 1] rfl) ?_ ?_
    · clear H e
      rintro T436 k333 s430 _ w435 o437 hk (H : Cx w0 fp0 S0 w435 [Es (List (List Int)) m_ m_h, E (List (List Int)) s430 h5]) hF438
      refine boolE (z := true) (ltLen hk) ?_
      refine sq ?_
      refine sq ?_
      obtain ⟨a445, e, hF446⟩ := bindS hF438; clear hF438
      have HH := H; clear H; obtain ⟨p443, m444, h447, c439, c440, c441, c442, H⟩ := HH.elL 0 rfl e; clear HH
      clear e
      refine idxE c439 c440 c441 ?_; clear c439 c440 c441
      refine load1 c442 ?_; clear c442
      refine heldX H [11, 13, 12, 0, 1] (.pure 0 (.pure 1 (.fst 2 (.fst 3 (.fst 4 (.fst 6 (.fst 7 (.fst 8 (.fst 5 (.fst 9 (.act 10 (.act 11 (.act 12 (.act 13 .done)))))))))))))) mixed [] trivial (by kernel_rfl) ?_
      clear H; intro w449 H
      have hX : Ext w449 w449 := Upd.refl _ _
      have H0 := H
      obtain ⟨a456, e, hF457⟩ := bindS hF446; clear hF446
      replace H := H.sel [2, 0, 1] rfl
      replace H := H.toEH (α := List Int)
      have HH := H; clear H; obtain ⟨p454, m455, h458, c450, c451, c452, c453, H⟩ := HH.peekL e; clear HH
      clear e
      refine idxE c450 c451 c452 ?_
      obtain ⟨a465, e, hF466⟩ := bindS hF457; clear hF457
      obtain ⟨p463, m464, c459, c460, c461, c462⟩ := (H.rs (α := List Int) 1 rfl).at1 e; clear e
      refine idxE c459 c460 c461 ?_; clear c459 c460 c461
      refine load1X c453 ?_; clear c453
      refine load1X c462 ?_; clear c462
      refine lit1S (α := Int) gok rfl rfl rfl rfl H ?_; clear H; intro h468 w467 hx H
      replace hX := hX.trans0 hx; clear hx
      refine hold hX ?_
      replace H := H.sel [1, 0, 2, 3] rfl
      replace H := H.takeK 0 rfl
      obtain ⟨a471, e, hF472⟩ := bindS hF466; clear hF466
      replace H := H.sel [0, 2, 1, 3, 4] rfl
      refine append_ (α := Int) gok rfl rfl rfl rfl H e ?_; clear e H; intro h474 w473 H
      refine hold trivial ?_
      refine idxE c450 c451 c452 ?_
      refine hold trivial ?_
      replace H := H.sel [1, 0, 2, 3] rfl
      refine stX0 H c450 rfl rfl ?_; clear H; intro w482 H
      obtain ⟨a483, e, hF484⟩ := bindS hF472; clear hF472
      replace H := H.sel [1, 0, 2, 3] rfl
      replace H := H.put c451 e; clear e
      refine hold trivial ?_
      refine arK hk hmx432 ?_
      have hs := Option.some.inj hF484; subst hs; clear hF484
      exact ⟨(), ⟨rfl, rfl, rfl, rfl, rfl, rfl, rfl, rfl, trivial⟩, H.sel [2, 0] rfl⟩
    · clear H e
      rintro T486 _ w485 (H : Cx w0 fp0 S0 w485 [Es (List (List Int)) m_ m_h, E (List (List Int)) r433 h5])
      refine boolE (z := false) geLen ?_
      refine sq ?_
      refine arK hk hmx326 ?_
      have hs := Option.some.inj hF434; subst hs; clear hF434
      exact ⟨(), ⟨rfl, rfl, rfl, rfl, trivial⟩, H.sel [0, 1] rfl⟩
  · clear H e
    rintro T490 _ w489 (H : Cx w0 fp0 S0 w489 [Es (List (List Int)) m_ m_h, E (List (List Int)) r327 h5])
    refine boolE (z := false) geLen ?_
    refine sq ?_
    cases hF328
    exact ⟨_, _, rfl, ⟨h5, rfl, rfl⟩, (H.sel [1] rfl).close ⟨cloE, trivial⟩⟩

theorem spec_fdNeg_c (p_ : Int) (a_ : Int) (y : Int) (hF : F_spec_fdNeg p_ a_ = some y) :
    ConF Tryd.prog 180 #[(.int .i64 p_), (.int .i64 a_)] [] [] (fun v Γ' => v = (.int .i64 y) ∧ Γ' = []) := by
  intro w0 S0 fp0 hI hS
  have H : Cx w0 fp0 S0 w0 [] := Cx.start hI hS
  clear hI hS
  refine enterC (args := [_, _]) gok Tryd.func180 rfl _ rfl rfl rfl ?_
  obtain ⟨a1, e, hF2⟩ := bindS hF; clear hF
  refine arO e ?_; clear e
  obtain ⟨a3, e, hF4⟩ := bindS hF2; clear hF2
  refine remO_ e ?_; clear e
  cases hF4
  exact ⟨_, _, rfl, ⟨rfl, rfl⟩, (H.sel [] rfl).close trivial⟩

theorem spec_spNull_c (p_ : Int) (size_ : Int) (rows_ : List (List Int)) (rows_h : Hd) (y : List (List Int)) (hF : F_spec_spNull p_ size_ rows_ = some y) :
    ConF Tryd.prog 157 #[(.int .i64 p_), (.int .i64 size_), (rows_h).v] [Es (List (List Int)) rows_ rows_h] [] (fun v Γ' => ∃ z0 : Hd, v = (z0).v ∧ Γ' = [E (List (List Int)) y z0]) := by
  intro w0 S0 fp0 hI hS
  have H : Cx w0 fp0 S0 w0 [Es (List (List Int)) rows_ rows_h] := Cx.start hI hS
  clear hI hS
  refine enterC (args := [_, _, _]) gok Tryd.func157 rfl _ rfl rfl rfl ?_
  obtain ⟨y2, e, hF3⟩ := bindS hF; clear hF
  have ey2 := e; clear e
  refine callF (spec_spReduce_c p_ size_ rows_ rows_h y2 ey2) (Γi := []) H ⟨Vw.sh 0 rfl, trivial⟩ ?_; clear H ey2
  rintro _ _ w4 ⟨h5, rfl, rfl⟩ (H : Cx w0 fp0 S0 w4 [E (List (List Int)) y2 h5, Es (List (List Int)) rows_ rows_h])
  obtain ⟨a7, e, hF8⟩ := bindS hF3; clear hF3
  refine make_ (α := Int) gok rfl rfl rfl rfl (makeCO_of e) H ?_; clear e H; intro h10 w9 hx H
  clear hx
  refine sq ?_
  refine lenE (H.ro (α := List Int) 0 rfl).len ?_
  have hmx37 := (H.ro (α := List Int) 0 rfl).max
  obtain ⟨r38, e, hF39⟩ := bindS hF8; clear hF8
  refine loopS _ a7.length (fun (k12 : Nat) (s35 : List Int) (_ : Unit) => [(0, (.int .i64 p_)), (1, (.int .i64 size_)), (7, (h5).v), (8, (h10).v), (24, (.int .i64 ((a7.length : Nat) : Int))), (25, (.int .i64 ((k12 : Nat) : Int)))]) (fun _ (s35 : List Int) (_ : Unit) w' => Cx w0 fp0 S0 w' [E (List (List Int)) y2 h5, E (List Int) s35 h10]) a7 () e ⟨rfl, rfl, rfl, rfl, rfl, rfl, trivial⟩ (H.sel [1, 0] rfl) ?_ ?_
  · clear H e
    rintro T41 k12 s35 _ w40 o42 hk (H : Cx w0 fp0 S0 w40 [E (List (List Int)) y2 h5, E (List Int) s35 h10]) hF43
    refine boolE (z := true) (ltLen hk) ?_
    refine sq ?_
    refine sq ?_
    obtain ⟨a50, e, hF51⟩ := bindS hF43; clear hF43
    have ea50 := e; clear e
    obtain ⟨p48, m49, c44, c45, c46⟩ := (H.ro (α := List Int) 1 rfl).setp ea50
    refine idxE c44 c45 c46 ?_
    replace H := H.sel [1, 0] rfl
    refine setS (α := Int) H c44 c45 ea50 ?_; clear H c44 c45 c46 ea50; intro w52 H
    refine arK hk hmx37 ?_
    have hs := Option.some.inj hF51; subst hs; clear hF51
    exact ⟨(), ⟨rfl, rfl, rfl, rfl, rfl, rfl, trivial⟩, H.sel [1, 0] rfl⟩
  · clear H e
    rintro T54 _ w53 (H : Cx w0 fp0 S0 w53 [E (List (List Int)) y2 h5, E (List Int) r38 h10])
    refine boolE (z := false) geLen ?_
    refine sq ?_
    refine sq ?_
    refine lenE (H.ro (α := List (List Int)) 0 rfl).len ?_
    replace H := H.frz
    have hmx132 := (H.rs (α := List (List Int)) 0 rfl).max
    obtain ⟨r133, e, hF134⟩ := bindS hF39; clear hF39
    refine loopS _ y2.length (fun (k57 : Nat) (s130 : List Int) (_ : Unit) => [(0, (.int .i64 p_)), (1, (.int .i64 size_)), (7, (h5).v), (8, (h10).v), (32, (h5).v), (33, (.int .i64 ((y2.length : Nat) : Int))), (34, (.int .i64 ((k57 : Nat) : Int)))]) (fun _ (s130 : List Int) (_ : Unit) w' => Cx w0 fp0 S0 w' [Es (List (List Int)) y2 h5, E (List Int) s130 h10]) r38 () e ⟨rfl, rfl, rfl, rfl, rfl, rfl, rfl, trivial⟩ (H.sel [0, 1] rfl) ?_ ?_
    · clear H e
      rintro T136 k57 s130 _ w135 o137 hk (H : Cx w0 fp0 S0 w135 [Es (List (List Int)) y2 h5, E (List Int) s130 h10]) hF138
      refine boolE (z := true) (ltLen hk) ?_
      refine sq ?_
      refine sq ?_
      obtain ⟨a145, e, hF146⟩ := bindS hF138; clear hF138
      have HH := H; clear H; obtain ⟨p143, m144, h147, c139, c140, c141, c142, H⟩ := HH.elL 0 rfl e; clear HH
      clear e
      refine idxE c139 c140 c141 ?_; clear c139 c140 c141
      refine load1 c142 ?_; clear c142
      obtain ⟨y149, e, hF150⟩ := bindS hF146; clear hF146
      have ey149 := e; clear e
      refine callF (spec_spLead_c a145 h147 y149 ey149) (Γi := []) H ⟨Vw.sh 0 rfl, trivial⟩ ?_; clear H ey149
      rintro _ _ w151 ⟨rfl, rfl⟩ (H : Cx w0 fp0 S0 w151 [Es (List Int) a145 h147, Es (List (List Int)) y2 h5, E (List Int) s130 h10])
      obtain ⟨a158, e, hF159⟩ := bindS hF150; clear hF150
      have ea158 := e; clear e
      obtain ⟨p156, m157, c152, c153, c154⟩ := (H.ro (α := List Int) 2 rfl).setp ea158
      refine idxE c152 c153 c154 ?_
      replace H := H.sel [2, 0, 1] rfl
      refine setS (α := Int) H c152 c153 ea158 ?_; clear H c152 c153 c154 ea158; intro w160 H
      refine arK hk hmx132 ?_
      have hs := Option.some.inj hF159; subst hs; clear hF159
      exact ⟨(), ⟨rfl, rfl, rfl, rfl, rfl, rfl, rfl, trivial⟩, H.sel [2, 0] rfl⟩
    · clear H e
      rintro T162 _ w161 (H : Cx w0 fp0 S0 w161 [Es (List (List Int)) y2 h5, E (List Int) r133 h10])
      refine boolE (z := false) geLen ?_
      refine sq ?_
      obtain ⟨r1338, hF1340, hF1339⟩ := bindS hF134; clear hF134
      refine cut (fun (q1341 : List (List Int) × Hd) => [(0, (.int .i64 p_)), (1, (.int .i64 size_)), (12, (q1341.2).v)]) (fun (q1341 : List (List Int) × Hd) w' => q1341.1 = r1338 ∧ Cx w0 fp0 S0 w' [E (List (List Int)) q1341.1 q1341.2]) ?_ ?_
      · skip
        replace H := H.nil (α := List Int)
        refine loopW _ (fun (s2117 : List (List Int) × Int) (g2118 : Hd) => [(0, (.int .i64 p_)), (1, (.int .i64 size_)), (7, (h5).v), (8, (h10).v), (12, (g2118).v), (13, (.int .i64 s2117.2))]) (fun (s2117 : List (List Int) × Int) (g2118 : Hd) w' => Cx w0 fp0 S0 w' [Es (List (List Int)) y2 h5, E (List Int) r133 h10, E (List (List Int)) s2117.1 g2118]) ([], 0) nilH hF1340 ⟨rfl, rfl, rfl, rfl, rfl, rfl, trivial⟩ (H.sel [1, 2, 0] rfl) ?_
        · clear H
          rintro T2125 ⟨s2117_0, s2117_1⟩ g2118 w2124 o2126 (H : Cx w0 fp0 S0 w2124 [Es (List (List Int)) y2 h5, E (List Int) r133 h10, E (List (List Int)) s2117_0 g2118]) hrt hF2127
          refine sq ?_
          obtain ⟨a2128, e, hF2129⟩ := bindS hF2127; clear hF2127
          refine boolO e ?_; clear e
          cases a2128
          · have hF2130 := condF hF2129; clear hF2129
            have hs := Option.some.inj hF2130; subst hs; clear hF2130
            have hF2131 : some _ = some _ := congrArg some (hrt _ rfl).symm
            exact ⟨(s2117_0, g2118), ⟨rfl, rfl, rfl, trivial⟩, Option.some.inj hF2131, H.sel [2] rfl⟩
          · have hF2132 := condT hF2129; clear hF2129
            obtain ⟨r2320, hF2322, hF2321⟩ := bindS hF2132; clear hF2132
            refine cut (fun (q2323 : List (List Int) × Hd) => [(0, (.int .i64 p_)), (1, (.int .i64 size_)), (7, (h5).v), (8, (h10).v), (12, (q2323.2).v), (13, (.int .i64 s2117_1))]) (fun (q2323 : List (List Int) × Hd) w' => q2323.1 = r2320 ∧ Cx w0 fp0 S0 w' [Es (List (List Int)) y2 h5, E (List Int) r133 h10, E (List (List Int)) q2323.1 q2323.2]) ?_ ?_
            · skip
              refine sq ?_
              obtain ⟨a2330, e, hF2331⟩ := bindS hF2322; clear hF2322
              obtain ⟨p2328, m2329, c2324, c2325, c2326, c2327⟩ := (H.ro (α := List Int) 1 rfl).at1 e; clear e
              refine idxE c2324 c2325 c2326 ?_; clear c2324 c2325 c2326
              refine load1 c2327 ?_; clear c2327
              obtain ⟨a2332, e, hF2333⟩ := bindS hF2331; clear hF2331
              refine boolO e ?_; clear e
              cases a2332
              · have hF2334 := condF hF2333; clear hF2333
                obtain ⟨a2335, e, hF2336⟩ := bindS hF2334; clear hF2334
                refine make_ (α := Int) gok rfl rfl rfl rfl (makeCO_of e) H ?_; clear e H; intro h2338 w2337 hx H
                clear hx
                obtain ⟨a2346, e, hF2347⟩ := bindS hF2336; clear hF2336
                have ea2346 := e; clear e
                obtain ⟨p2344, m2345, c2340, c2341, c2342⟩ := (H.ro (α := List Int) 0 rfl).setp ea2346
                refine idxE c2340 c2341 c2342 ?_
                refine setS (α := Int) H c2340 c2341 ea2346 ?_; clear H c2340 c2341 c2342 ea2346; intro w2348 H
                refine sq ?_
                refine lenE (H.rs (α := List (List Int)) 1 rfl).len ?_
                have hmx2444 := (H.rs (α := List (List Int)) 1 rfl).max
                obtain ⟨r2445, e, hF2446⟩ := bindS hF2347; clear hF2347
                refine loopS _ y2.length (fun (k2349 : Nat) (s2442 : List Int) (_ : Unit) => [(0, (.int .i64 p_)), (1, (.int .i64 size_)), (7, (h5).v), (8, (h10).v), (12, (g2118).v), (13, (.int .i64 s2117_1)), (14, (h2338).v), (60, (h5).v), (61, (.int .i64 ((y2.length : Nat) : Int))), (62, (.int .i64 ((k2349 : Nat) : Int)))]) (fun _ (s2442 : List Int) (_ : Unit) w' => Cx w0 fp0 S0 w' [Es (List (List Int)) y2 h5, E (List Int) r133 h10, E (List (List Int)) s2117_0 g2118, E (List Int) s2442 h2338]) a2346 () e ⟨rfl, rfl, rfl, rfl, rfl, rfl, rfl, rfl, rfl, rfl, trivial⟩ (H.sel [1, 2, 3, 0] rfl) ?_ ?_
                · clear H e
                  rintro T2448 k2349 s2442 _ w2447 o2449 hk (H : Cx w0 fp0 S0 w2447 [Es (List (List Int)) y2 h5, E (List Int) r133 h10, E (List (List Int)) s2117_0 g2118, E (List Int) s2442 h2338]) hF2450
                  refine boolE (z := true) (ltLen hk) ?_
                  refine sq ?_
                  refine sq ?_
                  obtain ⟨a2457, e, hF2458⟩ := bindS hF2450; clear hF2450
                  have HH := H; clear H; obtain ⟨p2455, m2456, h2459, c2451, c2452, c2453, c2454, H⟩ := HH.elL 0 rfl e; clear HH
                  clear e
                  refine idxE c2451 c2452 c2453 ?_; clear c2451 c2452 c2453
                  refine load1 c2454 ?_; clear c2454
                  refine heldX H [13] (.fst 0 (.fst 1 (.fst 2 (.fst 3 (.fst 6 (.fst 7 (.fst 8 (.fst 9 (.fst 4 (.fst 10 (.act 5 (.act 11 (.fst 12 (.act 13 .done)))))))))))))) mixed [] trivial (by kernel_rfl) ?_
                  clear H; intro w2461 H
                  have hX : Ext w2461 w2461 := Upd.refl _ _
                  have H0 := H
                  obtain ⟨a2468, e, hF2469⟩ := bindS hF2458; clear hF2458
                  have HH := H; clear H; obtain ⟨p2466, m2467, h2470, c2462, c2463, c2464, c2465, H⟩ := HH.elL 1 rfl e; clear HH
                  clear e
                  refine idxE c2462 c2463 c2464 ?_; clear c2462 c2463 c2464
                  obtain ⟨a2478, e, hF2479⟩ := bindS hF2469; clear hF2469
                  obtain ⟨p2476, m2477, c2472, c2473, c2474, c2475⟩ := (H.rs (α := List Int) 1 rfl).at1 e; clear e
                  refine idxE c2472 c2473 c2474 ?_; clear c2472 c2473 c2474
                  refine load1X c2465 ?_; clear c2465
                  refine load1X c2475 ?_; clear c2475
                  obtain ⟨y2480, e, hF2481⟩ := bindS hF2479; clear hF2479
                  have ey2480 := e; clear e
                  refine callFx (spec_spLead_c a2468 h2470 y2480 ey2480) H ⟨Vw.sh 0 rfl, trivial⟩ ?_; clear H ey2480
                  rintro _ _ w2482 ⟨rfl, rfl⟩ hx (H : Cx w0 fp0 S0 w2482 [Es (List Int) a2468 h2470, Es (List Int) a2457 h2459, Es (List (List Int)) y2 h5, E (List Int) r133 h10, E (List (List Int)) s2117_0 g2118, E (List Int) s2442 h2338])
                  replace hX := hX.trans0 hx; clear hx
                  refine hold hX ?_
                  obtain ⟨y2483, e, hF2484⟩ := bindS hF2481; clear hF2481
                  have ey2483 := e; clear e
                  refine callFx (spec_fdNeg_c p_ a2478 y2483 ey2483) H trivial ?_; clear H ey2483
                  rintro _ _ w2485 ⟨rfl, rfl⟩ hx (H : Cx w0 fp0 S0 w2485 [Es (List Int) a2468 h2470, Es (List Int) a2457 h2459, Es (List (List Int)) y2 h5, E (List Int) r133 h10, E (List (List Int)) s2117_0 g2118, E (List Int) s2442 h2338])
                  replace hX := hX.trans0 hx; clear hx
                  refine hold hX ?_
                  obtain ⟨a2492, e, hF2493⟩ := bindS hF2484; clear hF2484
                  have ea2492 := e; clear e
                  obtain ⟨p2490, m2491, c2486, c2487, c2488⟩ := (H.ro (α := List Int) 5 rfl).setp ea2492
                  refine idxE c2486 c2487 c2488 ?_
                  replace H := H.sel [5, 0, 1, 2, 3, 4] rfl
                  refine setS (α := Int) H c2486 c2487 ea2492 ?_; clear H c2486 c2487 c2488 ea2492; intro w2494 H
                  refine hold trivial ?_
                  refine arK hk hmx2444 ?_
                  have hs := Option.some.inj hF2493; subst hs; clear hF2493
                  exact ⟨(), ⟨rfl, rfl, rfl, rfl, rfl, rfl, rfl, rfl, rfl, rfl, trivial⟩, H.sel [3, 4, 5, 0] rfl⟩
                · clear H e
                  rintro T2496 _ w2495 (H : Cx w0 fp0 S0 w2495 [Es (List (List Int)) y2 h5, E (List Int) r133 h10, E (List (List Int)) s2117_0 g2118, E (List Int) r2445 h2338])
                  refine boolE (z := false) geLen ?_
                  refine sq ?_
                  replace H := H.sel [3, 0, 1, 2] rfl
                  refine lit1 (α := List Int) (g := h2338) gok rfl rfl rfl rfl rfl H ?_; clear H; intro h2500 w2499 hx H
                  clear hx
                  obtain ⟨a2502, e, hF2503⟩ := bindS hF2446; clear hF2446
                  replace H := H.sel [3, 0, 1, 2] rfl
                  refine append_ (α := List Int) gok rfl rfl rfl rfl H e ?_; clear e H; intro h2505 w2504 H
                  exact ⟨(a2502, h2505), ⟨rfl, rfl, rfl, rfl, rfl, rfl, trivial⟩, Option.some.inj hF2503, H.sel [1, 2, 0] rfl⟩
              · have hF2507 := condT hF2333; clear hF2333
                exact ⟨(s2117_0, g2118), ⟨rfl, rfl, rfl, rfl, rfl, rfl, trivial⟩, Option.some.inj hF2507, H.sel [0, 1, 2] rfl⟩
            · clear hF2322 H
              rintro T2509 ⟨s2317, g2318⟩ w2508 ⟨hr, (H : Cx w0 fp0 S0 w2508 [Es (List (List Int)) y2 h5, E (List Int) r133 h10, E (List (List Int)) s2317 g2318])⟩
              subst hr
              obtain ⟨a2510, e, hF2511⟩ := bindS hF2321; clear hF2321
              refine arO e ?_; clear e
              have hs := Option.some.inj hF2511; subst hs; clear hF2511
              exact ⟨(s2317, a2510), g2318, rfl, ⟨rfl, rfl, rfl, rfl, rfl, rfl, trivial⟩, H.sel [0, 1, 2] rfl⟩
      · clear hF1340 H
        rintro T2513 ⟨s1335, g1336⟩ w2512 ⟨hr, (H : Cx w0 fp0 S0 w2512 [E (List (List Int)) s1335 g1336])⟩
        subst hr
        obtain ⟨y2514, e, hF2515⟩ := bindS hF1339; clear hF1339
        have ey2514 := e; clear e
        refine callF (spec_spReduce_c p_ size_ s1335 g1336 y2514 ey2514) (Γi := []) H ⟨Vw.own 0 rfl, trivial⟩ ?_; clear H ey2514
        rintro _ _ w2516 ⟨h2517, rfl, rfl⟩ (H : Cx w0 fp0 S0 w2516 [E (List (List Int)) y2514 h2517, E (List (List Int)) s1335 g1336])
        cases hF2515
        exact ⟨_, _, rfl, ⟨h2517, rfl, rfl⟩, (H.sel [0] rfl).close ⟨cloE, trivial⟩⟩

theorem spec_ssHidden_c (p_ : Int) (s__0 : Int) (s__1 : Int) (s__2 : Int) (s__3 : List (List Int)) (s__3h : Hd) (s__4 : List (List Int)) (s__4h : Hd) (s__5 : List (List Int)) (s__5h : Hd) (s__6 : List (List Int)) (s__6h : Hd) (y : List (List Int)) (hF : F_spec_ssHidden p_ (s__0, s__1, s__2, s__3, s__4, s__5, s__6) = some y) :
    ConF Tryd.prog 114 #[(.int .i64 p_), (.agg #[(.int .i64 s__0), (.int .i64 s__1), (.int .i64 s__2), (s__3h).v, (s__4h).v, (s__5h).v, (s__6h).v])] [Es (List (List Int)) s__3 s__3h, Es (List (List Int)) s__4 s__4h, Es (List (List Int)) s__5 s__5h, Es (List (List Int)) s__6 s__6h] [] (fun v Γ' => ∃ z0 : Hd, v = (z0).v ∧ Γ' = [E (List (List Int)) y z0]) := by
  intro w0 S0 fp0 hI hS
  have H : Cx w0 fp0 S0 w0 [Es (List (List Int)) s__3 s__3h, Es (List (List Int)) s__4 s__4h, Es (List (List Int)) s__5 s__5h, Es (List (List Int)) s__6 s__6h] := Cx.start hI hS
  clear hI hS
  refine enterC (args := [_, _]) gok Tryd.func114 rfl _ rfl rfl rfl ?_
  refine box_ H ?_; clear H; intro b6 w5 hx H
  clear hx
  replace H : Cx w0 fp0 S0 w5 [Bx b6 [(.int .i64 s__0), (.int .i64 s__1), (.int .i64 s__2), (s__3h).v, (s__4h).v, (s__5h).v, (s__6h).v], Es (List (List Int)) s__3 s__3h, Es (List (List Int)) s__4 s__4h, Es (List (List Int)) s__5 s__5h, Es (List (List Int)) s__6 s__6h] := H
  obtain ⟨r77, hF79, hF78⟩ := bindS hF; clear hF
  refine heldJ H [16] (.fst 0 (.fst 2 (.fst 4 (.fst 6 (.fst 9 (.fst 11 (.fst 1 (.fst 3 (.fst 5 (.fst 7 (.fst 10 (.fst 12 (.alts (.alt 8 (.alts (.alt 13 (.fst 14 (.act 15 (.act 16 .done))) (.alt 15 (.act 13 (.fst 14 (.act 16 .done))) .no))) (.alt 15 (.act 8 (.act 13 (.fst 14 (.act 16 .done)))) .no))))))))))))))) mixed [] trivial (by kernel_rfl) (fun (q80 : (Int × Int × List (List Int) × List (List Int)) × (Hd × Hd × Nat)) => [(0, (.int .i64 p_)), (3, (.pointer (some ⟨b6, 0, none⟩))), (5, (.pointer (some ⟨q80.2.2.2, 0, none⟩)))]) (fun (q80 : (Int × Int × List (List Int) × List (List Int)) × (Hd × Hd × Nat)) w' => (q80.1.1, q80.1.2.1, q80.1.2.2.1, q80.1.2.2.2) = r77 ∧ Cx w0 fp0 S0 w' [Bx b6 [(.int .i64 s__0), (.int .i64 s__1), (.int .i64 s__2), (s__3h).v, (s__4h).v, (s__5h).v, (s__6h).v], Es (List (List Int)) s__3 s__3h, Es (List (List Int)) s__4 s__4h, Es (List (List Int)) s__5 s__5h, Es (List (List Int)) s__6 s__6h, Bx q80.2.2.2 [(.int .i64 q80.1.1), (.int .i64 q80.1.2.1), (.int .i64 0), (q80.2.1).v, (q80.2.2.1).v, (.slice none 0 0), (.slice none 0 0)], E (List (List Int)) q80.1.2.2.1 q80.2.1, E (List (List Int)) q80.1.2.2.2 q80.2.2.1]) ?_ ?_
  · skip
    clear H; intro w81 H
    have hX : Ext w81 w81 := Upd.refl _ _
    have H0 := H
    refine anyH (fun _ => fld gok rfl rfl rfl rfl ⟨rfl, rfl⟩) ?_
    refine anyH (fun _ => fld gok rfl rfl rfl rfl ⟨rfl, rfl⟩) ?_
    refine anyH (fun _ => fld gok rfl rfl rfl rfl ⟨rfl, rfl⟩) ?_
    refine anyH (fun _ => fld gok rfl rfl rfl rfl ⟨rfl, rfl⟩) ?_
    refine anyH (fun _ => fld gok rfl rfl rfl rfl ⟨rfl, rfl⟩) ?_
    refine anyH (fun _ => fld gok rfl rfl rfl rfl ⟨rfl, rfl⟩) ?_
    refine load1X (H.bx 0 rfl (j := 0) rfl) ?_
    refine load1X (H.bx 0 rfl (j := 2) rfl) ?_
    refine load1X (H.bx 0 rfl (j := 3) rfl) ?_
    refine load1X (H.bx 0 rfl (j := 0) rfl) ?_
    refine load1X (H.bx 0 rfl (j := 5) rfl) ?_
    refine load1X (H.bx 0 rfl (j := 2) rfl) ?_
    refine both ?_ ?_
    · skip
      obtain ⟨y96, e, hF97⟩ := bindS hF79; clear hF79
      have ey96 := e; clear e
      refine callFx (spec_ssTurn_c s__3 s__3h s__0 y96 ey96) H ⟨Vw.sh 1 rfl, trivial⟩ ?_; clear H ey96
      rintro _ _ w98 ⟨h99, rfl, rfl⟩ hx (H : Cx w0 fp0 S0 w98 [E (List (List Int)) y96 h99, Bx b6 [(.int .i64 s__0), (.int .i64 s__1), (.int .i64 s__2), (s__3h).v, (s__4h).v, (s__5h).v, (s__6h).v], Es (List (List Int)) s__3 s__3h, Es (List (List Int)) s__4 s__4h, Es (List (List Int)) s__5 s__5h, Es (List (List Int)) s__6 s__6h])
      replace hX := hX.trans0 hx; clear hx
      refine hold hX ?_
      refine both ?_ ?_
      · skip
        obtain ⟨y110, e, hF111⟩ := bindS hF97; clear hF97
        have ey110 := e; clear e
        refine callFx (spec_ssTurn_c s__5 s__5h s__2 y110 ey110) H ⟨Vw.sh 4 rfl, trivial⟩ ?_; clear H ey110
        rintro _ _ w112 ⟨h113, rfl, rfl⟩ hx (H : Cx w0 fp0 S0 w112 [E (List (List Int)) y110 h113, E (List (List Int)) y96 h99, Bx b6 [(.int .i64 s__0), (.int .i64 s__1), (.int .i64 s__2), (s__3h).v, (s__4h).v, (s__5h).v, (s__6h).v], Es (List (List Int)) s__3 s__3h, Es (List (List Int)) s__4 s__4h, Es (List (List Int)) s__5 s__5h, Es (List (List Int)) s__6 s__6h])
        replace hX := hX.trans0 hx; clear hx
        refine hold hX ?_
        refine anyH (fun _ => build_ (cs := #[(.int .i64 s__0), (.int .i64 s__2), (.int .i64 0), (h99).v, (h113).v, (.slice none 0 0), (.slice none 0 0)]) gok rfl rfl rfl ⟨rfl, rfl⟩) ?_
        refine alloc_ gok rfl H ?_; clear H; intro b116 w115 hx H
        replace hX := hX.trans0 hx; clear hx
        replace H : Cx w0 fp0 S0 w115 [Bx b116 [(.int .i64 0), (.int .i64 0), (.int .i64 0), (.slice none 0 0), (.slice none 0 0), (.slice none 0 0), (.slice none 0 0)], E (List (List Int)) y110 h113, E (List (List Int)) y96 h99, Bx b6 [(.int .i64 s__0), (.int .i64 s__1), (.int .i64 s__2), (s__3h).v, (s__4h).v, (s__5h).v, (s__6h).v], Es (List (List Int)) s__3 s__3h, Es (List (List Int)) s__4 s__4h, Es (List (List Int)) s__5 s__5h, Es (List (List Int)) s__6 s__6h] := H
        refine hold hX ?_
        refine stA gok [(.int .i64 s__0), (.int .i64 s__2), (.int .i64 0), (h99).v, (h113).v, (.slice none 0 0), (.slice none 0 0)] rfl H rfl rfl rfl ?_; clear H; intro w118 H
        replace H : Cx w0 fp0 S0 w118 [Bx b116 [(.int .i64 s__0), (.int .i64 s__2), (.int .i64 0), (h99).v, (h113).v, (.slice none 0 0), (.slice none 0 0)], E (List (List Int)) y110 h113, E (List (List Int)) y96 h99, Bx b6 [(.int .i64 s__0), (.int .i64 s__1), (.int .i64 s__2), (s__3h).v, (s__4h).v, (s__5h).v, (s__6h).v], Es (List (List Int)) s__3 s__3h, Es (List (List Int)) s__4 s__4h, Es (List (List Int)) s__5 s__5h, Es (List (List Int)) s__6 s__6h] := H
        refine hold trivial ?_
        exact ⟨((s__0, s__2, y96, y110), (h99, h113, b116)), ⟨rfl, rfl, rfl, trivial⟩, Option.some.inj hF111, H.sel [3, 4, 5, 6, 7, 0, 2, 1] rfl⟩
      · skip
        refine both ?_ ?_
        · skip
          obtain ⟨a119, eq120, hF121⟩ := bindS hF97; clear hF97
          refine alloc_ gok rfl H ?_; clear H; intro b123 w122 hx H
          replace hX := hX.trans0 hx; clear hx
          replace H : Cx w0 fp0 S0 w122 [Bx b123 [(.int .i64 0), (.int .i64 0), (.int .i64 0), (.slice none 0 0), (.slice none 0 0), (.slice none 0 0), (.slice none 0 0)], E (List (List Int)) y96 h99, Bx b6 [(.int .i64 s__0), (.int .i64 s__1), (.int .i64 s__2), (s__3h).v, (s__4h).v, (s__5h).v, (s__6h).v], Es (List (List Int)) s__3 s__3h, Es (List (List Int)) s__4 s__4h, Es (List (List Int)) s__5 s__5h, Es (List (List Int)) s__6 s__6h] := H
          refine hold hX ?_
          have e := eq120; clear eq120
          have ea119 := e; clear e
          refine callFx (spec_ssTurn_c s__5 s__5h s__2 a119 ea119) H ⟨Vw.sh 5 rfl, trivial⟩ ?_; clear H ea119
          rintro _ _ w125 ⟨h126, rfl, rfl⟩ hx (H : Cx w0 fp0 S0 w125 [E (List (List Int)) a119 h126, Bx b123 [(.int .i64 0), (.int .i64 0), (.int .i64 0), (.slice none 0 0), (.slice none 0 0), (.slice none 0 0), (.slice none 0 0)], E (List (List Int)) y96 h99, Bx b6 [(.int .i64 s__0), (.int .i64 s__1), (.int .i64 s__2), (s__3h).v, (s__4h).v, (s__5h).v, (s__6h).v], Es (List (List Int)) s__3 s__3h, Es (List (List Int)) s__4 s__4h, Es (List (List Int)) s__5 s__5h, Es (List (List Int)) s__6 s__6h])
          replace hX := hX.trans0 hx; clear hx
          refine hold hX ?_
          refine anyH (fun _ => build_ (cs := #[(.int .i64 s__0), (.int .i64 s__2), (.int .i64 0), (h99).v, (h126).v, (.slice none 0 0), (.slice none 0 0)]) gok rfl rfl rfl ⟨rfl, rfl⟩) ?_
          replace H := H.sel [1, 0, 2, 3, 4, 5, 6, 7] rfl
          refine stA gok [(.int .i64 s__0), (.int .i64 s__2), (.int .i64 0), (h99).v, (h126).v, (.slice none 0 0), (.slice none 0 0)] rfl H rfl rfl rfl ?_; clear H; intro w128 H
          replace H : Cx w0 fp0 S0 w128 [Bx b123 [(.int .i64 s__0), (.int .i64 s__2), (.int .i64 0), (h99).v, (h126).v, (.slice none 0 0), (.slice none 0 0)], E (List (List Int)) a119 h126, E (List (List Int)) y96 h99, Bx b6 [(.int .i64 s__0), (.int .i64 s__1), (.int .i64 s__2), (s__3h).v, (s__4h).v, (s__5h).v, (s__6h).v], Es (List (List Int)) s__3 s__3h, Es (List (List Int)) s__4 s__4h, Es (List (List Int)) s__5 s__5h, Es (List (List Int)) s__6 s__6h] := H
          refine hold trivial ?_
          exact ⟨((s__0, s__2, y96, a119), (h99, h126, b123)), ⟨rfl, rfl, rfl, trivial⟩, Option.some.inj hF121, H.sel [3, 4, 5, 6, 7, 0, 2, 1] rfl⟩
        · skip
          exact trivial
    · skip
      refine both ?_ ?_
      · skip
        obtain ⟨a129, eq130, hF131⟩ := bindS hF79; clear hF79
        obtain ⟨a132, eq133, hF134⟩ := bindS hF131; clear hF131
        refine alloc_ gok rfl H ?_; clear H; intro b136 w135 hx H
        replace hX := hX.trans0 hx; clear hx
        replace H : Cx w0 fp0 S0 w135 [Bx b136 [(.int .i64 0), (.int .i64 0), (.int .i64 0), (.slice none 0 0), (.slice none 0 0), (.slice none 0 0), (.slice none 0 0)], Bx b6 [(.int .i64 s__0), (.int .i64 s__1), (.int .i64 s__2), (s__3h).v, (s__4h).v, (s__5h).v, (s__6h).v], Es (List (List Int)) s__3 s__3h, Es (List (List Int)) s__4 s__4h, Es (List (List Int)) s__5 s__5h, Es (List (List Int)) s__6 s__6h] := H
        refine hold hX ?_
        have e := eq130; clear eq130
        have ea129 := e; clear e
        refine callFx (spec_ssTurn_c s__3 s__3h s__0 a129 ea129) H ⟨Vw.sh 2 rfl, trivial⟩ ?_; clear H ea129
        rintro _ _ w138 ⟨h139, rfl, rfl⟩ hx (H : Cx w0 fp0 S0 w138 [E (List (List Int)) a129 h139, Bx b136 [(.int .i64 0), (.int .i64 0), (.int .i64 0), (.slice none 0 0), (.slice none 0 0), (.slice none 0 0), (.slice none 0 0)], Bx b6 [(.int .i64 s__0), (.int .i64 s__1), (.int .i64 s__2), (s__3h).v, (s__4h).v, (s__5h).v, (s__6h).v], Es (List (List Int)) s__3 s__3h, Es (List (List Int)) s__4 s__4h, Es (List (List Int)) s__5 s__5h, Es (List (List Int)) s__6 s__6h])
        replace hX := hX.trans0 hx; clear hx
        refine hold hX ?_
        have e := eq133; clear eq133
        have ea132 := e; clear e
        refine callFx (spec_ssTurn_c s__5 s__5h s__2 a132 ea132) H ⟨Vw.sh 5 rfl, trivial⟩ ?_; clear H ea132
        rintro _ _ w141 ⟨h142, rfl, rfl⟩ hx (H : Cx w0 fp0 S0 w141 [E (List (List Int)) a132 h142, E (List (List Int)) a129 h139, Bx b136 [(.int .i64 0), (.int .i64 0), (.int .i64 0), (.slice none 0 0), (.slice none 0 0), (.slice none 0 0), (.slice none 0 0)], Bx b6 [(.int .i64 s__0), (.int .i64 s__1), (.int .i64 s__2), (s__3h).v, (s__4h).v, (s__5h).v, (s__6h).v], Es (List (List Int)) s__3 s__3h, Es (List (List Int)) s__4 s__4h, Es (List (List Int)) s__5 s__5h, Es (List (List Int)) s__6 s__6h])
        replace hX := hX.trans0 hx; clear hx
        refine hold hX ?_
        refine anyH (fun _ => build_ (cs := #[(.int .i64 s__0), (.int .i64 s__2), (.int .i64 0), (h139).v, (h142).v, (.slice none 0 0), (.slice none 0 0)]) gok rfl rfl rfl ⟨rfl, rfl⟩) ?_
        replace H := H.sel [2, 0, 1, 3, 4, 5, 6, 7] rfl
        refine stA gok [(.int .i64 s__0), (.int .i64 s__2), (.int .i64 0), (h139).v, (h142).v, (.slice none 0 0), (.slice none 0 0)] rfl H rfl rfl rfl ?_; clear H; intro w144 H
        replace H : Cx w0 fp0 S0 w144 [Bx b136 [(.int .i64 s__0), (.int .i64 s__2), (.int .i64 0), (h139).v, (h142).v, (.slice none 0 0), (.slice none 0 0)], E (List (List Int)) a132 h142, E (List (List Int)) a129 h139, Bx b6 [(.int .i64 s__0), (.int .i64 s__1), (.int .i64 s__2), (s__3h).v, (s__4h).v, (s__5h).v, (s__6h).v], Es (List (List Int)) s__3 s__3h, Es (List (List Int)) s__4 s__4h, Es (List (List Int)) s__5 s__5h, Es (List (List Int)) s__6 s__6h] := H
        refine hold trivial ?_
        exact ⟨((s__0, s__2, a129, a132), (h139, h142, b136)), ⟨rfl, rfl, rfl, trivial⟩, Option.some.inj hF134, H.sel [3, 4, 5, 6, 7, 0, 2, 1] rfl⟩
      · skip
        exact trivial
  · clear hF79 H
    rintro T146 ⟨⟨s72_0, s72_1, s72_2, s72_3⟩, ⟨g73_0, g73_1, g73_2⟩⟩ w145 ⟨hr, (H : Cx w0 fp0 S0 w145 [Bx b6 [(.int .i64 s__0), (.int .i64 s__1), (.int .i64 s__2), (s__3h).v, (s__4h).v, (s__5h).v, (s__6h).v], Es (List (List Int)) s__3 s__3h, Es (List (List Int)) s__4 s__4h, Es (List (List Int)) s__5 s__5h, Es (List (List Int)) s__6 s__6h, Bx g73_2 [(.int .i64 s72_0), (.int .i64 s72_1), (.int .i64 0), (g73_0).v, (g73_1).v, (.slice none 0 0), (.slice none 0 0)], E (List (List Int)) s72_2 g73_0, E (List (List Int)) s72_3 g73_1])⟩
    subst hr
    refine sq ?_
    refine fld gok rfl rfl rfl rfl ?_
    refine load1 (H.bx 5 rfl (j := 4) rfl) ?_
    refine lenE (H.ro (α := List (List Int)) 7 rfl).len ?_
    have hmx212 := (H.ro (α := List (List Int)) 7 rfl).max
    obtain ⟨r213, e, hF214⟩ := bindS hF78; clear hF78
    refine loopS _ s72_3.length (fun (k147 : Nat) (s210 : List (List Int)) (_ : Unit) => [(0, (.int .i64 p_)), (3, (.pointer (some ⟨b6, 0, none⟩))), (5, (.pointer (some ⟨g73_2, 0, none⟩))), (24, (.int .i64 ((s72_3.length : Nat) : Int))), (25, (.int .i64 ((k147 : Nat) : Int)))]) (fun _ (s210 : List (List Int)) (_ : Unit) w' => Cx w0 fp0 S0 w' [Bx b6 [(.int .i64 s__0), (.int .i64 s__1), (.int .i64 s__2), (s__3h).v, (s__4h).v, (s__5h).v, (s__6h).v], Es (List (List Int)) s__3 s__3h, Es (List (List Int)) s__4 s__4h, Es (List (List Int)) s__5 s__5h, Es (List (List Int)) s__6 s__6h, Bx g73_2 [(.int .i64 s72_0), (.int .i64 s72_1), (.int .i64 0), (g73_0).v, (g73_1).v, (.slice none 0 0), (.slice none 0 0)], E (List (List Int)) s72_2 g73_0, E (List (List Int)) s210 g73_1]) s72_3 () e ⟨rfl, rfl, rfl, rfl, rfl, trivial⟩ (H.sel [0, 1, 2, 3, 4, 5, 6, 7] rfl) ?_ ?_
    · clear H e
      rintro T216 k147 s210 _ w215 o217 hk (H : Cx w0 fp0 S0 w215 [Bx b6 [(.int .i64 s__0), (.int .i64 s__1), (.int .i64 s__2), (s__3h).v, (s__4h).v, (s__5h).v, (s__6h).v], Es (List (List Int)) s__3 s__3h, Es (List (List Int)) s__4 s__4h, Es (List (List Int)) s__5 s__5h, Es (List (List Int)) s__6 s__6h, Bx g73_2 [(.int .i64 s72_0), (.int .i64 s72_1), (.int .i64 0), (g73_0).v, (g73_1).v, (.slice none 0 0), (.slice none 0 0)], E (List (List Int)) s72_2 g73_0, E (List (List Int)) s210 g73_1]) hF218
      refine boolE (z := true) (ltLen hk) ?_
      refine sq ?_
      refine sq ?_
      refine fld gok rfl rfl rfl rfl ?_
      refine load1 (H.bx 5 rfl (j := 4) rfl) ?_
      obtain ⟨a225, e, hF226⟩ := bindS hF218; clear hF218
      replace H := H.sel [7, 0, 1, 2, 3, 4, 5, 6] rfl
      replace H := H.toEH (α := List Int)
      have HH := H; clear H; obtain ⟨p223, m224, h227, c219, c220, c221, c222, H⟩ := HH.peekL e; clear HH
      clear e
      refine idxE c219 c220 c221 ?_
      refine load1 c222 ?_; clear c222
      have hmx228 := (H.rh (α := List Int) 0 rfl 0 rfl).max
      refine lenE (H.rh (α := List Int) 0 rfl 0 rfl).len ?_
      obtain ⟨a229, e, hF230⟩ := bindS hF226; clear hF226
      refine boolO e ?_; clear e
      replace H := H.ofEH
      cases a229
      · have hF231 := condF hF230; clear hF230
        refine arK hk hmx212 ?_
        have hs := Option.some.inj hF231; subst hs; clear hF231
        exact ⟨(), ⟨rfl, rfl, rfl, rfl, rfl, trivial⟩, H.sel [1, 2, 3, 4, 5, 6, 7, 0] rfl⟩
      · have hF232 := condT hF230; clear hF230
        refine heldX H [7] (.fst 0 (.fst 2 (.fst 3 (.fst 1 (.fst 4 (.act 5 (.fst 6 (.act 7 .done)))))))) mixed [] trivial (by kernel_rfl) ?_
        clear H; intro w233 H
        have hX : Ext w233 w233 := Upd.refl _ _
        have H0 := H
        refine anyH (fun _ => fld gok rfl rfl rfl rfl ⟨rfl, rfl⟩) ?_
        refine anyH (fun _ => fld gok rfl rfl rfl rfl ⟨rfl, rfl⟩) ?_
        refine load1X (H.bx 6 rfl (j := 4) rfl) ?_
        refine load1X (H.bx 1 rfl (j := 0) rfl) ?_
        obtain ⟨a234, e, hF235⟩ := bindS hF232; clear hF232
        refine make_ (α := Int) gok rfl rfl rfl rfl (makeCO_of e) H ?_; clear e H; intro h237 w236 hx H
        replace hX := hX.trans0 hx; clear hx
        refine hold hX ?_
        obtain ⟨a245, e, hF246⟩ := bindS hF235; clear hF235
        have ea245 := e; clear e
        obtain ⟨p243, m244, c239, c240, c241⟩ := (H.ro (α := List (List Int)) 1 rfl).setp ea245
        refine idxE c239 c240 c241 ?_
        replace H := H.sel [1, 0, 2, 3, 4, 5, 6, 7, 8] rfl
        refine setL H c239 c240 ea245 ?_; clear H c239 c240 c241 ea245; intro w247 H
        refine hold trivial ?_
        refine arK hk hmx212 ?_
        have hs := Option.some.inj hF246; subst hs; clear hF246
        exact ⟨(), ⟨rfl, rfl, rfl, rfl, rfl, trivial⟩, H.sel [1, 2, 3, 4, 5, 6, 7, 0] rfl⟩
    · clear H e
      rintro T249 _ w248 (H : Cx w0 fp0 S0 w248 [Bx b6 [(.int .i64 s__0), (.int .i64 s__1), (.int .i64 s__2), (s__3h).v, (s__4h).v, (s__5h).v, (s__6h).v], Es (List (List Int)) s__3 s__3h, Es (List (List Int)) s__4 s__4h, Es (List (List Int)) s__5 s__5h, Es (List (List Int)) s__6 s__6h, Bx g73_2 [(.int .i64 s72_0), (.int .i64 s72_1), (.int .i64 0), (g73_0).v, (g73_1).v, (.slice none 0 0), (.slice none 0 0)], E (List (List Int)) s72_2 g73_0, E (List (List Int)) r213 g73_1])
      refine boolE (z := false) geLen ?_
      refine sq ?_
      refine heldX H [] (.fst 0 (.fst 1 (.fst 3 (.fst 2 (.fst 4 (.act 5 (.act 6 (.fst 7 .done)))))))) mixed [] trivial (by kernel_rfl) ?_
      clear H; intro w252 H
      have hX : Ext w252 w252 := Upd.refl _ _
      have H0 := H
      refine anyH (fun _ => fld gok rfl rfl rfl rfl ⟨rfl, rfl⟩) ?_
      refine load1X (H.bx 0 rfl (j := 0) rfl) ?_
      refine loadNX [(.int .i64 s72_0), (.int .i64 s72_1), (.int .i64 0), (g73_0).v, (g73_1).v, (.slice none 0 0), (.slice none 0 0)] rfl (fun j u hj => H.bx 5 rfl hj) ?_
      replace H := H.nil (α := List Int)
      replace H := H.nil (α := List Int)
      obtain ⟨y255, e, hF256⟩ := bindS hF214; clear hF214
      have ey255 := e; clear e
      refine callFx (spec_ssReach_c p_ s72_0 s72_1 0 s72_2 g73_0 r213 g73_1 [] nilH [] nilH y255 ey255) H ⟨Vw.own 8 rfl, Vw.own 9 rfl, Vw.own 1 rfl, Vw.own 0 rfl, trivial⟩ ?_; clear H ey255
      rintro _ _ w257 ⟨h258, rfl, rfl⟩ hx (H : Cx w0 fp0 S0 w257 [E (List (List Int)) y255 h258, E (List (List Int)) [] nilH, E (List (List Int)) [] nilH, Bx b6 [(.int .i64 s__0), (.int .i64 s__1), (.int .i64 s__2), (s__3h).v, (s__4h).v, (s__5h).v, (s__6h).v], Es (List (List Int)) s__3 s__3h, Es (List (List Int)) s__4 s__4h, Es (List (List Int)) s__5 s__5h, Es (List (List Int)) s__6 s__6h, Bx g73_2 [(.int .i64 s72_0), (.int .i64 s72_1), (.int .i64 0), (g73_0).v, (g73_1).v, (.slice none 0 0), (.slice none 0 0)], E (List (List Int)) s72_2 g73_0, E (List (List Int)) r213 g73_1])
      replace hX := hX.trans0 hx; clear hx
      refine hold hX ?_
      obtain ⟨y260, e, hF261⟩ := bindS hF256; clear hF256
      have ey260 := e; clear e
      refine callFx (spec_spNull_c p_ s__0 y255 h258 y260 ey260) H ⟨Vw.own 0 rfl, trivial⟩ ?_; clear H ey260
      rintro _ _ w262 ⟨h263, rfl, rfl⟩ hx (H : Cx w0 fp0 S0 w262 [E (List (List Int)) y260 h263, E (List (List Int)) y255 h258, E (List (List Int)) [] nilH, E (List (List Int)) [] nilH, Bx b6 [(.int .i64 s__0), (.int .i64 s__1), (.int .i64 s__2), (s__3h).v, (s__4h).v, (s__5h).v, (s__6h).v], Es (List (List Int)) s__3 s__3h, Es (List (List Int)) s__4 s__4h, Es (List (List Int)) s__5 s__5h, Es (List (List Int)) s__6 s__6h, Bx g73_2 [(.int .i64 s72_0), (.int .i64 s72_1), (.int .i64 0), (g73_0).v, (g73_1).v, (.slice none 0 0), (.slice none 0 0)], E (List (List Int)) s72_2 g73_0, E (List (List Int)) r213 g73_1])
      replace hX := hX.trans0 hx; clear hx
      refine hold hX ?_
      cases hF261
      exact ⟨_, _, rfl, ⟨h263, rfl, rfl⟩, (H.sel [0] rfl).close ⟨cloE, trivial⟩⟩

theorem spec_ssClear_c (p_ : Int) (u_ : List (List Int)) (u_h : Hd) (keep_ : List Int) (keep_h : Hd) (v_ : List Int) (v_h : Hd) (y : List Int) (hF : F_spec_ssClear p_ u_ keep_ v_ = some y) :
    ConF Tryd.prog 160 #[(.int .i64 p_), (u_h).v, (keep_h).v, (v_h).v] [Es (List (List Int)) u_ u_h, Es (List Int) keep_ keep_h, Es (List Int) v_ v_h] [] (fun v Γ' => ∃ z0 : Hd, v = (z0).v ∧ Γ' = [E (List Int) y z0]) := by
  intro w0 S0 fp0 hI hS
  have H : Cx w0 fp0 S0 w0 [Es (List (List Int)) u_ u_h, Es (List Int) keep_ keep_h, Es (List Int) v_ v_h] := Cx.start hI hS
  clear hI hS
  refine enterC (args := [_, _, _, _]) gok Tryd.func160 rfl _ rfl rfl rfl ?_
  obtain ⟨y4, e, hF5⟩ := bindS hF; clear hF
  have ey4 := e; clear e
  refine callF (spec_l1Own_c v_ v_h y4 ey4) (Γi := []) H ⟨Vw.sh 2 rfl, trivial⟩ ?_; clear H ey4
  rintro _ _ w6 ⟨h7, rfl, rfl⟩ (H : Cx w0 fp0 S0 w6 [E (List Int) y4 h7, Es (List (List Int)) u_ u_h, Es (List Int) keep_ keep_h, Es (List Int) v_ v_h])
  refine sq ?_
  refine lenE (H.rs (α := List (List Int)) 1 rfl).len ?_
  have hmx286 := (H.rs (α := List (List Int)) 1 rfl).max
  obtain ⟨r287, e, hF288⟩ := bindS hF5; clear hF5
  refine loopS _ u_.length (fun (k9 : Nat) (s284 : List Int) (_ : Unit) => [(0, (.int .i64 p_)), (2, (keep_h).v), (3, (h7).v), (18, (u_h).v), (19, (.int .i64 ((u_.length : Nat) : Int))), (20, (.int .i64 ((k9 : Nat) : Int)))]) (fun _ (s284 : List Int) (_ : Unit) w' => Cx w0 fp0 S0 w' [Es (List Int) keep_ keep_h, E (List Int) s284 h7, Es (List (List Int)) u_ u_h]) y4 () e ⟨rfl, rfl, rfl, rfl, rfl, rfl, trivial⟩ (H.sel [2, 0, 1] rfl) ?_ ?_
  · clear H e
    rintro T290 k9 s284 _ w289 o291 hk (H : Cx w0 fp0 S0 w289 [Es (List Int) keep_ keep_h, E (List Int) s284 h7, Es (List (List Int)) u_ u_h]) hF292
    refine boolE (z := true) (ltLen hk) ?_
    refine sq ?_
    refine sq ?_
    obtain ⟨a299, e, hF300⟩ := bindS hF292; clear hF292
    have HH := H; clear H; obtain ⟨p297, m298, h301, c293, c294, c295, c296, H⟩ := HH.elL 2 rfl e; clear HH
    clear e
    refine idxE c293 c294 c295 ?_; clear c293 c294 c295
    refine load1 c296 ?_; clear c296
    obtain ⟨y303, e, hF304⟩ := bindS hF300; clear hF300
    have ey303 := e; clear e
    refine callF (spec_spLead_c a299 h301 y303 ey303) (Γi := []) H ⟨Vw.sh 0 rfl, trivial⟩ ?_; clear H ey303
    rintro _ _ w305 ⟨rfl, rfl⟩ (H : Cx w0 fp0 S0 w305 [Es (List Int) a299 h301, Es (List Int) keep_ keep_h, E (List Int) s284 h7, Es (List (List Int)) u_ u_h])
    obtain ⟨a312, e, hF313⟩ := bindS hF304; clear hF304
    obtain ⟨p310, m311, c306, c307, c308, c309⟩ := (H.ro (α := List Int) 2 rfl).at1 e; clear e
    refine idxE c306 c307 c308 ?_; clear c306 c307 c308
    refine load1 c309 ?_; clear c309
    refine lenE (H.ro (α := List Int) 2 rfl).len ?_
    have hmx385 := (H.ro (α := List Int) 2 rfl).max
    obtain ⟨r386, e, hF387⟩ := bindS hF313; clear hF313
    refine loopS _ s284.length (fun (k314 : Nat) (s383 : List Int) (_ : Unit) => [(0, (.int .i64 p_)), (2, (keep_h).v), (3, (h7).v), (10, (h301).v), (11, (.int .i64 a312)), (18, (u_h).v), (19, (.int .i64 ((u_.length : Nat) : Int))), (20, (.int .i64 ((k9 : Nat) : Int))), (30, (.int .i64 ((s284.length : Nat) : Int))), (31, (.int .i64 ((k314 : Nat) : Int)))]) (fun _ (s383 : List Int) (_ : Unit) w' => Cx w0 fp0 S0 w' [Es (List Int) keep_ keep_h, E (List Int) s383 h7, Es (List Int) a299 h301, Es (List (List Int)) u_ u_h]) s284 () e ⟨rfl, rfl, rfl, rfl, rfl, rfl, rfl, rfl, rfl, rfl, trivial⟩ (H.sel [1, 2, 0, 3] rfl) ?_ ?_
    · clear H e
      rintro T389 k314 s383 _ w388 o390 hk (H : Cx w0 fp0 S0 w388 [Es (List Int) keep_ keep_h, E (List Int) s383 h7, Es (List Int) a299 h301, Es (List (List Int)) u_ u_h]) hF391
      refine boolE (z := true) (ltLen hk) ?_
      refine sq ?_
      refine sq ?_
      refine heldX H [16] (.fst 0 (.fst 1 (.fst 2 (.fst 3 (.fst 4 (.fst 5 (.fst 7 (.fst 8 (.fst 9 (.fst 10 (.fst 11 (.fst 6 (.fst 12 (.act 13 (.act 14 (.fst 15 (.act 16 .done))))))))))))))))) mixed [] trivial (by kernel_rfl) ?_
      clear H; intro w392 H
      have hX : Ext w392 w392 := Upd.refl _ _
      have H0 := H
      obtain ⟨a399, e, hF400⟩ := bindS hF391; clear hF391
      obtain ⟨p397, m398, c393, c394, c395, c396⟩ := (H.ro (α := List Int) 1 rfl).at1 e; clear e
      refine idxE c393 c394 c395 ?_; clear c393 c394 c395
      obtain ⟨a407, e, hF408⟩ := bindS hF400; clear hF400
      obtain ⟨p405, m406, c401, c402, c403, c404⟩ := (H.rs (α := List Int) 2 rfl).at1 e; clear e
      refine idxE c401 c402 c403 ?_; clear c401 c402 c403
      refine load1X c396 ?_; clear c396
      refine load1X c404 ?_; clear c404
      obtain ⟨y409, e, hF410⟩ := bindS hF408; clear hF408
      have ey409 := e; clear e
      refine callFx (spec_fdMul_c p_ a312 a407 y409 ey409) H trivial ?_; clear H ey409
      rintro _ _ w411 ⟨rfl, rfl⟩ hx (H : Cx w0 fp0 S0 w411 [Es (List Int) keep_ keep_h, E (List Int) s383 h7, Es (List Int) a299 h301, Es (List (List Int)) u_ u_h])
      replace hX := hX.trans0 hx; clear hx
      refine hold hX ?_
      obtain ⟨y412, e, hF413⟩ := bindS hF410; clear hF410
      have ey412 := e; clear e
      refine callFx (spec_fdSub_c p_ a399 y409 y412 ey412) H trivial ?_; clear H ey412
      rintro _ _ w414 ⟨rfl, rfl⟩ hx (H : Cx w0 fp0 S0 w414 [Es (List Int) keep_ keep_h, E (List Int) s383 h7, Es (List Int) a299 h301, Es (List (List Int)) u_ u_h])
      replace hX := hX.trans0 hx; clear hx
      refine hold hX ?_
      obtain ⟨a421, e, hF422⟩ := bindS hF413; clear hF413
      have ea421 := e; clear e
      obtain ⟨p419, m420, c415, c416, c417⟩ := (H.ro (α := List Int) 1 rfl).setp ea421
      refine idxE c415 c416 c417 ?_
      replace H := H.sel [1, 0, 2, 3] rfl
      refine setS (α := Int) H c415 c416 ea421 ?_; clear H c415 c416 c417 ea421; intro w423 H
      refine hold trivial ?_
      refine arK hk hmx385 ?_
      have hs := Option.some.inj hF422; subst hs; clear hF422
      exact ⟨(), ⟨rfl, rfl, rfl, rfl, rfl, rfl, rfl, rfl, rfl, rfl, trivial⟩, H.sel [1, 0, 2, 3] rfl⟩
    · clear H e
      rintro T425 _ w424 (H : Cx w0 fp0 S0 w424 [Es (List Int) keep_ keep_h, E (List Int) r386 h7, Es (List Int) a299 h301, Es (List (List Int)) u_ u_h])
      refine boolE (z := false) geLen ?_
      refine sq ?_
      refine arK hk hmx286 ?_
      have hs := Option.some.inj hF387; subst hs; clear hF387
      exact ⟨(), ⟨rfl, rfl, rfl, rfl, rfl, rfl, trivial⟩, H.sel [0, 1, 3] rfl⟩
  · clear H e
    rintro T429 _ w428 (H : Cx w0 fp0 S0 w428 [Es (List Int) keep_ keep_h, E (List Int) r287 h7, Es (List (List Int)) u_ u_h])
    refine boolE (z := false) geLen ?_
    refine sq ?_
    refine sq ?_
    refine lenE (H.rs (α := List Int) 0 rfl).len ?_
    have hmx490 := (H.rs (α := List Int) 0 rfl).max
    obtain ⟨r491, e, hF492⟩ := bindS hF288; clear hF288
    replace H := H.nil (α := Int)
    refine loopS _ keep_.length (fun (k432 : Nat) (s487 : List Int) (g488 : Hd) => [(3, (h7).v), (13, (g488).v), (52, (keep_h).v), (53, (.int .i64 ((keep_.length : Nat) : Int))), (54, (.int .i64 ((k432 : Nat) : Int)))]) (fun _ (s487 : List Int) (g488 : Hd) w' => Cx w0 fp0 S0 w' [E (List Int) r287 h7, E (List Int) s487 g488, Es (List Int) keep_ keep_h]) [] nilH e ⟨rfl, rfl, rfl, rfl, rfl, trivial⟩ (H.sel [2, 0, 1] rfl) ?_ ?_
    · clear H e
      rintro T495 k432 s487 g488 w494 o496 hk (H : Cx w0 fp0 S0 w494 [E (List Int) r287 h7, E (List Int) s487 g488, Es (List Int) keep_ keep_h]) hF497
      refine boolE (z := true) (ltLen hk) ?_
      refine sq ?_
      refine sq ?_
      obtain ⟨a504, e, hF505⟩ := bindS hF497; clear hF497
      obtain ⟨p502, m503, c498, c499, c500, c501⟩ := (H.rs (α := List Int) 2 rfl).at1 e; clear e
      refine idxE c498 c499 c500 ?_; clear c498 c499 c500
      refine load1 c501 ?_; clear c501
      obtain ⟨a512, e, hF513⟩ := bindS hF505; clear hF505
      obtain ⟨p510, m511, c506, c507, c508, c509⟩ := (H.ro (α := List Int) 0 rfl).at1 e; clear e
      refine idxE c506 c507 c508 ?_; clear c506 c507 c508
      refine load1 c509 ?_; clear c509
      refine lit1S (α := Int) gok rfl rfl rfl rfl H ?_; clear H; intro h515 w514 hx H
      clear hx
      obtain ⟨a517, e, hF518⟩ := bindS hF513; clear hF513
      replace H := H.sel [2, 0, 1, 3] rfl
      refine append_ (α := Int) gok rfl rfl rfl rfl H e ?_; clear e H; intro h520 w519 H
      refine arK hk hmx490 ?_
      have hs := Option.some.inj hF518; subst hs; clear hF518
      exact ⟨h520, ⟨rfl, rfl, rfl, rfl, rfl, trivial⟩, H.sel [1, 0, 2] rfl⟩
    · clear H e
      rintro T523 g525 w522 (H : Cx w0 fp0 S0 w522 [E (List Int) r287 h7, E (List Int) r491 g525, Es (List Int) keep_ keep_h])
      refine boolE (z := false) geLen ?_
      refine sq ?_
      cases hF492
      exact ⟨_, _, rfl, ⟨g525, rfl, rfl⟩, (H.sel [1] rfl).close ⟨cloE, trivial⟩⟩

theorem spec_ssMinimize_c (p_ : Int) (s__0 : Int) (s__1 : Int) (s__2 : Int) (s__3 : List (List Int)) (s__3h : Hd) (s__4 : List (List Int)) (s__4h : Hd) (s__5 : List (List Int)) (s__5h : Hd) (s__6 : List (List Int)) (s__6h : Hd) (y_0 : Int) (y_1 : Int) (y_2 : Int) (y_3 : List (List Int)) (y_4 : List (List Int)) (y_5 : List (List Int)) (y_6 : List (List Int)) (hF : F_spec_ssMinimize p_ (s__0, s__1, s__2, s__3, s__4, s__5, s__6) = some (y_0, y_1, y_2, y_3, y_4, y_5, y_6)) :
    ConF Tryd.prog 116 #[(.int .i64 p_), (.agg #[(.int .i64 s__0), (.int .i64 s__1), (.int .i64 s__2), (s__3h).v, (s__4h).v, (s__5h).v, (s__6h).v])] [Es (List (List Int)) s__3 s__3h, Es (List (List Int)) s__4 s__4h, Es (List (List Int)) s__5 s__5h, Es (List (List Int)) s__6 s__6h] [] (fun v Γ' => ∃ z0 z1 z2 z3 : Hd, v = (.agg #[(.int .i64 y_0), (.int .i64 y_1), (.int .i64 y_2), (z0).v, (z1).v, (z2).v, (z3).v]) ∧ Γ' = [E (List (List Int)) y_3 z0, E (List (List Int)) y_4 z1, E (List (List Int)) y_5 z2, E (List (List Int)) y_6 z3]) := by
  intro w0 S0 fp0 hI hS
  have H : Cx w0 fp0 S0 w0 [Es (List (List Int)) s__3 s__3h, Es (List (List Int)) s__4 s__4h, Es (List (List Int)) s__5 s__5h, Es (List (List Int)) s__6 s__6h] := Cx.start hI hS
  clear hI hS
  refine enterC (args := [_, _]) gok Tryd.func116 rfl _ rfl rfl rfl ?_
  refine box_ H ?_; clear H; intro b6 w5 hx H
  clear hx
  replace H : Cx w0 fp0 S0 w5 [Bx b6 [(.int .i64 s__0), (.int .i64 s__1), (.int .i64 s__2), (s__3h).v, (s__4h).v, (s__5h).v, (s__6h).v], Es (List (List Int)) s__3 s__3h, Es (List (List Int)) s__4 s__4h, Es (List (List Int)) s__5 s__5h, Es (List (List Int)) s__6 s__6h] := H
  refine alloc_ gok rfl H ?_; clear H; intro b9 w8 hx H
  clear hx
  replace H : Cx w0 fp0 S0 w8 [Bx b9 [(.int .i64 0), (.int .i64 0), (.int .i64 0), (.slice none 0 0), (.slice none 0 0), (.slice none 0 0), (.slice none 0 0)], Bx b6 [(.int .i64 s__0), (.int .i64 s__1), (.int .i64 s__2), (s__3h).v, (s__4h).v, (s__5h).v, (s__6h).v], Es (List (List Int)) s__3 s__3h, Es (List (List Int)) s__4 s__4h, Es (List (List Int)) s__5 s__5h, Es (List (List Int)) s__6 s__6h] := H
  refine loadN [(.int .i64 s__0), (.int .i64 s__1), (.int .i64 s__2), (s__3h).v, (s__4h).v, (s__5h).v, (s__6h).v] rfl (fun j u hj => H.bx 1 rfl hj) ?_
  obtain ⟨y11, e, hF12⟩ := bindS hF; clear hF
  obtain ⟨y11_0, y11_1, y11_2, y11_3, y11_4, y11_5, y11_6⟩ := y11
  have ey11 := e; clear e
  refine callF (spec_ssReached_c p_ s__0 s__1 s__2 s__3 s__3h s__4 s__4h s__5 s__5h s__6 s__6h y11_0 y11_1 y11_2 y11_3 y11_4 y11_5 y11_6 ey11) (Γi := []) H ⟨Vw.sh 2 rfl, Vw.sh 3 rfl, Vw.sh 4 rfl, Vw.sh 5 rfl, trivial⟩ ?_; clear H ey11
  rintro _ _ w13 ⟨h14, h16, h18, h20, rfl, rfl⟩ (H : Cx w0 fp0 S0 w13 [E (List (List Int)) y11_3 h14, E (List (List Int)) y11_4 h16, E (List (List Int)) y11_5 h18, E (List (List Int)) y11_6 h20, Bx b9 [(.int .i64 0), (.int .i64 0), (.int .i64 0), (.slice none 0 0), (.slice none 0 0), (.slice none 0 0), (.slice none 0 0)], Bx b6 [(.int .i64 s__0), (.int .i64 s__1), (.int .i64 s__2), (s__3h).v, (s__4h).v, (s__5h).v, (s__6h).v], Es (List (List Int)) s__3 s__3h, Es (List (List Int)) s__4 s__4h, Es (List (List Int)) s__5 s__5h, Es (List (List Int)) s__6 s__6h])
  replace H := H.sel [5, 0, 1, 2, 3, 4, 6, 7, 8, 9] rfl
  refine stA gok [(.int .i64 y11_0), (.int .i64 y11_1), (.int .i64 y11_2), (h14).v, (h16).v, (h18).v, (h20).v] rfl H rfl rfl rfl ?_; clear H; intro w22 H
  replace H : Cx w0 fp0 S0 w22 [Bx b6 [(.int .i64 y11_0), (.int .i64 y11_1), (.int .i64 y11_2), (h14).v, (h16).v, (h18).v, (h20).v], E (List (List Int)) y11_3 h14, E (List (List Int)) y11_4 h16, E (List (List Int)) y11_5 h18, E (List (List Int)) y11_6 h20, Bx b9 [(.int .i64 0), (.int .i64 0), (.int .i64 0), (.slice none 0 0), (.slice none 0 0), (.slice none 0 0), (.slice none 0 0)], Es (List (List Int)) s__3 s__3h, Es (List (List Int)) s__4 s__4h, Es (List (List Int)) s__5 s__5h, Es (List (List Int)) s__6 s__6h] := H
  refine loadN [(.int .i64 y11_0), (.int .i64 y11_1), (.int .i64 y11_2), (h14).v, (h16).v, (h18).v, (h20).v] rfl (fun j u hj => H.bx 0 rfl hj) ?_
  obtain ⟨y23, e, hF24⟩ := bindS hF12; clear hF12
  have ey23 := e; clear e
  refine callF (spec_ssHidden_c p_ y11_0 y11_1 y11_2 y11_3 h14 y11_4 h16 y11_5 h18 y11_6 h20 y23 ey23) (Γi := []) H ⟨Vw.own 1 rfl, Vw.own 2 rfl, Vw.own 3 rfl, Vw.own 4 rfl, trivial⟩ ?_; clear H ey23
  rintro _ _ w25 ⟨h26, rfl, rfl⟩ (H : Cx w0 fp0 S0 w25 [E (List (List Int)) y23 h26, Bx b6 [(.int .i64 y11_0), (.int .i64 y11_1), (.int .i64 y11_2), (h14).v, (h16).v, (h18).v, (h20).v], E (List (List Int)) y11_3 h14, E (List (List Int)) y11_4 h16, E (List (List Int)) y11_5 h18, E (List (List Int)) y11_6 h20, Bx b9 [(.int .i64 0), (.int .i64 0), (.int .i64 0), (.slice none 0 0), (.slice none 0 0), (.slice none 0 0), (.slice none 0 0)], Es (List (List Int)) s__3 s__3h, Es (List (List Int)) s__4 s__4h, Es (List (List Int)) s__5 s__5h, Es (List (List Int)) s__6 s__6h])
  replace H := H.frz
  obtain ⟨r682, hF684, hF683⟩ := bindS hF24; clear hF24
  refine cut (fun (q685 : List Int × Hd) => [(0, (.int .i64 p_)), (3, (.pointer (some ⟨b6, 0, none⟩))), (4, (.pointer (some ⟨b9, 0, none⟩))), (5, (h26).v), (6, (q685.2).v)]) (fun (q685 : List Int × Hd) w' => q685.1 = r682 ∧ Cx w0 fp0 S0 w' [Bx b6 [(.int .i64 y11_0), (.int .i64 y11_1), (.int .i64 y11_2), (h14).v, (h16).v, (h18).v, (h20).v], E (List (List Int)) y11_3 h14, E (List (List Int)) y11_4 h16, E (List (List Int)) y11_5 h18, E (List (List Int)) y11_6 h20, Bx b9 [(.int .i64 0), (.int .i64 0), (.int .i64 0), (.slice none 0 0), (.slice none 0 0), (.slice none 0 0), (.slice none 0 0)], Es (List (List Int)) y23 h26, E (List Int) q685.1 q685.2]) ?_ ?_
  · skip
    replace H := H.nil (α := Int)
    refine loopW _ (fun (s862 : List Int × Int) (g863 : Hd) => [(0, (.int .i64 p_)), (3, (.pointer (some ⟨b6, 0, none⟩))), (4, (.pointer (some ⟨b9, 0, none⟩))), (5, (h26).v), (6, (g863).v), (7, (.int .i64 s862.2))]) (fun (s862 : List Int × Int) (g863 : Hd) w' => Cx w0 fp0 S0 w' [Bx b6 [(.int .i64 y11_0), (.int .i64 y11_1), (.int .i64 y11_2), (h14).v, (h16).v, (h18).v, (h20).v], E (List (List Int)) y11_3 h14, E (List (List Int)) y11_4 h16, E (List (List Int)) y11_5 h18, E (List (List Int)) y11_6 h20, Bx b9 [(.int .i64 0), (.int .i64 0), (.int .i64 0), (.slice none 0 0), (.slice none 0 0), (.slice none 0 0), (.slice none 0 0)], Es (List (List Int)) y23 h26, E (List Int) s862.1 g863]) ([], 0) nilH hF684 ⟨rfl, rfl, rfl, rfl, rfl, rfl, trivial⟩ (H.sel [2, 3, 4, 5, 6, 7, 1, 0] rfl) ?_
    · clear H
      rintro T870 ⟨s862_0, s862_1⟩ g863 w869 o871 (H : Cx w0 fp0 S0 w869 [Bx b6 [(.int .i64 y11_0), (.int .i64 y11_1), (.int .i64 y11_2), (h14).v, (h16).v, (h18).v, (h20).v], E (List (List Int)) y11_3 h14, E (List (List Int)) y11_4 h16, E (List (List Int)) y11_5 h18, E (List (List Int)) y11_6 h20, Bx b9 [(.int .i64 0), (.int .i64 0), (.int .i64 0), (.slice none 0 0), (.slice none 0 0), (.slice none 0 0), (.slice none 0 0)], Es (List (List Int)) y23 h26, E (List Int) s862_0 g863]) hrt hF872
      refine sq ?_
      refine fld gok rfl rfl rfl rfl ?_
      refine load1 (H.bx 0 rfl (j := 0) rfl) ?_
      obtain ⟨a873, e, hF874⟩ := bindS hF872; clear hF872
      refine boolO e ?_; clear e
      cases a873
      · have hF875 := condF hF874; clear hF874
        have hs := Option.some.inj hF875; subst hs; clear hF875
        have hF876 : some _ = some _ := congrArg some (hrt _ rfl).symm
        exact ⟨(s862_0, g863), ⟨rfl, rfl, rfl, rfl, rfl, trivial⟩, Option.some.inj hF876, H.sel [0, 1, 2, 3, 4, 5, 6, 7] rfl⟩
      · have hF877 := condT hF874; clear hF874
        refine sq ?_
        refine sq ?_
        refine lenE (H.rs (α := List (List Int)) 6 rfl).len ?_
        have hmx917 := (H.rs (α := List (List Int)) 6 rfl).max
        obtain ⟨r918, e, hF919⟩ := bindS hF877; clear hF877
        refine loopS _ y23.length (fun (k878 : Nat) (s915 : Bool) (_ : Unit) => [(0, (.int .i64 p_)), (3, (.pointer (some ⟨b6, 0, none⟩))), (4, (.pointer (some ⟨b9, 0, none⟩))), (5, (h26).v), (6, (g863).v), (7, (.int .i64 s862_1)), (8, (.bool s915)), (28, (h26).v), (29, (.int .i64 ((y23.length : Nat) : Int))), (30, (.int .i64 ((k878 : Nat) : Int)))]) (fun _ (s915 : Bool) (_ : Unit) w' => Cx w0 fp0 S0 w' [Bx b6 [(.int .i64 y11_0), (.int .i64 y11_1), (.int .i64 y11_2), (h14).v, (h16).v, (h18).v, (h20).v], E (List (List Int)) y11_3 h14, E (List (List Int)) y11_4 h16, E (List (List Int)) y11_5 h18, E (List (List Int)) y11_6 h20, Bx b9 [(.int .i64 0), (.int .i64 0), (.int .i64 0), (.slice none 0 0), (.slice none 0 0), (.slice none 0 0), (.slice none 0 0)], Es (List (List Int)) y23 h26, E (List Int) s862_0 g863]) true () e ⟨rfl, rfl, rfl, rfl, rfl, rfl, rfl, rfl, rfl, rfl, trivial⟩ (H.sel [0, 1, 2, 3, 4, 5, 6, 7] rfl) ?_ ?_
        · clear H e
          rintro T921 k878 s915 _ w920 o922 hk (H : Cx w0 fp0 S0 w920 [Bx b6 [(.int .i64 y11_0), (.int .i64 y11_1), (.int .i64 y11_2), (h14).v, (h16).v, (h18).v, (h20).v], E (List (List Int)) y11_3 h14, E (List (List Int)) y11_4 h16, E (List (List Int)) y11_5 h18, E (List (List Int)) y11_6 h20, Bx b9 [(.int .i64 0), (.int .i64 0), (.int .i64 0), (.slice none 0 0), (.slice none 0 0), (.slice none 0 0), (.slice none 0 0)], Es (List (List Int)) y23 h26, E (List Int) s862_0 g863]) hF923
          refine boolE (z := true) (ltLen hk) ?_
          refine sq ?_
          refine sq ?_
          obtain ⟨a930, e, hF931⟩ := bindS hF923; clear hF923
          have HH := H; clear H; obtain ⟨p928, m929, h932, c924, c925, c926, c927, H⟩ := HH.elL 6 rfl e; clear HH
          clear e
          refine idxE c924 c925 c926 ?_; clear c924 c925 c926
          refine load1 c927 ?_; clear c927
          cases s915
          · have hF934 := condF hF931; clear hF931
            refine arK hk hmx917 ?_
            have hs := Option.some.inj hF934; subst hs; clear hF934
            exact ⟨(), ⟨rfl, rfl, rfl, rfl, rfl, rfl, rfl, rfl, rfl, rfl, trivial⟩, H.sel [1, 2, 3, 4, 5, 6, 7, 8] rfl⟩
          · have hF935 := condT hF931; clear hF931
            obtain ⟨y936, e, hF937⟩ := bindS hF935; clear hF935
            have ey936 := e; clear e
            refine callF (spec_spLead_c a930 h932 y936 ey936) (Γi := []) H ⟨Vw.sh 0 rfl, trivial⟩ ?_; clear H ey936
            rintro _ _ w938 ⟨rfl, rfl⟩ (H : Cx w0 fp0 S0 w938 [Es (List Int) a930 h932, Bx b6 [(.int .i64 y11_0), (.int .i64 y11_1), (.int .i64 y11_2), (h14).v, (h16).v, (h18).v, (h20).v], E (List (List Int)) y11_3 h14, E (List (List Int)) y11_4 h16, E (List (List Int)) y11_5 h18, E (List (List Int)) y11_6 h20, Bx b9 [(.int .i64 0), (.int .i64 0), (.int .i64 0), (.slice none 0 0), (.slice none 0 0), (.slice none 0 0), (.slice none 0 0)], Es (List (List Int)) y23 h26, E (List Int) s862_0 g863])
            obtain ⟨a939, e, hF940⟩ := bindS hF937; clear hF937
            refine boolO e ?_; clear e
            refine arK hk hmx917 ?_
            have hs := Option.some.inj hF940; subst hs; clear hF940
            exact ⟨(), ⟨rfl, rfl, rfl, rfl, rfl, rfl, rfl, rfl, rfl, rfl, trivial⟩, H.sel [1, 2, 3, 4, 5, 6, 7, 8] rfl⟩
        · clear H e
          rintro T942 _ w941 (H : Cx w0 fp0 S0 w941 [Bx b6 [(.int .i64 y11_0), (.int .i64 y11_1), (.int .i64 y11_2), (h14).v, (h16).v, (h18).v, (h20).v], E (List (List Int)) y11_3 h14, E (List (List Int)) y11_4 h16, E (List (List Int)) y11_5 h18, E (List (List Int)) y11_6 h20, Bx b9 [(.int .i64 0), (.int .i64 0), (.int .i64 0), (.slice none 0 0), (.slice none 0 0), (.slice none 0 0), (.slice none 0 0)], Es (List (List Int)) y23 h26, E (List Int) s862_0 g863])
          refine boolE (z := false) geLen ?_
          refine sq ?_
          cases r918
          · have hF945 := condF hF919; clear hF919
            obtain ⟨a946, e, hF947⟩ := bindS hF945; clear hF945
            refine arO e ?_; clear e
            have hs := Option.some.inj hF947; subst hs; clear hF947
            exact ⟨(s862_0, a946), g863, rfl, ⟨rfl, rfl, rfl, rfl, rfl, rfl, trivial⟩, H.sel [0, 1, 2, 3, 4, 5, 6, 7] rfl⟩
          · have hF948 := condT hF919; clear hF919
            refine lit1S (α := Int) gok rfl rfl rfl rfl H ?_; clear H; intro h950 w949 hx H
            clear hx
            obtain ⟨a952, e, hF953⟩ := bindS hF948; clear hF948
            replace H := H.sel [8, 0, 1, 2, 3, 4, 5, 6, 7] rfl
            refine append_ (α := Int) gok rfl rfl rfl rfl H e ?_; clear e H; intro h955 w954 H
            obtain ⟨a957, e, hF958⟩ := bindS hF953; clear hF953
            refine arO e ?_; clear e
            have hs := Option.some.inj hF958; subst hs; clear hF958
            exact ⟨(a952, a957), h955, rfl, ⟨rfl, rfl, rfl, rfl, rfl, rfl, trivial⟩, H.sel [1, 2, 3, 4, 5, 6, 7, 0] rfl⟩
  · clear hF684 H
    rintro T960 ⟨s679, g680⟩ w959 ⟨hr, (H : Cx w0 fp0 S0 w959 [Bx b6 [(.int .i64 y11_0), (.int .i64 y11_1), (.int .i64 y11_2), (h14).v, (h16).v, (h18).v, (h20).v], E (List (List Int)) y11_3 h14, E (List (List Int)) y11_4 h16, E (List (List Int)) y11_5 h18, E (List (List Int)) y11_6 h20, Bx b9 [(.int .i64 0), (.int .i64 0), (.int .i64 0), (.slice none 0 0), (.slice none 0 0), (.slice none 0 0), (.slice none 0 0)], Es (List (List Int)) y23 h26, E (List Int) s679 g680])⟩
    subst hr
    refine lenE (H.ro (α := List Int) 7 rfl).len ?_
    refine fld gok rfl rfl rfl rfl ?_
    refine load1 (H.bx 0 rfl (j := 1) rfl) ?_
    refine fld gok rfl rfl rfl rfl ?_
    refine load1 (H.bx 0 rfl (j := 2) rfl) ?_
    refine fld gok rfl rfl rfl rfl ?_
    refine load1 (H.bx 0 rfl (j := 6) rfl) ?_
    refine build_ (cs := #[(.int .i64 ((s679.length : Nat) : Int)), (.int .i64 y11_1), (.int .i64 y11_2), (.slice none 0 0), (.slice none 0 0), (.slice none 0 0), (h20).v]) gok rfl rfl rfl ?_
    refine alloc_ gok rfl H ?_; clear H; intro b962 w961 hx H
    clear hx
    replace H : Cx w0 fp0 S0 w961 [Bx b962 [(.int .i64 0), (.int .i64 0), (.int .i64 0), (.slice none 0 0), (.slice none 0 0), (.slice none 0 0), (.slice none 0 0)], Bx b6 [(.int .i64 y11_0), (.int .i64 y11_1), (.int .i64 y11_2), (h14).v, (h16).v, (h18).v, (h20).v], E (List (List Int)) y11_3 h14, E (List (List Int)) y11_4 h16, E (List (List Int)) y11_5 h18, E (List (List Int)) y11_6 h20, Bx b9 [(.int .i64 0), (.int .i64 0), (.int .i64 0), (.slice none 0 0), (.slice none 0 0), (.slice none 0 0), (.slice none 0 0)], Es (List (List Int)) y23 h26, E (List Int) s679 g680] := H
    refine stA gok [(.int .i64 ((s679.length : Nat) : Int)), (.int .i64 y11_1), (.int .i64 y11_2), (.slice none 0 0), (.slice none 0 0), (.slice none 0 0), (h20).v] rfl H rfl rfl rfl ?_; clear H; intro w964 H
    replace H : Cx w0 fp0 S0 w964 [Bx b962 [(.int .i64 ((s679.length : Nat) : Int)), (.int .i64 y11_1), (.int .i64 y11_2), (.slice none 0 0), (.slice none 0 0), (.slice none 0 0), (h20).v], Bx b6 [(.int .i64 y11_0), (.int .i64 y11_1), (.int .i64 y11_2), (h14).v, (h16).v, (h18).v, (h20).v], E (List (List Int)) y11_3 h14, E (List (List Int)) y11_4 h16, E (List (List Int)) y11_5 h18, E (List (List Int)) y11_6 h20, Bx b9 [(.int .i64 0), (.int .i64 0), (.int .i64 0), (.slice none 0 0), (.slice none 0 0), (.slice none 0 0), (.slice none 0 0)], Es (List (List Int)) y23 h26, E (List Int) s679 g680] := H
    refine sq ?_
    refine lenE (H.ro (α := List Int) 8 rfl).len ?_
    have hmx1090 := (H.ro (α := List Int) 8 rfl).max
    obtain ⟨r1091, e, hF1092⟩ := bindS hF683; clear hF683
    replace H := H.nil (α := List Int)
    replace H := H.nil (α := List Int)
    refine loopS _ s679.length (fun (k965 : Nat) (s1086 : List (List Int) × List (List Int)) (g1087 : Hd × Hd) => [(0, (.int .i64 p_)), (3, (.pointer (some ⟨b6, 0, none⟩))), (4, (.pointer (some ⟨b9, 0, none⟩))), (5, (h26).v), (6, (g680).v), (11, (.pointer (some ⟨b962, 0, none⟩))), (56, (g680).v), (57, (.int .i64 ((s679.length : Nat) : Int))), (58, (.int .i64 ((k965 : Nat) : Int)))]) (fun _ (s1086 : List (List Int) × List (List Int)) (g1087 : Hd × Hd) w' => Cx w0 fp0 S0 w' [Bx b6 [(.int .i64 y11_0), (.int .i64 y11_1), (.int .i64 y11_2), (h14).v, (h16).v, (h18).v, (h20).v], E (List (List Int)) y11_3 h14, E (List (List Int)) y11_4 h16, E (List (List Int)) y11_5 h18, E (List (List Int)) y11_6 h20, Bx b9 [(.int .i64 0), (.int .i64 0), (.int .i64 0), (.slice none 0 0), (.slice none 0 0), (.slice none 0 0), (.slice none 0 0)], Es (List (List Int)) y23 h26, E (List Int) s679 g680, Bx b962 [(.int .i64 ((s679.length : Nat) : Int)), (.int .i64 y11_1), (.int .i64 y11_2), (g1087.1).v, (.slice none 0 0), (g1087.2).v, (h20).v], E (List (List Int)) s1086.1 g1087.1, E (List (List Int)) s1086.2 g1087.2]) ([], []) (nilH, nilH) e ⟨rfl, rfl, rfl, rfl, rfl, rfl, rfl, rfl, rfl, trivial⟩ (H.sel [3, 4, 5, 6, 7, 8, 9, 10, 2, 1, 0] rfl) ?_ ?_
    · clear H e
      rintro T1096 k965 ⟨s1086_0, s1086_1⟩ ⟨g1087_0, g1087_1⟩ w1095 o1097 hk (H : Cx w0 fp0 S0 w1095 [Bx b6 [(.int .i64 y11_0), (.int .i64 y11_1), (.int .i64 y11_2), (h14).v, (h16).v, (h18).v, (h20).v], E (List (List Int)) y11_3 h14, E (List (List Int)) y11_4 h16, E (List (List Int)) y11_5 h18, E (List (List Int)) y11_6 h20, Bx b9 [(.int .i64 0), (.int .i64 0), (.int .i64 0), (.slice none 0 0), (.slice none 0 0), (.slice none 0 0), (.slice none 0 0)], Es (List (List Int)) y23 h26, E (List Int) s679 g680, Bx b962 [(.int .i64 ((s679.length : Nat) : Int)), (.int .i64 y11_1), (.int .i64 y11_2), (g1087_0).v, (.slice none 0 0), (g1087_1).v, (h20).v], E (List (List Int)) s1086_0 g1087_0, E (List (List Int)) s1086_1 g1087_1]) hF1098
      refine boolE (z := true) (ltLen hk) ?_
      refine sq ?_
      refine sq ?_
      obtain ⟨a1105, e, hF1106⟩ := bindS hF1098; clear hF1098
      obtain ⟨p1103, m1104, c1099, c1100, c1101, c1102⟩ := (H.ro (α := List Int) 7 rfl).at1 e; clear e
      refine idxE c1099 c1100 c1101 ?_; clear c1099 c1100 c1101
      refine load1 c1102 ?_; clear c1102
      refine heldX H [12, 14, 13] (.fst 0 (.fst 2 (.fst 3 (.fst 4 (.fst 5 (.fst 7 (.fst 1 (.fst 6 (.fst 8 (.fst 9 (.act 10 (.act 11 (.act 12 (.act 13 (.act 14 .done))))))))))))))) mixed [] trivial (by kernel_rfl) ?_
      clear H; intro w1107 H
      have hX : Ext w1107 w1107 := Upd.refl _ _
      have H0 := H
      refine anyH (fun _ => fld gok rfl rfl rfl rfl ⟨rfl, rfl⟩) ?_
      refine anyH (fun _ => fld gok rfl rfl rfl rfl ⟨rfl, rfl⟩) ?_
      refine load1X (H.bx 8 rfl (j := 3) rfl) ?_
      refine load1X (H.bx 0 rfl (j := 3) rfl) ?_
      obtain ⟨a1114, e, hF1115⟩ := bindS hF1106; clear hF1106
      replace H := H.sel [1, 0, 2, 3, 4, 5, 6, 7, 8, 9, 10] rfl
      replace H := H.toEH (α := List Int)
      have HH := H; clear H; obtain ⟨p1112, m1113, h1116, c1108, c1109, c1110, c1111, H⟩ := HH.peekL e; clear HH
      clear e
      refine idxE c1108 c1109 c1110 ?_
      refine load1X c1111 ?_; clear c1111
      obtain ⟨y1117, e, hF1118⟩ := bindS hF1115; clear hF1115
      have ey1117 := e; clear e
      refine callFx (spec_ssClear_c p_ y23 h26 s679 g680 a1114 h1116 y1117 ey1117) H ⟨Vw.sh 6 rfl, Vw.own 7 rfl, Vw.eh (α := List Int) (k := ⟨m1113, a1114, h1116⟩) 0 rfl 0 rfl, trivial⟩ ?_; clear H ey1117
      rintro _ _ w1119 ⟨h1120, rfl, rfl⟩ hx (H : Cx w0 fp0 S0 w1119 [E (List Int) y1117 h1120, EH (List Int) y11_3 h14 [⟨m1113, a1114, h1116⟩], Bx b6 [(.int .i64 y11_0), (.int .i64 y11_1), (.int .i64 y11_2), (h14).v, (h16).v, (h18).v, (h20).v], E (List (List Int)) y11_4 h16, E (List (List Int)) y11_5 h18, E (List (List Int)) y11_6 h20, Bx b9 [(.int .i64 0), (.int .i64 0), (.int .i64 0), (.slice none 0 0), (.slice none 0 0), (.slice none 0 0), (.slice none 0 0)], Es (List (List Int)) y23 h26, E (List Int) s679 g680, Bx b962 [(.int .i64 ((s679.length : Nat) : Int)), (.int .i64 y11_1), (.int .i64 y11_2), (g1087_0).v, (.slice none 0 0), (g1087_1).v, (h20).v], E (List (List Int)) s1086_0 g1087_0, E (List (List Int)) s1086_1 g1087_1])
      replace hX := hX.trans0 hx; clear hx
      refine hold hX ?_
      refine lit1 (α := List Int) (g := h1120) gok rfl rfl rfl rfl rfl H ?_; clear H; intro h1123 w1122 hx H
      replace hX := hX.trans0 hx; clear hx
      refine hold hX ?_
      obtain ⟨a1125, e, hF1126⟩ := bindS hF1118; clear hF1118
      replace H := H.sel [10, 0, 1, 2, 3, 4, 5, 6, 7, 8, 9, 11] rfl
      refine append_ (α := List Int) gok rfl rfl rfl rfl H e ?_; clear e H; intro h1128 w1127 H
      refine hold trivial ?_
      refine fld gok rfl rfl rfl rfl ?_
      refine hold trivial ?_
      replace H := H.sel [9, 0, 1, 2, 3, 4, 5, 6, 7, 8, 10] rfl
      refine stB (j := 3) H rfl rfl ?_; clear H; intro w1130 H
      replace H : Cx w0 fp0 S0 w1130 [Bx b962 [(.int .i64 ((s679.length : Nat) : Int)), (.int .i64 y11_1), (.int .i64 y11_2), (h1128).v, (.slice none 0 0), (g1087_1).v, (h20).v], E (List (List Int)) a1125 h1128, EH (List Int) y11_3 h14 [⟨m1113, a1114, h1116⟩], Bx b6 [(.int .i64 y11_0), (.int .i64 y11_1), (.int .i64 y11_2), (h14).v, (h16).v, (h18).v, (h20).v], E (List (List Int)) y11_4 h16, E (List (List Int)) y11_5 h18, E (List (List Int)) y11_6 h20, Bx b9 [(.int .i64 0), (.int .i64 0), (.int .i64 0), (.slice none 0 0), (.slice none 0 0), (.slice none 0 0), (.slice none 0 0)], Es (List (List Int)) y23 h26, E (List Int) s679 g680, E (List (List Int)) s1086_1 g1087_1] := H
      refine hold trivial ?_
      replace H := H.sel [2, 0, 1, 3, 4, 5, 6, 7, 8, 9, 10] rfl
      replace H := H.ofEH
      refine heldX H [9, 11, 10] (.fst 0 (.fst 2 (.fst 4 (.fst 1 (.fst 3 (.fst 5 (.fst 6 (.act 7 (.act 8 (.act 9 (.act 10 (.act 11 .done)))))))))))) mixed [] trivial (by kernel_rfl) ?_
      clear H; intro w1131 H
      have hX : Ext w1131 w1131 := Upd.refl _ _
      have H0 := H
      refine anyH (fun _ => fld gok rfl rfl rfl rfl ⟨rfl, rfl⟩) ?_
      refine anyH (fun _ => fld gok rfl rfl rfl rfl ⟨rfl, rfl⟩) ?_
      refine load1X (H.bx 1 rfl (j := 5) rfl) ?_
      refine load1X (H.bx 3 rfl (j := 5) rfl) ?_
      obtain ⟨a1138, e, hF1139⟩ := bindS hF1126; clear hF1126
      replace H := H.sel [5, 0, 1, 2, 3, 4, 6, 7, 8, 9, 10] rfl
      replace H := H.toEH (α := List Int)
      have HH := H; clear H; obtain ⟨p1136, m1137, h1140, c1132, c1133, c1134, c1135, H⟩ := HH.peekL e; clear HH
      clear e
      refine idxE c1132 c1133 c1134 ?_
      refine load1X c1135 ?_; clear c1135
      obtain ⟨y1141, e, hF1142⟩ := bindS hF1139; clear hF1139
      have ey1141 := e; clear e
      refine callFx (spec_l1Own_c a1138 h1140 y1141 ey1141) H ⟨Vw.eh (α := List Int) (k := ⟨m1137, a1138, h1140⟩) 0 rfl 0 rfl, trivial⟩ ?_; clear H ey1141
      rintro _ _ w1143 ⟨h1144, rfl, rfl⟩ hx (H : Cx w0 fp0 S0 w1143 [E (List Int) y1141 h1144, EH (List Int) y11_5 h18 [⟨m1137, a1138, h1140⟩], E (List (List Int)) y11_3 h14, Bx b962 [(.int .i64 ((s679.length : Nat) : Int)), (.int .i64 y11_1), (.int .i64 y11_2), (h1128).v, (.slice none 0 0), (g1087_1).v, (h20).v], E (List (List Int)) a1125 h1128, Bx b6 [(.int .i64 y11_0), (.int .i64 y11_1), (.int .i64 y11_2), (h14).v, (h16).v, (h18).v, (h20).v], E (List (List Int)) y11_4 h16, E (List (List Int)) y11_6 h20, Bx b9 [(.int .i64 0), (.int .i64 0), (.int .i64 0), (.slice none 0 0), (.slice none 0 0), (.slice none 0 0), (.slice none 0 0)], Es (List (List Int)) y23 h26, E (List Int) s679 g680, E (List (List Int)) s1086_1 g1087_1])
      replace hX := hX.trans0 hx; clear hx
      refine hold hX ?_
      refine lit1 (α := List Int) (g := h1144) gok rfl rfl rfl rfl rfl H ?_; clear H; intro h1147 w1146 hx H
      replace hX := hX.trans0 hx; clear hx
      refine hold hX ?_
      obtain ⟨a1149, e, hF1150⟩ := bindS hF1142; clear hF1142
      replace H := H.sel [11, 0, 1, 2, 3, 4, 5, 6, 7, 8, 9, 10] rfl
      refine append_ (α := List Int) gok rfl rfl rfl rfl H e ?_; clear e H; intro h1152 w1151 H
      refine hold trivial ?_
      refine fld gok rfl rfl rfl rfl ?_
      refine hold trivial ?_
      replace H := H.sel [3, 0, 1, 2, 4, 5, 6, 7, 8, 9, 10] rfl
      refine stB (j := 5) H rfl rfl ?_; clear H; intro w1154 H
      replace H : Cx w0 fp0 S0 w1154 [Bx b962 [(.int .i64 ((s679.length : Nat) : Int)), (.int .i64 y11_1), (.int .i64 y11_2), (h1128).v, (.slice none 0 0), (h1152).v, (h20).v], E (List (List Int)) a1149 h1152, EH (List Int) y11_5 h18 [⟨m1137, a1138, h1140⟩], E (List (List Int)) y11_3 h14, E (List (List Int)) a1125 h1128, Bx b6 [(.int .i64 y11_0), (.int .i64 y11_1), (.int .i64 y11_2), (h14).v, (h16).v, (h18).v, (h20).v], E (List (List Int)) y11_4 h16, E (List (List Int)) y11_6 h20, Bx b9 [(.int .i64 0), (.int .i64 0), (.int .i64 0), (.slice none 0 0), (.slice none 0 0), (.slice none 0 0), (.slice none 0 0)], Es (List (List Int)) y23 h26, E (List Int) s679 g680] := H
      refine hold trivial ?_
      replace H := H.sel [2, 0, 1, 3, 4, 5, 6, 7, 8, 9, 10] rfl
      replace H := H.ofEH
      refine arK hk hmx1090 ?_
      have hs := Option.some.inj hF1150; subst hs; clear hF1150
      exact ⟨(h1128, h1152), ⟨rfl, rfl, rfl, rfl, rfl, rfl, rfl, rfl, rfl, trivial⟩, H.sel [5, 3, 6, 0, 7, 8, 9, 10, 1, 4, 2] rfl⟩
    · clear H e
      obtain ⟨s1157_0, s1157_1⟩ := r1091
      rintro T1156 ⟨g1158_0, g1158_1⟩ w1155 (H : Cx w0 fp0 S0 w1155 [Bx b6 [(.int .i64 y11_0), (.int .i64 y11_1), (.int .i64 y11_2), (h14).v, (h16).v, (h18).v, (h20).v], E (List (List Int)) y11_3 h14, E (List (List Int)) y11_4 h16, E (List (List Int)) y11_5 h18, E (List (List Int)) y11_6 h20, Bx b9 [(.int .i64 0), (.int .i64 0), (.int .i64 0), (.slice none 0 0), (.slice none 0 0), (.slice none 0 0), (.slice none 0 0)], Es (List (List Int)) y23 h26, E (List Int) s679 g680, Bx b962 [(.int .i64 ((s679.length : Nat) : Int)), (.int .i64 y11_1), (.int .i64 y11_2), (g1158_0).v, (.slice none 0 0), (g1158_1).v, (h20).v], E (List (List Int)) s1157_0 g1158_0, E (List (List Int)) s1157_1 g1158_1])
      refine boolE (z := false) geLen ?_
      refine sq ?_
      refine sq ?_
      refine fld gok rfl rfl rfl rfl ?_
      refine load1 (H.bx 0 rfl (j := 4) rfl) ?_
      refine lenE (H.ro (α := List (List Int)) 2 rfl).len ?_
      replace H := H.sel [2, 0, 1, 3, 4, 5, 6, 7, 8, 9, 10] rfl
      replace H := H.frz
      have hmx1249 := (H.rs (α := List (List Int)) 0 rfl).max
      obtain ⟨r1250, e, hF1251⟩ := bindS hF1092; clear hF1092
      replace H := H.nil (α := List Int)
      refine loopS _ y11_4.length (fun (k1161 : Nat) (s1246 : List (List Int)) (g1247 : Hd) => [(0, (.int .i64 p_)), (4, (.pointer (some ⟨b9, 0, none⟩))), (5, (h26).v), (6, (g680).v), (11, (.pointer (some ⟨b962, 0, none⟩))), (89, (h16).v), (90, (.int .i64 ((y11_4.length : Nat) : Int))), (91, (.int .i64 ((k1161 : Nat) : Int)))]) (fun _ (s1246 : List (List Int)) (g1247 : Hd) w' => Cx w0 fp0 S0 w' [Bx b9 [(.int .i64 0), (.int .i64 0), (.int .i64 0), (.slice none 0 0), (.slice none 0 0), (.slice none 0 0), (.slice none 0 0)], Es (List (List Int)) y23 h26, E (List Int) s679 g680, Bx b962 [(.int .i64 ((s679.length : Nat) : Int)), (.int .i64 y11_1), (.int .i64 y11_2), (g1158_0).v, (g1247).v, (g1158_1).v, (h20).v], E (List (List Int)) s1157_0 g1158_0, E (List (List Int)) s1246 g1247, E (List (List Int)) s1157_1 g1158_1, E (List (List Int)) y11_6 h20, Es (List (List Int)) y11_4 h16]) [] nilH e ⟨rfl, rfl, rfl, rfl, rfl, rfl, rfl, rfl, trivial⟩ (H.sel [6, 7, 8, 9, 10, 0, 11, 5, 1] rfl) ?_ ?_
      · clear H e
        rintro T1254 k1161 s1246 g1247 w1253 o1255 hk (H : Cx w0 fp0 S0 w1253 [Bx b9 [(.int .i64 0), (.int .i64 0), (.int .i64 0), (.slice none 0 0), (.slice none 0 0), (.slice none 0 0), (.slice none 0 0)], Es (List (List Int)) y23 h26, E (List Int) s679 g680, Bx b962 [(.int .i64 ((s679.length : Nat) : Int)), (.int .i64 y11_1), (.int .i64 y11_2), (g1158_0).v, (g1247).v, (g1158_1).v, (h20).v], E (List (List Int)) s1157_0 g1158_0, E (List (List Int)) s1246 g1247, E (List (List Int)) s1157_1 g1158_1, E (List (List Int)) y11_6 h20, Es (List (List Int)) y11_4 h16]) hF1256
        refine boolE (z := true) (ltLen hk) ?_
        refine sq ?_
        refine sq ?_
        obtain ⟨a1263, e, hF1264⟩ := bindS hF1256; clear hF1256
        have HH := H; clear H; obtain ⟨p1261, m1262, h1265, c1257, c1258, c1259, c1260, H⟩ := HH.elL 8 rfl e; clear HH
        clear e
        refine idxE c1257 c1258 c1259 ?_; clear c1257 c1258 c1259
        refine load1 c1260 ?_; clear c1260
        refine heldX H [8, 10, 9] (.fst 0 (.fst 2 (.fst 3 (.fst 4 (.fst 5 (.fst 1 (.act 6 (.act 7 (.act 8 (.act 9 (.act 10 .done))))))))))) mixed [] trivial (by kernel_rfl) ?_
        clear H; intro w1267 H
        have hX : Ext w1267 w1267 := Upd.refl _ _
        have H0 := H
        refine anyH (fun _ => fld gok rfl rfl rfl rfl ⟨rfl, rfl⟩) ?_
        refine load1X (H.bx 4 rfl (j := 4) rfl) ?_
        obtain ⟨y1268, e, hF1269⟩ := bindS hF1264; clear hF1264
        have ey1268 := e; clear e
        refine callFx (spec_ssClear_c p_ y23 h26 s679 g680 a1263 h1265 y1268 ey1268) H ⟨Vw.sh 2 rfl, Vw.own 3 rfl, Vw.sh 0 rfl, trivial⟩ ?_; clear H ey1268
        rintro _ _ w1270 ⟨h1271, rfl, rfl⟩ hx (H : Cx w0 fp0 S0 w1270 [E (List Int) y1268 h1271, Es (List Int) a1263 h1265, Bx b9 [(.int .i64 0), (.int .i64 0), (.int .i64 0), (.slice none 0 0), (.slice none 0 0), (.slice none 0 0), (.slice none 0 0)], Es (List (List Int)) y23 h26, E (List Int) s679 g680, Bx b962 [(.int .i64 ((s679.length : Nat) : Int)), (.int .i64 y11_1), (.int .i64 y11_2), (g1158_0).v, (g1247).v, (g1158_1).v, (h20).v], E (List (List Int)) s1157_0 g1158_0, E (List (List Int)) s1246 g1247, E (List (List Int)) s1157_1 g1158_1, E (List (List Int)) y11_6 h20, Es (List (List Int)) y11_4 h16])
        replace hX := hX.trans0 hx; clear hx
        refine hold hX ?_
        refine lit1 (α := List Int) (g := h1271) gok rfl rfl rfl rfl rfl H ?_; clear H; intro h1274 w1273 hx H
        replace hX := hX.trans0 hx; clear hx
        refine hold hX ?_
        obtain ⟨a1276, e, hF1277⟩ := bindS hF1269; clear hF1269
        replace H := H.sel [7, 0, 1, 2, 3, 4, 5, 6, 8, 9, 10] rfl
        refine append_ (α := List Int) gok rfl rfl rfl rfl H e ?_; clear e H; intro h1279 w1278 H
        refine hold trivial ?_
        refine fld gok rfl rfl rfl rfl ?_
        refine hold trivial ?_
        replace H := H.sel [5, 0, 1, 2, 3, 4, 6, 7, 8, 9] rfl
        refine stB (j := 4) H rfl rfl ?_; clear H; intro w1281 H
        replace H : Cx w0 fp0 S0 w1281 [Bx b962 [(.int .i64 ((s679.length : Nat) : Int)), (.int .i64 y11_1), (.int .i64 y11_2), (g1158_0).v, (h1279).v, (g1158_1).v, (h20).v], E (List (List Int)) a1276 h1279, Es (List Int) a1263 h1265, Bx b9 [(.int .i64 0), (.int .i64 0), (.int .i64 0), (.slice none 0 0), (.slice none 0 0), (.slice none 0 0), (.slice none 0 0)], Es (List (List Int)) y23 h26, E (List Int) s679 g680, E (List (List Int)) s1157_0 g1158_0, E (List (List Int)) s1157_1 g1158_1, E (List (List Int)) y11_6 h20, Es (List (List Int)) y11_4 h16] := H
        refine hold trivial ?_
        refine arK hk hmx1249 ?_
        have hs := Option.some.inj hF1277; subst hs; clear hF1277
        exact ⟨h1279, ⟨rfl, rfl, rfl, rfl, rfl, rfl, rfl, rfl, trivial⟩, H.sel [3, 4, 5, 0, 6, 1, 7, 8, 9] rfl⟩
      · clear H e
        rintro T1283 g1285 w1282 (H : Cx w0 fp0 S0 w1282 [Bx b9 [(.int .i64 0), (.int .i64 0), (.int .i64 0), (.slice none 0 0), (.slice none 0 0), (.slice none 0 0), (.slice none 0 0)], Es (List (List Int)) y23 h26, E (List Int) s679 g680, Bx b962 [(.int .i64 ((s679.length : Nat) : Int)), (.int .i64 y11_1), (.int .i64 y11_2), (g1158_0).v, (g1285).v, (g1158_1).v, (h20).v], E (List (List Int)) s1157_0 g1158_0, E (List (List Int)) r1250 g1285, E (List (List Int)) s1157_1 g1158_1, E (List (List Int)) y11_6 h20, Es (List (List Int)) y11_4 h16])
        refine boolE (z := false) geLen ?_
        refine sq ?_
        refine loadN [(.int .i64 ((s679.length : Nat) : Int)), (.int .i64 y11_1), (.int .i64 y11_2), (g1158_0).v, (g1285).v, (g1158_1).v, (h20).v] rfl (fun j u hj => H.bx 3 rfl hj) ?_
        refine stA gok [(.int .i64 ((s679.length : Nat) : Int)), (.int .i64 y11_1), (.int .i64 y11_2), (g1158_0).v, (g1285).v, (g1158_1).v, (h20).v] rfl H rfl rfl rfl ?_; clear H; intro w1287 H
        replace H : Cx w0 fp0 S0 w1287 [Bx b9 [(.int .i64 ((s679.length : Nat) : Int)), (.int .i64 y11_1), (.int .i64 y11_2), (g1158_0).v, (g1285).v, (g1158_1).v, (h20).v], Es (List (List Int)) y23 h26, E (List Int) s679 g680, Bx b962 [(.int .i64 ((s679.length : Nat) : Int)), (.int .i64 y11_1), (.int .i64 y11_2), (g1158_0).v, (g1285).v, (g1158_1).v, (h20).v], E (List (List Int)) s1157_0 g1158_0, E (List (List Int)) r1250 g1285, E (List (List Int)) s1157_1 g1158_1, E (List (List Int)) y11_6 h20, Es (List (List Int)) y11_4 h16] := H
        refine loadN [(.int .i64 ((s679.length : Nat) : Int)), (.int .i64 y11_1), (.int .i64 y11_2), (g1158_0).v, (g1285).v, (g1158_1).v, (h20).v] rfl (fun j u hj => H.bx 0 rfl hj) ?_
        cases hF1251
        exact ⟨_, _, rfl, ⟨g1158_0, g1285, g1158_1, h20, rfl, rfl⟩, (H.sel [4, 5, 6, 7] rfl).close ⟨cloE, cloE, cloE, cloE, trivial⟩⟩

theorem spec_MinimizeSpace_c (p_ : Int) (s__0 : Int) (s__1 : Int) (s__2 : Int) (s__3 : List (List Int)) (s__3h : Hd) (s__4 : List (List Int)) (s__4h : Hd) (s__5 : List (List Int)) (s__5h : Hd) (s__6 : List (List Int)) (s__6h : Hd) (y0_0 : Int) (y0_1 : Int) (y0_2 : Int) (y0_3 : List (List Int)) (y0_4 : List (List Int)) (y0_5 : List (List Int)) (y0_6 : List (List Int)) (y1 : Bool) (hF : F_spec_MinimizeSpace p_ (s__0, s__1, s__2, s__3, s__4, s__5, s__6) = some ((y0_0, y0_1, y0_2, y0_3, y0_4, y0_5, y0_6), y1)) :
    ConF Tryd.prog 54 #[(.int .i64 p_), (.agg #[(.int .i64 s__0), (.int .i64 s__1), (.int .i64 s__2), (s__3h).v, (s__4h).v, (s__5h).v, (s__6h).v])] [Es (List (List Int)) s__3 s__3h, Es (List (List Int)) s__4 s__4h, Es (List (List Int)) s__5 s__5h, Es (List (List Int)) s__6 s__6h] [] (fun v Γ' => ∃ z0 z1 z2 z3 : Hd, v = (.tuple #[(.agg #[(.int .i64 y0_0), (.int .i64 y0_1), (.int .i64 y0_2), (z0).v, (z1).v, (z2).v, (z3).v]), (.bool y1)]) ∧ Γ' = [E (List (List Int)) y0_3 z0, E (List (List Int)) y0_4 z1, E (List (List Int)) y0_5 z2, E (List (List Int)) y0_6 z3]) := by
  intro w0 S0 fp0 hI hS
  have H : Cx w0 fp0 S0 w0 [Es (List (List Int)) s__3 s__3h, Es (List (List Int)) s__4 s__4h, Es (List (List Int)) s__5 s__5h, Es (List (List Int)) s__6 s__6h] := Cx.start hI hS
  clear hI hS
  refine enterC (args := [_, _]) gok Tryd.func54 rfl _ rfl rfl rfl ?_
  refine box_ H ?_; clear H; intro b6 w5 hx H
  clear hx
  replace H : Cx w0 fp0 S0 w5 [Bx b6 [(.int .i64 s__0), (.int .i64 s__1), (.int .i64 s__2), (s__3h).v, (s__4h).v, (s__5h).v, (s__6h).v], Es (List (List Int)) s__3 s__3h, Es (List (List Int)) s__4 s__4h, Es (List (List Int)) s__5 s__5h, Es (List (List Int)) s__6 s__6h] := H
  refine alloc_ gok rfl H ?_; clear H; intro b9 w8 hx H
  clear hx
  replace H : Cx w0 fp0 S0 w8 [Bx b9 [(.int .i64 0), (.int .i64 0), (.int .i64 0), (.slice none 0 0), (.slice none 0 0), (.slice none 0 0), (.slice none 0 0)], Bx b6 [(.int .i64 s__0), (.int .i64 s__1), (.int .i64 s__2), (s__3h).v, (s__4h).v, (s__5h).v, (s__6h).v], Es (List (List Int)) s__3 s__3h, Es (List (List Int)) s__4 s__4h, Es (List (List Int)) s__5 s__5h, Es (List (List Int)) s__6 s__6h] := H
  refine sq ?_
  refine loadN [(.int .i64 s__0), (.int .i64 s__1), (.int .i64 s__2), (s__3h).v, (s__4h).v, (s__5h).v, (s__6h).v] rfl (fun j u hj => H.bx 1 rfl hj) ?_
  obtain ⟨y11, e, hF12⟩ := bindS hF; clear hF
  have ey11 := e; clear e
  refine callF (spec_ssGood_c p_ s__0 s__1 s__2 s__3 s__3h s__4 s__4h s__5 s__5h s__6 s__6h y11 ey11) (Γi := []) H ⟨Vw.sh 2 rfl, Vw.sh 3 rfl, Vw.sh 4 rfl, Vw.sh 5 rfl, trivial⟩ ?_; clear H ey11
  rintro _ _ w13 ⟨rfl, rfl⟩ (H : Cx w0 fp0 S0 w13 [Bx b9 [(.int .i64 0), (.int .i64 0), (.int .i64 0), (.slice none 0 0), (.slice none 0 0), (.slice none 0 0), (.slice none 0 0)], Bx b6 [(.int .i64 s__0), (.int .i64 s__1), (.int .i64 s__2), (s__3h).v, (s__4h).v, (s__5h).v, (s__6h).v], Es (List (List Int)) s__3 s__3h, Es (List (List Int)) s__4 s__4h, Es (List (List Int)) s__5 s__5h, Es (List (List Int)) s__6 s__6h])
  obtain ⟨a14, e, hF15⟩ := bindS hF12; clear hF12
  refine boolO e ?_; clear e
  cases a14
  · have hF16 := condF hF15; clear hF15
    refine loadN [(.int .i64 s__0), (.int .i64 s__1), (.int .i64 s__2), (s__3h).v, (s__4h).v, (s__5h).v, (s__6h).v] rfl (fun j u hj => H.bx 1 rfl hj) ?_
    obtain ⟨y17, e, hF18⟩ := bindS hF16; clear hF16
    obtain ⟨y17_0, y17_1, y17_2, y17_3, y17_4, y17_5, y17_6⟩ := y17
    have ey17 := e; clear e
    refine callF (spec_ssMinimize_c p_ s__0 s__1 s__2 s__3 s__3h s__4 s__4h s__5 s__5h s__6 s__6h y17_0 y17_1 y17_2 y17_3 y17_4 y17_5 y17_6 ey17) (Γi := []) H ⟨Vw.sh 2 rfl, Vw.sh 3 rfl, Vw.sh 4 rfl, Vw.sh 5 rfl, trivial⟩ ?_; clear H ey17
    rintro _ _ w19 ⟨h20, h22, h24, h26, rfl, rfl⟩ (H : Cx w0 fp0 S0 w19 [E (List (List Int)) y17_3 h20, E (List (List Int)) y17_4 h22, E (List (List Int)) y17_5 h24, E (List (List Int)) y17_6 h26, Bx b9 [(.int .i64 0), (.int .i64 0), (.int .i64 0), (.slice none 0 0), (.slice none 0 0), (.slice none 0 0), (.slice none 0 0)], Bx b6 [(.int .i64 s__0), (.int .i64 s__1), (.int .i64 s__2), (s__3h).v, (s__4h).v, (s__5h).v, (s__6h).v], Es (List (List Int)) s__3 s__3h, Es (List (List Int)) s__4 s__4h, Es (List (List Int)) s__5 s__5h, Es (List (List Int)) s__6 s__6h])
    replace H := H.sel [4, 0, 1, 2, 3, 5, 6, 7, 8, 9] rfl
    refine stA gok [(.int .i64 y17_0), (.int .i64 y17_1), (.int .i64 y17_2), (h20).v, (h22).v, (h24).v, (h26).v] rfl H rfl rfl rfl ?_; clear H; intro w28 H
    replace H : Cx w0 fp0 S0 w28 [Bx b9 [(.int .i64 y17_0), (.int .i64 y17_1), (.int .i64 y17_2), (h20).v, (h22).v, (h24).v, (h26).v], E (List (List Int)) y17_3 h20, E (List (List Int)) y17_4 h22, E (List (List Int)) y17_5 h24, E (List (List Int)) y17_6 h26, Bx b6 [(.int .i64 s__0), (.int .i64 s__1), (.int .i64 s__2), (s__3h).v, (s__4h).v, (s__5h).v, (s__6h).v], Es (List (List Int)) s__3 s__3h, Es (List (List Int)) s__4 s__4h, Es (List (List Int)) s__5 s__5h, Es (List (List Int)) s__6 s__6h] := H
    refine loadN [(.int .i64 y17_0), (.int .i64 y17_1), (.int .i64 y17_2), (h20).v, (h22).v, (h24).v, (h26).v] rfl (fun j u hj => H.bx 0 rfl hj) ?_
    cases hF18
    exact ⟨_, _, rfl, ⟨h20, h22, h24, h26, rfl, rfl⟩, (H.sel [1, 2, 3, 4] rfl).close ⟨cloE, cloE, cloE, cloE, trivial⟩⟩
  · have hF29 := condT hF15; clear hF15
    refine build_ (cs := #[(.int .i64 0), (.int .i64 0), (.int .i64 0), (.slice none 0 0), (.slice none 0 0), (.slice none 0 0), (.slice none 0 0)]) gok rfl rfl rfl ?_
    refine stA gok [(.int .i64 0), (.int .i64 0), (.int .i64 0), (.slice none 0 0), (.slice none 0 0), (.slice none 0 0), (.slice none 0 0)] rfl H rfl rfl rfl ?_; clear H; intro w30 H
    replace H : Cx w0 fp0 S0 w30 [Bx b9 [(.int .i64 0), (.int .i64 0), (.int .i64 0), (.slice none 0 0), (.slice none 0 0), (.slice none 0 0), (.slice none 0 0)], Bx b6 [(.int .i64 s__0), (.int .i64 s__1), (.int .i64 s__2), (s__3h).v, (s__4h).v, (s__5h).v, (s__6h).v], Es (List (List Int)) s__3 s__3h, Es (List (List Int)) s__4 s__4h, Es (List (List Int)) s__5 s__5h, Es (List (List Int)) s__6 s__6h] := H
    refine loadN [(.int .i64 0), (.int .i64 0), (.int .i64 0), (.slice none 0 0), (.slice none 0 0), (.slice none 0 0), (.slice none 0 0)] rfl (fun j u hj => H.bx 0 rfl hj) ?_
    replace H := H.nil (α := List Int)
    replace H := H.nil (α := List Int)
    replace H := H.nil (α := List Int)
    replace H := H.nil (α := List Int)
    cases hF29
    exact ⟨_, _, rfl, ⟨nilH, nilH, nilH, nilH, rfl, rfl⟩, (H.sel [3, 2, 1, 0] rfl).close ⟨cloE, cloE, cloE, cloE, trivial⟩⟩

theorem impl_isField_c (p_ : Int) (y : Bool) (hF : F_impl_isField p_ = some y) :
    ConF Tryd.prog 135 #[(.int .i64 p_)] [Gl 0 [.int .i64 2, .int .i64 3, .int .i64 5, .int .i64 7]] [] (fun v Γ' => v = (.bool y) ∧ Γ' = []) := by
  intro w0 S0 fp0 hI hS
  have H : Cx w0 fp0 S0 w0 [Gl 0 [.int .i64 2, .int .i64 3, .int .i64 5, .int .i64 7]] := Cx.start hI hS
  clear hI hS
  refine enterC (args := [_]) gok Tryd.func135 rfl _ rfl rfl rfl ?_
  refine sq ?_
  obtain ⟨r10, hF12, hF11⟩ := bindS hF; clear hF
  refine cut (fun (q13 : Bool) => [(0, (.int .i64 p_)), (10, (.bool q13))]) (fun (q13 : Bool) w' => q13 = r10 ∧ Cx w0 fp0 S0 w' [Gl 0 [.int .i64 2, .int .i64 3, .int .i64 5, .int .i64 7]]) ?_ ?_
  · skip
    obtain ⟨a14, e, hF15⟩ := bindS hF12; clear hF12
    refine boolO e ?_; clear e
    cases a14
    · have hF16 := condF hF15; clear hF15
      obtain ⟨a17, e, hF18⟩ := bindS hF16; clear hF16
      refine boolO e ?_; clear e
      exact ⟨a17, ⟨rfl, rfl, trivial⟩, Option.some.inj hF18, H.sel [0] rfl⟩
    · have hF19 := condT hF15; clear hF15
      exact ⟨true, ⟨rfl, rfl, trivial⟩, Option.some.inj hF19, H.sel [0] rfl⟩
  · clear hF12 H
    rintro T21 s8 w20 ⟨hr, (H : Cx w0 fp0 S0 w20 [Gl 0 [.int .i64 2, .int .i64 3, .int .i64 5, .int .i64 7]])⟩
    subst hr
    cases s8
    · have hF22 := condF hF11; clear hF11
      refine sq ?_
      refine loadN [.int .i64 2, .int .i64 3, .int .i64 5, .int .i64 7] rfl (H.gl 0 rfl) ?_
      obtain ⟨a56, hn, hF57⟩ := bindS hF22; clear hF22
      obtain ⟨r59, e, hF60⟩ := bindS hF57; clear hF57
      refine loopO _ ((4 : Int).toNat) (fun (k23 : Nat) (_ : Unit) (_ : Unit) => [(0, (.int .i64 p_)), (11, (.agg #[.int .i64 2, .int .i64 3, .int .i64 5, .int .i64 7])), (12, (.int .i64 ((k23 : Nat) : Int)))]) (fun _ (_ : Unit) (_ : Unit) w' => Cx w0 fp0 S0 w' [Gl 0 [.int .i64 2, .int .i64 3, .int .i64 5, .int .i64 7]]) () () e ⟨rfl, rfl, rfl, trivial⟩ (H.sel [0] rfl) ?_ ?_
      · clear H e
        rintro T62 k23 _ _ w61 o63 hk (H : Cx w0 fp0 S0 w61 [Gl 0 [.int .i64 2, .int .i64 3, .int .i64 5, .int .i64 7]]) hrt hF64
        refine boolE (z := true) (ltNat hk) ?_
        refine sq ?_
        refine sq ?_
        obtain ⟨a65, e, hF66⟩ := bindS hF64; clear hF64
        refine indexI gok rfl rfl rfl rfl rfl e ?_; clear e
        obtain ⟨r77, hF79, hF78⟩ := bindS hF66; clear hF66
        refine cut (fun (q80 : Bool) => [(0, (.int .i64 p_)), (11, (.agg #[.int .i64 2, .int .i64 3, .int .i64 5, .int .i64 7])), (12, (.int .i64 ((k23 : Nat) : Int))), (23, (.bool q80))]) (fun (q80 : Bool) w' => q80 = r77 ∧ Cx w0 fp0 S0 w' [Gl 0 [.int .i64 2, .int .i64 3, .int .i64 5, .int .i64 7]]) ?_ ?_
        · skip
          obtain ⟨a81, e, hF82⟩ := bindS hF79; clear hF79
          refine remO_ e ?_; clear e
          obtain ⟨a83, e, hF84⟩ := bindS hF82; clear hF82
          refine boolO e ?_; clear e
          cases a83
          · have hF85 := condF hF84; clear hF84
            exact ⟨false, ⟨rfl, rfl, rfl, rfl, trivial⟩, Option.some.inj hF85, H.sel [0] rfl⟩
          · have hF86 := condT hF84; clear hF84
            obtain ⟨a87, e, hF88⟩ := bindS hF86; clear hF86
            refine boolO e ?_; clear e
            exact ⟨a87, ⟨rfl, rfl, rfl, rfl, trivial⟩, Option.some.inj hF88, H.sel [0] rfl⟩
        · clear hF79 H
          rintro T90 s75 w89 ⟨hr, (H : Cx w0 fp0 S0 w89 [Gl 0 [.int .i64 2, .int .i64 3, .int .i64 5, .int .i64 7]])⟩
          subst hr
          cases s75
          · have hF91 := condF hF78; clear hF78
            refine arK hk (maxI hn) ?_
            have hs := Option.some.inj hF91; subst hs; clear hF91
            exact ⟨(), (), rfl, ⟨rfl, rfl, rfl, trivial⟩, H.sel [0] rfl⟩
          · have hF92 := condT hF78; clear hF78
            have hs := Option.some.inj hF92; subst hs; clear hF92
            have hr := hrt _ rfl; subst hr
            have hF93 : some _ = some _ := hF60
            cases hF93
            exact ⟨_, _, rfl, ⟨rfl, rfl⟩, (H.sel [] rfl).close trivial⟩
      · clear H e
        rintro T95 _ _ w94 hr (H : Cx w0 fp0 S0 w94 [Gl 0 [.int .i64 2, .int .i64 3, .int .i64 5, .int .i64 7]])
        subst hr
        refine boolE (z := false) geNat ?_
        refine sq ?_
        cases hF60
        exact ⟨_, _, rfl, ⟨rfl, rfl⟩, (H.sel [] rfl).close trivial⟩
    · have hF98 := condT hF11; clear hF11
      cases hF98
      exact ⟨_, _, rfl, ⟨rfl, rfl⟩, (H.sel [] rfl).close trivial⟩

theorem impl_within_c (n_ : Int) (low_ : Int) (high_ : Int) (y : Bool) (hF : F_impl_within n_ low_ high_ = some y) :
    ConF Tryd.prog 111 #[(.int .i64 n_), (.int .i64 low_), (.int .i64 high_)] [] [] (fun v Γ' => v = (.bool y) ∧ Γ' = []) := by
  intro w0 S0 fp0 hI hS
  have H : Cx w0 fp0 S0 w0 [] := Cx.start hI hS
  clear hI hS
  refine enterC (args := [_, _, _]) gok Tryd.func111 rfl _ rfl rfl rfl ?_
  obtain ⟨r9, hF11, hF10⟩ := bindS hF; clear hF
  refine cut (fun (q12 : Bool) => [(6, (.bool q12))]) (fun (q12 : Bool) w' => q12 = r9 ∧ Cx w0 fp0 S0 w' []) ?_ ?_
  · skip
    obtain ⟨a13, e, hF14⟩ := bindS hF11; clear hF11
    refine boolO e ?_; clear e
    cases a13
    · have hF15 := condF hF14; clear hF14
      exact ⟨false, ⟨rfl, trivial⟩, Option.some.inj hF15, H.sel [] rfl⟩
    · have hF16 := condT hF14; clear hF14
      obtain ⟨a17, e, hF18⟩ := bindS hF16; clear hF16
      refine boolO e ?_; clear e
      exact ⟨a17, ⟨rfl, trivial⟩, Option.some.inj hF18, H.sel [] rfl⟩
  · clear hF11 H
    rintro T20 s7 w19 ⟨hr, (H : Cx w0 fp0 S0 w19 [])⟩
    subst hr
    cases hF10
    exact ⟨_, _, rfl, ⟨rfl, rfl⟩, (H.sel [] rfl).close trivial⟩

theorem impl_table_int_hasShape_c (t_ : List (List Int)) (t_h : Hd) (rows_ : Int) (cols_ : Int) (y : Bool) (hF : F_impl_table_int_hasShape t_ rows_ cols_ = some y) :
    ConF Tryd.prog 136 #[(t_h).v, (.int .i64 rows_), (.int .i64 cols_)] [Es (List (List Int)) t_ t_h] [] (fun v Γ' => v = (.bool y) ∧ Γ' = []) := by
  intro w0 S0 fp0 hI hS
  have H : Cx w0 fp0 S0 w0 [Es (List (List Int)) t_ t_h] := Cx.start hI hS
  clear hI hS
  refine enterC (args := [_, _, _]) gok Tryd.func136 rfl _ rfl rfl rfl ?_
  refine sq ?_
  refine lenE (H.rs (α := List (List Int)) 0 rfl).len ?_
  obtain ⟨a2, e, hF3⟩ := bindS hF; clear hF
  refine boolO e ?_; clear e
  cases a2
  · have hF4 := condF hF3; clear hF3
    refine sq ?_
    obtain ⟨a24, hn, hF25⟩ := bindS hF4; clear hF4
    obtain ⟨r27, e, hF28⟩ := bindS hF25; clear hF25
    refine loopO _ rows_.toNat (fun (k5 : Nat) (_ : Unit) (_ : Unit) => [(0, (t_h).v), (2, (.int .i64 cols_)), (12, (.int .i64 rows_)), (13, (.int .i64 ((k5 : Nat) : Int)))]) (fun _ (_ : Unit) (_ : Unit) w' => Cx w0 fp0 S0 w' [Es (List (List Int)) t_ t_h]) () () e ⟨rfl, rfl, rfl, rfl, trivial⟩ (H.sel [0] rfl) ?_ ?_
    · clear H e
      rintro T30 k5 _ _ w29 o31 hk (H : Cx w0 fp0 S0 w29 [Es (List (List Int)) t_ t_h]) hrt hF32
      refine boolE (z := true) (ltNat hk) ?_
      refine sq ?_
      refine sq ?_
      obtain ⟨a39, e, hF40⟩ := bindS hF32; clear hF32
      have HH := H; clear H; obtain ⟨p37, m38, h41, c33, c34, c35, c36, H⟩ := HH.elL 0 rfl e; clear HH
      clear e
      refine idxE c33 c34 c35 ?_; clear c33 c34 c35
      refine load1 c36 ?_; clear c36
      refine lenE (H.rs (α := List Int) 0 rfl).len ?_
      obtain ⟨a43, e, hF44⟩ := bindS hF40; clear hF40
      refine boolO e ?_; clear e
      cases a43
      · have hF45 := condF hF44; clear hF44
        refine arK hk (maxI hn) ?_
        have hs := Option.some.inj hF45; subst hs; clear hF45
        exact ⟨(), (), rfl, ⟨rfl, rfl, rfl, rfl, trivial⟩, H.sel [1] rfl⟩
      · have hF46 := condT hF44; clear hF44
        have hs := Option.some.inj hF46; subst hs; clear hF46
        have hr := hrt _ rfl; subst hr
        have hF47 : some _ = some _ := hF28
        cases hF47
        exact ⟨_, _, rfl, ⟨rfl, rfl⟩, (H.sel [] rfl).close trivial⟩
    · clear H e
      rintro T49 _ _ w48 hr (H : Cx w0 fp0 S0 w48 [Es (List (List Int)) t_ t_h])
      subst hr
      refine boolE (z := false) geNat ?_
      refine sq ?_
      cases hF28
      exact ⟨_, _, rfl, ⟨rfl, rfl⟩, (H.sel [] rfl).close trivial⟩
  · have hF52 := condT hF3; clear hF3
    cases hF52
    exact ⟨_, _, rfl, ⟨rfl, rfl⟩, (H.sel [] rfl).close trivial⟩

theorem impl_isElement_c (p_ : Int) (a_ : Int) (y : Bool) (hF : F_impl_isElement p_ a_ = some y) :
    ConF Tryd.prog 193 #[(.int .i64 p_), (.int .i64 a_)] [] [] (fun v Γ' => v = (.bool y) ∧ Γ' = []) := by
  intro w0 S0 fp0 hI hS
  have H : Cx w0 fp0 S0 w0 [] := Cx.start hI hS
  clear hI hS
  refine enterC (args := [_, _]) gok Tryd.func193 rfl _ rfl rfl rfl ?_
  obtain ⟨r9, hF11, hF10⟩ := bindS hF; clear hF
  refine cut (fun (q12 : Bool) => [(4, (.bool q12))]) (fun (q12 : Bool) w' => q12 = r9 ∧ Cx w0 fp0 S0 w' []) ?_ ?_
  · skip
    obtain ⟨a13, e, hF14⟩ := bindS hF11; clear hF11
    refine boolO e ?_; clear e
    cases a13
    · have hF15 := condF hF14; clear hF14
      exact ⟨false, ⟨rfl, trivial⟩, Option.some.inj hF15, H.sel [] rfl⟩
    · have hF16 := condT hF14; clear hF14
      obtain ⟨a17, e, hF18⟩ := bindS hF16; clear hF16
      refine boolO e ?_; clear e
      exact ⟨a17, ⟨rfl, trivial⟩, Option.some.inj hF18, H.sel [] rfl⟩
  · clear hF11 H
    rintro T20 s7 w19 ⟨hr, (H : Cx w0 fp0 S0 w19 [])⟩
    subst hr
    cases hF10
    exact ⟨_, _, rfl, ⟨rfl, rfl⟩, (H.sel [] rfl).close trivial⟩

theorem impl_isVector_c (p_ : Int) (v_ : List Int) (v_h : Hd) (n_ : Int) (y : Bool) (hF : F_impl_isVector p_ v_ n_ = some y) :
    ConF Tryd.prog 174 #[(.int .i64 p_), (v_h).v, (.int .i64 n_)] [Es (List Int) v_ v_h] [] (fun v Γ' => v = (.bool y) ∧ Γ' = []) := by
  intro w0 S0 fp0 hI hS
  have H : Cx w0 fp0 S0 w0 [Es (List Int) v_ v_h] := Cx.start hI hS
  clear hI hS
  refine enterC (args := [_, _, _]) gok Tryd.func174 rfl _ rfl rfl rfl ?_
  refine sq ?_
  refine lenE (H.rs (α := List Int) 0 rfl).len ?_
  obtain ⟨a2, e, hF3⟩ := bindS hF; clear hF
  refine boolO e ?_; clear e
  cases a2
  · have hF4 := condF hF3; clear hF3
    refine sq ?_
    refine lenE (H.rs (α := List Int) 0 rfl).len ?_
    have hmx25 := (H.rs (α := List Int) 0 rfl).max
    obtain ⟨r26, e, hF27⟩ := bindS hF4; clear hF4
    refine loopO _ v_.length (fun (k5 : Nat) (_ : Unit) (_ : Unit) => [(0, (.int .i64 p_)), (13, (v_h).v), (14, (.int .i64 ((v_.length : Nat) : Int))), (15, (.int .i64 ((k5 : Nat) : Int)))]) (fun _ (_ : Unit) (_ : Unit) w' => Cx w0 fp0 S0 w' [Es (List Int) v_ v_h]) () () e ⟨rfl, rfl, rfl, rfl, trivial⟩ (H.sel [0] rfl) ?_ ?_
    · clear H e
      rintro T29 k5 _ _ w28 o30 hk (H : Cx w0 fp0 S0 w28 [Es (List Int) v_ v_h]) hrt hF31
      refine boolE (z := true) (ltLen hk) ?_
      refine sq ?_
      refine sq ?_
      obtain ⟨a38, e, hF39⟩ := bindS hF31; clear hF31
      obtain ⟨p36, m37, c32, c33, c34, c35⟩ := (H.rs (α := List Int) 0 rfl).at1 e; clear e
      refine idxE c32 c33 c34 ?_; clear c32 c33 c34
      refine load1 c35 ?_; clear c35
      obtain ⟨y40, e, hF41⟩ := bindS hF39; clear hF39
      have ey40 := e; clear e
      refine callF (impl_isElement_c p_ a38 y40 ey40) (Γi := []) H trivial ?_; clear H ey40
      rintro _ _ w42 ⟨rfl, rfl⟩ (H : Cx w0 fp0 S0 w42 [Es (List Int) v_ v_h])
      obtain ⟨a43, e, hF44⟩ := bindS hF41; clear hF41
      refine boolO e ?_; clear e
      cases a43
      · have hF45 := condF hF44; clear hF44
        refine arK hk hmx25 ?_
        have hs := Option.some.inj hF45; subst hs; clear hF45
        exact ⟨(), (), rfl, ⟨rfl, rfl, rfl, rfl, trivial⟩, H.sel [0] rfl⟩
      · have hF46 := condT hF44; clear hF44
        have hs := Option.some.inj hF46; subst hs; clear hF46
        have hr := hrt _ rfl; subst hr
        have hF47 : some _ = some _ := hF27
        cases hF47
        exact ⟨_, _, rfl, ⟨rfl, rfl⟩, (H.sel [] rfl).close trivial⟩
    · clear H e
      rintro T49 _ _ w48 hr (H : Cx w0 fp0 S0 w48 [Es (List Int) v_ v_h])
      subst hr
      refine boolE (z := false) geLen ?_
      refine sq ?_
      cases hF27
      exact ⟨_, _, rfl, ⟨rfl, rfl⟩, (H.sel [] rfl).close trivial⟩
  · have hF52 := condT hF3; clear hF3
    cases hF52
    exact ⟨_, _, rfl, ⟨rfl, rfl⟩, (H.sel [] rfl).close trivial⟩

theorem impl_areVectors_c (p_ : Int) (rows_ : List (List Int)) (rows_h : Hd) (n_ : Int) (y : Bool) (hF : F_impl_areVectors p_ rows_ n_ = some y) :
    ConF Tryd.prog 137 #[(.int .i64 p_), (rows_h).v, (.int .i64 n_)] [Es (List (List Int)) rows_ rows_h] [] (fun v Γ' => v = (.bool y) ∧ Γ' = []) := by
  intro w0 S0 fp0 hI hS
  have H : Cx w0 fp0 S0 w0 [Es (List (List Int)) rows_ rows_h] := Cx.start hI hS
  clear hI hS
  refine enterC (args := [_, _, _]) gok Tryd.func137 rfl _ rfl rfl rfl ?_
  refine sq ?_
  refine lenE (H.rs (α := List (List Int)) 0 rfl).len ?_
  have hmx24 := (H.rs (α := List (List Int)) 0 rfl).max
  obtain ⟨r25, e, hF26⟩ := bindS hF; clear hF
  refine loopO _ rows_.length (fun (k2 : Nat) (_ : Unit) (_ : Unit) => [(0, (.int .i64 p_)), (2, (.int .i64 n_)), (9, (rows_h).v), (10, (.int .i64 ((rows_.length : Nat) : Int))), (11, (.int .i64 ((k2 : Nat) : Int)))]) (fun _ (_ : Unit) (_ : Unit) w' => Cx w0 fp0 S0 w' [Es (List (List Int)) rows_ rows_h]) () () e ⟨rfl, rfl, rfl, rfl, rfl, trivial⟩ (H.sel [0] rfl) ?_ ?_
  · clear H e
    rintro T28 k2 _ _ w27 o29 hk (H : Cx w0 fp0 S0 w27 [Es (List (List Int)) rows_ rows_h]) hrt hF30
    refine boolE (z := true) (ltLen hk) ?_
    refine sq ?_
    refine sq ?_
    obtain ⟨a37, e, hF38⟩ := bindS hF30; clear hF30
    have HH := H; clear H; obtain ⟨p35, m36, h39, c31, c32, c33, c34, H⟩ := HH.elL 0 rfl e; clear HH
    clear e
    refine idxE c31 c32 c33 ?_; clear c31 c32 c33
    refine load1 c34 ?_; clear c34
    obtain ⟨y41, e, hF42⟩ := bindS hF38; clear hF38
    have ey41 := e; clear e
    refine callF (impl_isVector_c p_ a37 h39 n_ y41 ey41) (Γi := []) H ⟨Vw.sh 0 rfl, trivial⟩ ?_; clear H ey41
    rintro _ _ w43 ⟨rfl, rfl⟩ (H : Cx w0 fp0 S0 w43 [Es (List Int) a37 h39, Es (List (List Int)) rows_ rows_h])
    obtain ⟨a44, e, hF45⟩ := bindS hF42; clear hF42
    refine boolO e ?_; clear e
    cases a44
    · have hF46 := condF hF45; clear hF45
      refine arK hk hmx24 ?_
      have hs := Option.some.inj hF46; subst hs; clear hF46
      exact ⟨(), (), rfl, ⟨rfl, rfl, rfl, rfl, rfl, trivial⟩, H.sel [1] rfl⟩
    · have hF47 := condT hF45; clear hF45
      have hs := Option.some.inj hF47; subst hs; clear hF47
      have hr := hrt _ rfl; subst hr
      have hF48 : some _ = some _ := hF26
      cases hF48
      exact ⟨_, _, rfl, ⟨rfl, rfl⟩, (H.sel [] rfl).close trivial⟩
  · clear H e
    rintro T50 _ _ w49 hr (H : Cx w0 fp0 S0 w49 [Es (List (List Int)) rows_ rows_h])
    subst hr
    refine boolE (z := false) geLen ?_
    refine sq ?_
    cases hF26
    exact ⟨_, _, rfl, ⟨rfl, rfl⟩, (H.sel [] rfl).close trivial⟩
end Go.Proofs.YteikcdofblclhaaDoor
