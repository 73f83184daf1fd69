/-
  Contracts, printed by a program (wip/y/gen.py): each function of Go computes its partial function. Condition of each: its partial function yields a value.
-/
import Derived.Test.YteikcdofblclhaaDoorZMan
namespace Go.Proofs.YteikcdofblclhaaDoor
open Go Go.Proofs.YteikcdofblclhaaDoor.RW
set_option maxRecDepth 100000
set_option linter.unusedVariables false

theorem laws_szIntS_c (a_ : List Int) (a_h : Hd) (left_ : Int) (y : Int) (hF : F_laws_szIntS a_ left_ = some y) :
    ConF Tryd.prog 130 #[(a_h).v, (.int .i64 left_)] [Es (List Int) a_ a_h] [] (fun v Γ' => v = (.int .i64 y) ∧ Γ' = []) := by
  intro w0 S0 fp0 hI hS
  have H : Cx w0 fp0 S0 w0 [Es (List Int) a_ a_h] := Cx.start hI hS
  clear hI hS
  refine enterC (args := [_, _]) gok Tryd.func130 rfl _ rfl rfl rfl ?_
  refine lenE (H.rs (α := List Int) 0 rfl).len ?_
  obtain ⟨a2, e, hF3⟩ := bindS hF; clear hF
  refine arO e ?_; clear e
  refine sq ?_
  obtain ⟨a4, e, hF5⟩ := bindS hF3; clear hF3
  refine boolO e ?_; clear e
  cases a4
  · have hF6 := condF hF5; clear hF5
    cases hF6
    exact ⟨_, _, rfl, ⟨rfl, rfl⟩, (H.sel [] rfl).close trivial⟩
  · have hF7 := condT hF5; clear hF5
    cases hF7
    exact ⟨_, _, rfl, ⟨rfl, rfl⟩, (H.sel [] rfl).close trivial⟩

theorem laws_szIntSS_c (a_ : List (List Int)) (a_h : Hd) (left_ : Int) (y : Int) (hF : F_laws_szIntSS a_ left_ = some y) :
    ConF Tryd.prog 65 #[(a_h).v, (.int .i64 left_)] [Es (List (List Int)) a_ a_h] [] (fun v Γ' => v = (.int .i64 y) ∧ Γ' = []) := by
  intro w0 S0 fp0 hI hS
  have H : Cx w0 fp0 S0 w0 [Es (List (List Int)) a_ a_h] := Cx.start hI hS
  clear hI hS
  refine enterC (args := [_, _]) gok Tryd.func65 rfl _ rfl rfl rfl ?_
  refine lenE (H.rs (α := List (List Int)) 0 rfl).len ?_
  obtain ⟨a2, e, hF3⟩ := bindS hF; clear hF
  refine arO e ?_; clear e
  refine sq ?_
  obtain ⟨a4, e, hF5⟩ := bindS hF3; clear hF3
  refine boolO e ?_; clear e
  cases a4
  · have hF6 := condF hF5; clear hF5
    obtain ⟨r93, hF95, hF94⟩ := bindS hF6; clear hF6
    refine cut (fun (q96 : Int) => [(1, (.int .i64 q96))]) (fun (q96 : Int) w' => .inl q96 = r93 ∧ Cx w0 fp0 S0 w' []) ?_ ?_
    · skip
      refine loopW _ (fun (s147 : Int × Int) (_ : Unit) => [(0, (a_h).v), (1, (.int .i64 s147.1)), (5, (.int .i64 s147.2))]) (fun (s147 : Int × Int) (_ : Unit) w' => Cx w0 fp0 S0 w' [Es (List (List Int)) a_ a_h]) (a2, 0) () hF95 ⟨rfl, rfl, rfl, trivial⟩ (H.sel [0] rfl) ?_
      · clear H
        rintro T153 ⟨s147_0, s147_1⟩ _ w152 o154 (H : Cx w0 fp0 S0 w152 [Es (List (List Int)) a_ a_h]) hrt hF155
        refine sq ?_
        refine lenE (H.rs (α := List (List Int)) 0 rfl).len ?_
        obtain ⟨a156, e, hF157⟩ := bindS hF155; clear hF155
        refine boolO e ?_; clear e
        cases a156
        · have hF158 := condF hF157; clear hF157
          have hs := Option.some.inj hF158; subst hs; clear hF158
          have hF159 : some _ = some _ := congrArg some (hrt _ rfl).symm
          exact ⟨s147_0, ⟨rfl, trivial⟩, Option.some.inj hF159, H.sel [] rfl⟩
        · have hF160 := condT hF157; clear hF157
          refine sq ?_
          obtain ⟨a167, e, hF168⟩ := bindS hF160; clear hF160
          have HH := H; clear H; obtain ⟨p165, m166, h169, c161, c162, c163, c164, H⟩ := HH.elL 0 rfl e; clear HH
          clear e
          refine idxE c161 c162 c163 ?_; clear c161 c162 c163
          refine load1 c164 ?_; clear c164
          obtain ⟨y171, e, hF172⟩ := bindS hF168; clear hF168
          have ey171 := e; clear e
          refine callF (laws_szIntS_c a167 h169 s147_0 y171 ey171) (Γi := []) H ⟨Vw.sh 0 rfl, trivial⟩ ?_; clear H ey171
          rintro _ _ w173 ⟨rfl, rfl⟩ (H : Cx w0 fp0 S0 w173 [Es (List Int) a167 h169, Es (List (List Int)) a_ a_h])
          obtain ⟨a174, e, hF175⟩ := bindS hF172; clear hF172
          refine boolO e ?_; clear e
          cases a174
          · have hF176 := condF hF175; clear hF175
            obtain ⟨a177, e, hF178⟩ := bindS hF176; clear hF176
            refine arO e ?_; clear e
            have hs := Option.some.inj hF178; subst hs; clear hF178
            exact ⟨(y171, a177), (), rfl, ⟨rfl, rfl, rfl, trivial⟩, H.sel [1] rfl⟩
          · have hF179 := condT hF175; clear hF175
            have hs := Option.some.inj hF179; subst hs; clear hF179
            have hF180 : some _ = some _ := congrArg some (hrt _ rfl).symm
            have hs := Option.some.inj hF180; subst hs; clear hF180
            have hF181 : some _ = some _ := hF94; clear hF94
            cases hF181
            exact ⟨_, _, rfl, ⟨rfl, rfl⟩, (H.sel [] rfl).close trivial⟩
    · clear hF95 H
      rintro T183 s91 w182 ⟨hr, (H : Cx w0 fp0 S0 w182 [])⟩
      subst hr
      cases hF94
      exact ⟨_, _, rfl, ⟨rfl, rfl⟩, (H.sel [] rfl).close trivial⟩
  · have hF184 := condT hF5; clear hF5
    cases hF184
    exact ⟨_, _, rfl, ⟨rfl, rfl⟩, (H.sel [] rfl).close trivial⟩

theorem laws_szRelation_c (a__0 : Int) (a__1 : Int) (a__2 : List (List Int)) (a__2h : Hd) (left_ : Int) (y : Int) (hF : F_laws_szRelation (a__0, a__1, a__2) left_ = some y) :
    ConF Tryd.prog 41 #[(.agg #[(.int .i64 a__0), (.int .i64 a__1), (a__2h).v]), (.int .i64 left_)] [Es (List (List Int)) a__2 a__2h] [] (fun v Γ' => v = (.int .i64 y) ∧ Γ' = []) := by
  intro w0 S0 fp0 hI hS
  have H : Cx w0 fp0 S0 w0 [Es (List (List Int)) a__2 a__2h] := Cx.start hI hS
  clear hI hS
  refine enterC (args := [_, _]) gok Tryd.func41 rfl _ rfl rfl rfl ?_
  refine box_ H ?_; clear H; intro b3 w2 hx H
  clear hx
  replace H : Cx w0 fp0 S0 w2 [Bx b3 [(.int .i64 a__0), (.int .i64 a__1), (a__2h).v], Es (List (List Int)) a__2 a__2h] := H
  refine fld gok rfl rfl rfl rfl ?_
  refine load1 (H.bx 0 rfl (j := 2) rfl) ?_
  obtain ⟨y5, e, hF6⟩ := bindS hF; clear hF
  have ey5 := e; clear e
  refine callF (laws_szIntSS_c a__2 a__2h left_ y5 ey5) (Γi := []) H ⟨Vw.sh 1 rfl, trivial⟩ ?_; clear H ey5
  rintro _ _ w7 ⟨rfl, rfl⟩ (H : Cx w0 fp0 S0 w7 [Bx b3 [(.int .i64 a__0), (.int .i64 a__1), (a__2h).v], Es (List (List Int)) a__2 a__2h])
  refine sq ?_
  obtain ⟨a8, e, hF9⟩ := bindS hF6; clear hF6
  refine boolO e ?_; clear e
  cases a8
  · have hF10 := condF hF9; clear hF9
    cases hF10
    exact ⟨_, _, rfl, ⟨rfl, rfl⟩, (H.sel [] rfl).close trivial⟩
  · have hF11 := condT hF9; clear hF9
    cases hF11
    exact ⟨_, _, rfl, ⟨rfl, rfl⟩, (H.sel [] rfl).close trivial⟩

theorem laws_toIntS_c (a_ : List Int) (a_h : Hd) (y : List Int) (hF : F_laws_toIntS a_ = some y) :
    ConF Tryd.prog 31 #[(a_h).v] [Es (List Int) a_ a_h] [] (fun v Γ' => ∃ z0 : Hd, v = (z0).v ∧ Γ' = [E (List Int) y z0]) := by
  intro w0 S0 fp0 hI hS
  have H : Cx w0 fp0 S0 w0 [Es (List Int) a_ a_h] := Cx.start hI hS
  clear hI hS
  refine enterC (args := [_]) gok Tryd.func31 rfl _ rfl rfl rfl ?_
  refine lenE (H.rs (α := List Int) 0 rfl).len ?_
  obtain ⟨a2, e, hF3⟩ := bindS hF; clear hF
  refine make_ (α := Int) gok rfl rfl rfl rfl (makeCO_of e) H ?_; clear e H; intro h5 w4 hx H
  clear hx
  obtain ⟨r92, hF94, hF93⟩ := bindS hF3; clear hF3
  refine cut (fun (q95 : List Int) => [(3, (h5).v)]) (fun (q95 : List Int) w' => q95 = r92 ∧ Cx w0 fp0 S0 w' [E (List Int) q95 h5]) ?_ ?_
  · skip
    refine loopW _ (fun (s146 : List Int × Int) (_ : Unit) => [(0, (a_h).v), (3, (h5).v), (4, (.int .i64 s146.2))]) (fun (s146 : List Int × Int) (_ : Unit) w' => Cx w0 fp0 S0 w' [Es (List Int) a_ a_h, E (List Int) s146.1 h5]) (a2, 0) () hF94 ⟨rfl, rfl, rfl, trivial⟩ (H.sel [1, 0] rfl) ?_
    · clear H
      rintro T152 ⟨s146_0, s146_1⟩ _ w151 o153 (H : Cx w0 fp0 S0 w151 [Es (List Int) a_ a_h, E (List Int) s146_0 h5]) hrt hF154
      refine sq ?_
      refine lenE (H.rs (α := List Int) 0 rfl).len ?_
      obtain ⟨a155, e, hF156⟩ := bindS hF154; clear hF154
      refine boolO e ?_; clear e
      cases a155
      · have hF157 := condF hF156; clear hF156
        have hs := Option.some.inj hF157; subst hs; clear hF157
        have hF158 : some _ = some _ := congrArg some (hrt _ rfl).symm
        exact ⟨s146_0, ⟨rfl, trivial⟩, Option.some.inj hF158, H.sel [1] rfl⟩
      · have hF159 := condT hF156; clear hF156
        refine sq ?_
        obtain ⟨a166, e, hF167⟩ := bindS hF159; clear hF159
        obtain ⟨p164, m165, c160, c161, c162, c163⟩ := (H.rs (α := List Int) 0 rfl).at1 e; clear e
        refine idxE c160 c161 c162 ?_; clear c160 c161 c162
        refine load1 c163 ?_; clear c163
        obtain ⟨a174, e, hF175⟩ := bindS hF167; clear hF167
        have ea174 := e; clear e
        obtain ⟨p172, m173, c168, c169, c170⟩ := (H.ro (α := List Int) 1 rfl).setp ea174
        refine idxE c168 c169 c170 ?_
        replace H := H.sel [1, 0] rfl
        refine setS (α := Int) H c168 c169 ea174 ?_; clear H c168 c169 c170 ea174; intro w176 H
        obtain ⟨a177, e, hF178⟩ := bindS hF175; clear hF175
        refine arO e ?_; clear e
        have hs := Option.some.inj hF178; subst hs; clear hF178
        exact ⟨(a174, a177), (), rfl, ⟨rfl, rfl, rfl, trivial⟩, H.sel [1, 0] rfl⟩
  · clear hF94 H
    rintro T180 s90 w179 ⟨hr, (H : Cx w0 fp0 S0 w179 [E (List Int) s90 h5])⟩
    subst hr
    cases hF93
    exact ⟨_, _, rfl, ⟨h5, rfl, rfl⟩, (H.sel [0] rfl).close ⟨cloE, trivial⟩⟩

theorem laws_toIntSS_c (a_ : List (List Int)) (a_h : Hd) (y : List (List Int)) (hF : F_laws_toIntSS a_ = some y) :
    ConF Tryd.prog 69 #[(a_h).v] [Es (List (List Int)) a_ a_h] [] (fun v Γ' => ∃ z0 : Hd, v = (z0).v ∧ Γ' = [E (List (List Int)) y z0]) := by
  intro w0 S0 fp0 hI hS
  have H : Cx w0 fp0 S0 w0 [Es (List (List Int)) a_ a_h] := Cx.start hI hS
  clear hI hS
  refine enterC (args := [_]) gok Tryd.func69 rfl _ rfl rfl rfl ?_
  refine lenE (H.rs (α := List (List Int)) 0 rfl).len ?_
  obtain ⟨a2, e, hF3⟩ := bindS hF; clear hF
  refine make_ (α := List Int) gok rfl rfl rfl rfl (makeCO_of e) H ?_; clear e H; intro h5 w4 hx H
  clear hx
  obtain ⟨r113, hF115, hF114⟩ := bindS hF3; clear hF3
  refine cut (fun (q116 : List (List Int)) => [(3, (h5).v)]) (fun (q116 : List (List Int)) w' => q116 = r113 ∧ Cx w0 fp0 S0 w' [E (List (List Int)) q116 h5]) ?_ ?_
  · skip
    refine loopW _ (fun (s181 : List (List Int) × Int) (_ : Unit) => [(0, (a_h).v), (3, (h5).v), (4, (.int .i64 s181.2))]) (fun (s181 : List (List Int) × Int) (_ : Unit) w' => Cx w0 fp0 S0 w' [Es (List (List Int)) a_ a_h, E (List (List Int)) s181.1 h5]) (a2, 0) () hF115 ⟨rfl, rfl, rfl, trivial⟩ (H.sel [1, 0] rfl) ?_
    · clear H
      rintro T187 ⟨s181_0, s181_1⟩ _ w186 o188 (H : Cx w0 fp0 S0 w186 [Es (List (List Int)) a_ a_h, E (List (List Int)) s181_0 h5]) hrt hF189
      refine sq ?_
      refine lenE (H.rs (α := List (List Int)) 0 rfl).len ?_
      obtain ⟨a190, e, hF191⟩ := bindS hF189; clear hF189
      refine boolO e ?_; clear e
      cases a190
      · have hF192 := condF hF191; clear hF191
        have hs := Option.some.inj hF192; subst hs; clear hF192
        have hF193 : some _ = some _ := congrArg some (hrt _ rfl).symm
        exact ⟨s181_0, ⟨rfl, trivial⟩, Option.some.inj hF193, H.sel [1] rfl⟩
      · have hF194 := condT hF191; clear hF191
        refine sq ?_
        obtain ⟨a201, e, hF202⟩ := bindS hF194; clear hF194
        have HH := H; clear H; obtain ⟨p199, m200, h203, c195, c196, c197, c198, H⟩ := HH.elL 0 rfl e; clear HH
        clear e
        refine idxE c195 c196 c197 ?_; clear c195 c196 c197
        refine load1 c198 ?_; clear c198
        obtain ⟨y205, e, hF206⟩ := bindS hF202; clear hF202
        have ey205 := e; clear e
        refine callF (laws_toIntS_c a201 h203 y205 ey205) (Γi := []) H ⟨Vw.sh 0 rfl, trivial⟩ ?_; clear H ey205
        rintro _ _ w207 ⟨h208, rfl, rfl⟩ (H : Cx w0 fp0 S0 w207 [E (List Int) y205 h208, Es (List Int) a201 h203, Es (List (List Int)) a_ a_h, E (List (List Int)) s181_0 h5])
        obtain ⟨a216, e, hF217⟩ := bindS hF206; clear hF206
        have ea216 := e; clear e
        obtain ⟨p214, m215, c210, c211, c212⟩ := (H.ro (α := List (List Int)) 3 rfl).setp ea216
        refine idxE c210 c211 c212 ?_
        replace H := H.sel [3, 0, 1, 2] rfl
        refine setL H c210 c211 ea216 ?_; clear H c210 c211 c212 ea216; intro w218 H
        obtain ⟨a219, e, hF220⟩ := bindS hF217; clear hF217
        refine arO e ?_; clear e
        have hs := Option.some.inj hF220; subst hs; clear hF220
        exact ⟨(a216, a219), (), rfl, ⟨rfl, rfl, rfl, trivial⟩, H.sel [2, 0] rfl⟩
  · clear hF115 H
    rintro T222 s111 w221 ⟨hr, (H : Cx w0 fp0 S0 w221 [E (List (List Int)) s111 h5])⟩
    subst hr
    cases hF114
    exact ⟨_, _, rfl, ⟨h5, rfl, rfl⟩, (H.sel [0] rfl).close ⟨cloE, trivial⟩⟩

theorem laws_toRelation_c (a__0 : Int) (a__1 : Int) (a__2 : List (List Int)) (a__2h : Hd) (y_0 : Int) (y_1 : Int) (y_2 : List (List Int)) (hF : F_laws_toRelation (a__0, a__1, a__2) = some (y_0, y_1, y_2)) :
    ConF Tryd.prog 43 #[(.agg #[(.int .i64 a__0), (.int .i64 a__1), (a__2h).v])] [Es (List (List Int)) a__2 a__2h] [] (fun v Γ' => ∃ z0 : Hd, v = (.agg #[(.int .i64 y_0), (.int .i64 y_1), (z0).v]) ∧ Γ' = [E (List (List Int)) y_2 z0]) := by
  intro w0 S0 fp0 hI hS
  have H : Cx w0 fp0 S0 w0 [Es (List (List Int)) a__2 a__2h] := Cx.start hI hS
  clear hI hS
  refine enterC (args := [_]) gok Tryd.func43 rfl _ rfl rfl rfl ?_
  refine box_ H ?_; clear H; intro b3 w2 hx H
  clear hx
  replace H : Cx w0 fp0 S0 w2 [Bx b3 [(.int .i64 a__0), (.int .i64 a__1), (a__2h).v], Es (List (List Int)) a__2 a__2h] := H
  refine alloc_ gok rfl H ?_; clear H; intro b6 w5 hx H
  clear hx
  replace H : Cx w0 fp0 S0 w5 [Bx b6 [(.int .i64 0), (.int .i64 0), (.slice none 0 0)], Bx b3 [(.int .i64 a__0), (.int .i64 a__1), (a__2h).v], Es (List (List Int)) a__2 a__2h] := H
  refine alloc_ gok rfl H ?_; clear H; intro b9 w8 hx H
  clear hx
  replace H : Cx w0 fp0 S0 w8 [Bx b9 [(.int .i64 0), (.int .i64 0), (.slice none 0 0)], Bx b6 [(.int .i64 0), (.int .i64 0), (.slice none 0 0)], Bx b3 [(.int .i64 a__0), (.int .i64 a__1), (a__2h).v], Es (List (List Int)) a__2 a__2h] := H
  refine fld gok rfl rfl rfl rfl ?_
  refine load1 (H.bx 2 rfl (j := 0) rfl) ?_
  refine fld gok rfl rfl rfl rfl ?_
  refine stB (j := 0) H rfl rfl ?_; clear H; intro w11 H
  replace H : Cx w0 fp0 S0 w11 [Bx b9 [(.int .i64 a__0), (.int .i64 0), (.slice none 0 0)], Bx b6 [(.int .i64 0), (.int .i64 0), (.slice none 0 0)], Bx b3 [(.int .i64 a__0), (.int .i64 a__1), (a__2h).v], Es (List (List Int)) a__2 a__2h] := H
  refine fld gok rfl rfl rfl rfl ?_
  refine load1 (H.bx 2 rfl (j := 1) rfl) ?_
  refine fld gok rfl rfl rfl rfl ?_
  refine stB (j := 1) H rfl rfl ?_; clear H; intro w12 H
  replace H : Cx w0 fp0 S0 w12 [Bx b9 [(.int .i64 a__0), (.int .i64 a__1), (.slice none 0 0)], Bx b6 [(.int .i64 0), (.int .i64 0), (.slice none 0 0)], Bx b3 [(.int .i64 a__0), (.int .i64 a__1), (a__2h).v], Es (List (List Int)) a__2 a__2h] := H
  refine fld gok rfl rfl rfl rfl ?_
  refine load1 (H.bx 2 rfl (j := 2) rfl) ?_
  obtain ⟨y13, e, hF14⟩ := bindS hF; clear hF
  have ey13 := e; clear e
  refine callF (laws_toIntSS_c a__2 a__2h y13 ey13) (Γi := []) H ⟨Vw.sh 3 rfl, trivial⟩ ?_; clear H ey13
  rintro _ _ w15 ⟨h16, rfl, rfl⟩ (H : Cx w0 fp0 S0 w15 [E (List (List Int)) y13 h16, Bx b9 [(.int .i64 a__0), (.int .i64 a__1), (.slice none 0 0)], Bx b6 [(.int .i64 0), (.int .i64 0), (.slice none 0 0)], Bx b3 [(.int .i64 a__0), (.int .i64 a__1), (a__2h).v], Es (List (List Int)) a__2 a__2h])
  refine fld gok rfl rfl rfl rfl ?_
  replace H := H.sel [1, 0, 2, 3, 4] rfl
  refine stB (j := 2) H rfl rfl ?_; clear H; intro w18 H
  replace H : Cx w0 fp0 S0 w18 [Bx b9 [(.int .i64 a__0), (.int .i64 a__1), (h16).v], E (List (List Int)) y13 h16, Bx b6 [(.int .i64 0), (.int .i64 0), (.slice none 0 0)], Bx b3 [(.int .i64 a__0), (.int .i64 a__1), (a__2h).v], Es (List (List Int)) a__2 a__2h] := H
  refine loadN [(.int .i64 a__0), (.int .i64 a__1), (h16).v] rfl (fun j u hj => H.bx 0 rfl hj) ?_
  replace H := H.sel [2, 0, 1, 3, 4] rfl
  refine stA gok [(.int .i64 a__0), (.int .i64 a__1), (h16).v] rfl H rfl rfl rfl ?_; clear H; intro w19 H
  replace H : Cx w0 fp0 S0 w19 [Bx b6 [(.int .i64 a__0), (.int .i64 a__1), (h16).v], Bx b9 [(.int .i64 a__0), (.int .i64 a__1), (h16).v], E (List (List Int)) y13 h16, Bx b3 [(.int .i64 a__0), (.int .i64 a__1), (a__2h).v], Es (List (List Int)) a__2 a__2h] := H
  refine loadN [(.int .i64 a__0), (.int .i64 a__1), (h16).v] rfl (fun j u hj => H.bx 0 rfl hj) ?_
  cases hF14
  exact ⟨_, _, rfl, ⟨h16, rfl, rfl⟩, (H.sel [2] rfl).close ⟨cloE, trivial⟩⟩

theorem spec_l1In_c (n_ : Int) (lo_ : Int) (hi_ : Int) (y : Bool) (hF : F_spec_l1In n_ lo_ hi_ = some y) :
    ConF Tryd.prog 80 #[(.int .i64 n_), (.int .i64 lo_), (.int .i64 hi_)] [] [] (fun v Γ' => v = (.bool y) ∧ Γ' = []) := by
  intro w0 S0 fp0 hI hS
  have H : Cx w0 fp0 S0 w0 [] := Cx.start hI hS
  clear hI hS
  refine enterC (args := [_, _, _]) gok Tryd.func80 rfl _ rfl rfl rfl ?_
  obtain ⟨r9, hF11, hF10⟩ := bindS hF; clear hF
  refine cut (fun (q12 : Bool) => [(6, (.bool q12))]) (fun (q12 : Bool) w' => q12 = r9 ∧ Cx w0 fp0 S0 w' []) ?_ ?_
  · skip
    obtain ⟨a13, e, hF14⟩ := bindS hF11; clear hF11
    refine boolO e ?_; clear e
    cases a13
    · have hF15 := condF hF14; clear hF14
      exact ⟨false, ⟨rfl, trivial⟩, Option.some.inj hF15, H.sel [] rfl⟩
    · have hF16 := condT hF14; clear hF14
      obtain ⟨a17, e, hF18⟩ := bindS hF16; clear hF16
      refine boolO e ?_; clear e
      exact ⟨a17, ⟨rfl, trivial⟩, Option.some.inj hF18, H.sel [] rfl⟩
  · clear hF11 H
    rintro T20 s7 w19 ⟨hr, (H : Cx w0 fp0 S0 w19 [])⟩
    subst hr
    cases hF10
    exact ⟨_, _, rfl, ⟨rfl, rfl⟩, (H.sel [] rfl).close trivial⟩

theorem spec_fdGood_c (p_ : Int) (y : Bool) (hF : F_spec_fdGood p_ = some y) :
    ConF Tryd.prog 131 #[(.int .i64 p_)] [] [] (fun v Γ' => v = (.bool y) ∧ Γ' = []) := by
  intro w0 S0 fp0 hI hS
  have H : Cx w0 fp0 S0 w0 [] := Cx.start hI hS
  clear hI hS
  refine enterC (args := [_]) gok Tryd.func131 rfl _ rfl rfl rfl ?_
  refine sq ?_
  obtain ⟨y1, e, hF2⟩ := bindS hF; clear hF
  have ey1 := e; clear e
  refine callF (spec_l1In_c p_ 2 97 y1 ey1) (Γi := []) H trivial ?_; clear H ey1
  rintro _ _ w3 ⟨rfl, rfl⟩ (H : Cx w0 fp0 S0 w3 [])
  obtain ⟨a4, e, hF5⟩ := bindS hF2; clear hF2
  refine boolO e ?_; clear e
  cases a4
  · have hF6 := condF hF5; clear hF5
    obtain ⟨r66, hF68, hF67⟩ := bindS hF6; clear hF6
    refine cut (fun (q69 : Unit) => []) (fun (q69 : Unit) w' => .inl () = r66 ∧ Cx w0 fp0 S0 w' []) ?_ ?_
    · skip
      refine loopW _ (fun (s102 : Int) (_ : Unit) => [(0, (.int .i64 p_)), (3, (.int .i64 s102))]) (fun (s102 : Int) (_ : Unit) w' => Cx w0 fp0 S0 w' []) 2 () hF68 ⟨rfl, rfl, trivial⟩ (H.sel [] rfl) ?_
      · clear H
        rintro T108 s102 _ w107 o109 (H : Cx w0 fp0 S0 w107 []) hrt hF110
        refine sq ?_
        obtain ⟨a111, e, hF112⟩ := bindS hF110; clear hF110
        refine arO e ?_; clear e
        obtain ⟨a113, e, hF114⟩ := bindS hF112; clear hF112
        refine boolO e ?_; clear e
        cases a113
        · have hF115 := condF hF114; clear hF114
          have hs := Option.some.inj hF115; subst hs; clear hF115
          have hF116 : some _ = some _ := congrArg some (hrt _ rfl).symm
          exact ⟨(), trivial, Option.some.inj hF116, H.sel [] rfl⟩
        · have hF117 := condT hF114; clear hF114
          refine sq ?_
          obtain ⟨a118, e, hF119⟩ := bindS hF117; clear hF117
          refine remO_ e ?_; clear e
          obtain ⟨a120, e, hF121⟩ := bindS hF119; clear hF119
          refine boolO e ?_; clear e
          cases a120
          · have hF122 := condF hF121; clear hF121
            obtain ⟨a123, e, hF124⟩ := bindS hF122; clear hF122
            refine arO e ?_; clear e
            have hs := Option.some.inj hF124; subst hs; clear hF124
            exact ⟨a123, (), rfl, ⟨rfl, rfl, trivial⟩, H.sel [] rfl⟩
          · have hF125 := condT hF121; clear hF121
            have hs := Option.some.inj hF125; subst hs; clear hF125
            have hF126 : some _ = some _ := congrArg some (hrt _ rfl).symm
            have hs := Option.some.inj hF126; subst hs; clear hF126
            have hF127 : some _ = some _ := hF67; clear hF67
            cases hF127
            exact ⟨_, _, rfl, ⟨rfl, rfl⟩, (H.sel [] rfl).close trivial⟩
    · clear hF68 H
      rintro T129 _ w128 ⟨hr, (H : Cx w0 fp0 S0 w128 [])⟩
      subst hr
      cases hF67
      exact ⟨_, _, rfl, ⟨rfl, rfl⟩, (H.sel [] rfl).close trivial⟩
  · have hF130 := condT hF5; clear hF5
    cases hF130
    exact ⟨_, _, rfl, ⟨rfl, rfl⟩, (H.sel [] rfl).close trivial⟩

theorem spec_l1All_c (l_ : List Int) (l_h : Hd) (lo_ : Int) (hi_ : Int) (y : Bool) (hF : F_spec_l1All l_ lo_ hi_ = some y) :
    ConF Tryd.prog 178 #[(l_h).v, (.int .i64 lo_), (.int .i64 hi_)] [Es (List Int) l_ l_h] [] (fun v Γ' => v = (.bool y) ∧ Γ' = []) := by
  intro w0 S0 fp0 hI hS
  have H : Cx w0 fp0 S0 w0 [Es (List Int) l_ l_h] := Cx.start hI hS
  clear hI hS
  refine enterC (args := [_, _, _]) gok Tryd.func178 rfl _ rfl rfl rfl ?_
  refine sq ?_
  refine lenE (H.rs (α := List Int) 0 rfl).len ?_
  have hmx22 := (H.rs (α := List Int) 0 rfl).max
  obtain ⟨r23, e, hF24⟩ := bindS hF; clear hF
  refine loopO _ l_.length (fun (k2 : Nat) (_ : Unit) (_ : Unit) => [(1, (.int .i64 lo_)), (2, (.int .i64 hi_)), (9, (l_h).v), (10, (.int .i64 ((l_.length : Nat) : Int))), (11, (.int .i64 ((k2 : Nat) : Int)))]) (fun _ (_ : Unit) (_ : Unit) w' => Cx w0 fp0 S0 w' [Es (List Int) l_ l_h]) () () e ⟨rfl, rfl, rfl, rfl, rfl, trivial⟩ (H.sel [0] rfl) ?_ ?_
  · clear H e
    rintro T26 k2 _ _ w25 o27 hk (H : Cx w0 fp0 S0 w25 [Es (List Int) l_ l_h]) hrt hF28
    refine boolE (z := true) (ltLen hk) ?_
    refine sq ?_
    refine sq ?_
    obtain ⟨a35, e, hF36⟩ := bindS hF28; clear hF28
    obtain ⟨p33, m34, c29, c30, c31, c32⟩ := (H.rs (α := List Int) 0 rfl).at1 e; clear e
    refine idxE c29 c30 c31 ?_; clear c29 c30 c31
    refine load1 c32 ?_; clear c32
    obtain ⟨y37, e, hF38⟩ := bindS hF36; clear hF36
    have ey37 := e; clear e
    refine callF (spec_l1In_c a35 lo_ hi_ y37 ey37) (Γi := []) H trivial ?_; clear H ey37
    rintro _ _ w39 ⟨rfl, rfl⟩ (H : Cx w0 fp0 S0 w39 [Es (List Int) l_ l_h])
    obtain ⟨a40, e, hF41⟩ := bindS hF38; clear hF38
    refine boolO e ?_; clear e
    cases a40
    · have hF42 := condF hF41; clear hF41
      refine arK hk hmx22 ?_
      have hs := Option.some.inj hF42; subst hs; clear hF42
      exact ⟨(), (), rfl, ⟨rfl, rfl, rfl, rfl, rfl, trivial⟩, H.sel [0] rfl⟩
    · have hF43 := condT hF41; clear hF41
      have hs := Option.some.inj hF43; subst hs; clear hF43
      have hr := hrt _ rfl; subst hr
      have hF44 : some _ = some _ := hF24
      cases hF44
      exact ⟨_, _, rfl, ⟨rfl, rfl⟩, (H.sel [] rfl).close trivial⟩
  · clear H e
    rintro T46 _ _ w45 hr (H : Cx w0 fp0 S0 w45 [Es (List Int) l_ l_h])
    subst hr
    refine boolE (z := false) geLen ?_
    refine sq ?_
    cases hF24
    exact ⟨_, _, rfl, ⟨rfl, rfl⟩, (H.sel [] rfl).close trivial⟩

theorem spec_fdIn_c (p_ : Int) (l_ : List Int) (l_h : Hd) (y : Bool) (hF : F_spec_fdIn p_ l_ = some y) :
    ConF Tryd.prog 142 #[(.int .i64 p_), (l_h).v] [Es (List Int) l_ l_h] [] (fun v Γ' => v = (.bool y) ∧ Γ' = []) := by
  intro w0 S0 fp0 hI hS
  have H : Cx w0 fp0 S0 w0 [Es (List Int) l_ l_h] := Cx.start hI hS
  clear hI hS
  refine enterC (args := [_, _]) gok Tryd.func142 rfl _ rfl rfl rfl ?_
  obtain ⟨a2, e, hF3⟩ := bindS hF; clear hF
  refine arO e ?_; clear e
  obtain ⟨y4, e, hF5⟩ := bindS hF3; clear hF3
  have ey4 := e; clear e
  refine callF (spec_l1All_c l_ l_h 0 a2 y4 ey4) (Γi := []) H ⟨Vw.sh 0 rfl, trivial⟩ ?_; clear H ey4
  rintro _ _ w6 ⟨rfl, rfl⟩ (H : Cx w0 fp0 S0 w6 [Es (List Int) l_ l_h])
  cases hF5
  exact ⟨_, _, rfl, ⟨rfl, rfl⟩, (H.sel [] rfl).close trivial⟩

theorem spec_spRows_c (p_ : Int) (size_ : Int) (rows_ : List (List Int)) (rows_h : Hd) (y : Bool) (hF : F_spec_spRows p_ size_ rows_ = some y) :
    ConF Tryd.prog 173 #[(.int .i64 p_), (.int .i64 size_), (rows_h).v] [Es (List (List Int)) rows_ rows_h] [] (fun v Γ' => v = (.bool y) ∧ Γ' = []) := by
  intro w0 S0 fp0 hI hS
  have H : Cx w0 fp0 S0 w0 [Es (List (List Int)) rows_ rows_h] := Cx.start hI hS
  clear hI hS
  refine enterC (args := [_, _, _]) gok Tryd.func173 rfl _ rfl rfl rfl ?_
  refine sq ?_
  refine lenE (H.rs (α := List (List Int)) 0 rfl).len ?_
  have hmx45 := (H.rs (α := List (List Int)) 0 rfl).max
  obtain ⟨r46, e, hF47⟩ := bindS hF; clear hF
  refine loopO _ rows_.length (fun (k2 : Nat) (_ : Unit) (_ : Unit) => [(0, (.int .i64 p_)), (1, (.int .i64 size_)), (9, (rows_h).v), (10, (.int .i64 ((rows_.length : Nat) : Int))), (11, (.int .i64 ((k2 : Nat) : Int)))]) (fun _ (_ : Unit) (_ : Unit) w' => Cx w0 fp0 S0 w' [Es (List (List Int)) rows_ rows_h]) () () e ⟨rfl, rfl, rfl, rfl, rfl, trivial⟩ (H.sel [0] rfl) ?_ ?_
  · clear H e
    rintro T49 k2 _ _ w48 o50 hk (H : Cx w0 fp0 S0 w48 [Es (List (List Int)) rows_ rows_h]) hrt hF51
    refine boolE (z := true) (ltLen hk) ?_
    refine sq ?_
    refine sq ?_
    obtain ⟨a58, e, hF59⟩ := bindS hF51; clear hF51
    have HH := H; clear H; obtain ⟨p56, m57, h60, c52, c53, c54, c55, H⟩ := HH.elL 0 rfl e; clear HH
    clear e
    refine idxE c52 c53 c54 ?_; clear c52 c53 c54
    refine load1 c55 ?_; clear c55
    obtain ⟨r73, hF75, hF74⟩ := bindS hF59; clear hF59
    refine cut (fun (q76 : Bool) => [(0, (.int .i64 p_)), (1, (.int .i64 size_)), (9, (rows_h).v), (10, (.int .i64 ((rows_.length : Nat) : Int))), (11, (.int .i64 ((k2 : Nat) : Int))), (24, (.bool q76))]) (fun (q76 : Bool) w' => q76 = r73 ∧ Cx w0 fp0 S0 w' [Es (List (List Int)) rows_ rows_h]) ?_ ?_
    · skip
      refine lenE (H.rs (α := List Int) 0 rfl).len ?_
      obtain ⟨a77, e, hF78⟩ := bindS hF75; clear hF75
      refine boolO e ?_; clear e
      cases a77
      · have hF79 := condF hF78; clear hF78
        obtain ⟨y80, e, hF81⟩ := bindS hF79; clear hF79
        have ey80 := e; clear e
        refine callF (spec_fdIn_c p_ a58 h60 y80 ey80) (Γi := []) H ⟨Vw.sh 0 rfl, trivial⟩ ?_; clear H ey80
        rintro _ _ w82 ⟨rfl, rfl⟩ (H : Cx w0 fp0 S0 w82 [Es (List Int) a58 h60, Es (List (List Int)) rows_ rows_h])
        obtain ⟨a83, e, hF84⟩ := bindS hF81; clear hF81
        refine boolO e ?_; clear e
        exact ⟨a83, ⟨rfl, rfl, rfl, rfl, rfl, rfl, trivial⟩, Option.some.inj hF84, H.sel [1] rfl⟩
      · have hF85 := condT hF78; clear hF78
        exact ⟨true, ⟨rfl, rfl, rfl, rfl, rfl, rfl, trivial⟩, Option.some.inj hF85, H.sel [1] rfl⟩
    · clear hF75 H
      rintro T87 s71 w86 ⟨hr, (H : Cx w0 fp0 S0 w86 [Es (List (List Int)) rows_ rows_h])⟩
      subst hr
      cases s71
      · have hF88 := condF hF74; clear hF74
        refine arK hk hmx45 ?_
        have hs := Option.some.inj hF88; subst hs; clear hF88
        exact ⟨(), (), rfl, ⟨rfl, rfl, rfl, rfl, rfl, trivial⟩, H.sel [0] rfl⟩
      · have hF89 := condT hF74; clear hF74
        have hs := Option.some.inj hF89; subst hs; clear hF89
        have hr := hrt _ rfl; subst hr
        have hF90 : some _ = some _ := hF47
        cases hF90
        exact ⟨_, _, rfl, ⟨rfl, rfl⟩, (H.sel [] rfl).close trivial⟩
  · clear H e
    rintro T92 _ _ w91 hr (H : Cx w0 fp0 S0 w91 [Es (List (List Int)) rows_ rows_h])
    subst hr
    refine boolE (z := false) geLen ?_
    refine sq ?_
    cases hF47
    exact ⟨_, _, rfl, ⟨rfl, rfl⟩, (H.sel [] rfl).close trivial⟩

theorem spec_l1Own_c (l_ : List Int) (l_h : Hd) (y : List Int) (hF : F_spec_l1Own l_ = some y) :
    ConF Tryd.prog 144 #[(l_h).v] [Es (List Int) l_ l_h] [] (fun v Γ' => ∃ z0 : Hd, v = (z0).v ∧ Γ' = [E (List Int) y z0]) := by
  intro w0 S0 fp0 hI hS
  have H : Cx w0 fp0 S0 w0 [Es (List Int) l_ l_h] := Cx.start hI hS
  clear hI hS
  refine enterC (args := [_]) gok Tryd.func144 rfl _ rfl rfl rfl ?_
  refine lit0 (α := Int) gok rfl rfl H ?_; clear H; intro h3 w2 hx H
  clear hx
  obtain ⟨a5, e, hF6⟩ := bindS hF; clear hF
  refine appendS (α := Int) gok rfl rfl rfl rfl H (Vw.sh 0 rfl) e ?_; clear e H; intro h8 w7 H
  cases hF6
  exact ⟨_, _, rfl, ⟨h8, rfl, rfl⟩, (H.sel [0] rfl).close ⟨cloE, trivial⟩⟩

theorem spec_fdInv_c (p_ : Int) (a_ : Int) (y : Int) (hF : F_spec_fdInv p_ a_ = some y) :
    ConF Tryd.prog 145 #[(.int .i64 p_), (.int .i64 a_)] [] [] (fun v Γ' => v = (.int .i64 y) ∧ Γ' = []) := by
  intro w0 S0 fp0 hI hS
  have H : Cx w0 fp0 S0 w0 [] := Cx.start hI hS
  clear hI hS
  refine enterC (args := [_, _]) gok Tryd.func145 rfl _ rfl rfl rfl ?_
  obtain ⟨r60, hF62, hF61⟩ := bindS hF; clear hF
  refine cut (fun (q63 : Unit) => []) (fun (q63 : Unit) w' => .inl () = r60 ∧ Cx w0 fp0 S0 w' []) ?_ ?_
  · skip
    refine loopW _ (fun (s96 : Int) (_ : Unit) => [(0, (.int .i64 p_)), (1, (.int .i64 a_)), (5, (.int .i64 s96))]) (fun (s96 : Int) (_ : Unit) w' => Cx w0 fp0 S0 w' []) 1 () hF62 ⟨rfl, rfl, rfl, trivial⟩ (H.sel [] rfl) ?_
    · clear H
      rintro T102 s96 _ w101 o103 (H : Cx w0 fp0 S0 w101 []) hrt hF104
      refine sq ?_
      obtain ⟨a105, e, hF106⟩ := bindS hF104; clear hF104
      refine boolO e ?_; clear e
      cases a105
      · have hF107 := condF hF106; clear hF106
        have hs := Option.some.inj hF107; subst hs; clear hF107
        have hF108 : some _ = some _ := congrArg some (hrt _ rfl).symm
        exact ⟨(), trivial, Option.some.inj hF108, H.sel [] rfl⟩
      · have hF109 := condT hF106; clear hF106
        refine sq ?_
        obtain ⟨a110, e, hF111⟩ := bindS hF109; clear hF109
        refine arO e ?_; clear e
        obtain ⟨a112, e, hF113⟩ := bindS hF111; clear hF111
        refine remO_ e ?_; clear e
        obtain ⟨a114, e, hF115⟩ := bindS hF113; clear hF113
        refine boolO e ?_; clear e
        cases a114
        · have hF116 := condF hF115; clear hF115
          obtain ⟨a117, e, hF118⟩ := bindS hF116; clear hF116
          refine arO e ?_; clear e
          have hs := Option.some.inj hF118; subst hs; clear hF118
          exact ⟨a117, (), rfl, ⟨rfl, rfl, rfl, trivial⟩, H.sel [] rfl⟩
        · have hF119 := condT hF115; clear hF115
          have hs := Option.some.inj hF119; subst hs; clear hF119
          have hF120 : some _ = some _ := congrArg some (hrt _ rfl).symm
          have hs := Option.some.inj hF120; subst hs; clear hF120
          have hF121 : some _ = some _ := hF61; clear hF61
          cases hF121
          exact ⟨_, _, rfl, ⟨rfl, rfl⟩, (H.sel [] rfl).close trivial⟩
  · clear hF62 H
    rintro T123 _ w122 ⟨hr, (H : Cx w0 fp0 S0 w122 [])⟩
    subst hr
    cases hF61
    exact ⟨_, _, rfl, ⟨rfl, rfl⟩, (H.sel [] rfl).close trivial⟩

theorem spec_fdMul_c (p_ : Int) (a_ : Int) (b_ : Int) (y : Int) (hF : F_spec_fdMul p_ a_ b_ = some y) :
    ConF Tryd.prog 146 #[(.int .i64 p_), (.int .i64 a_), (.int .i64 b_)] [] [] (fun v Γ' => v = (.int .i64 y) ∧ Γ' = []) := by
  intro w0 S0 fp0 hI hS
  have H : Cx w0 fp0 S0 w0 [] := Cx.start hI hS
  clear hI hS
  refine enterC (args := [_, _, _]) gok Tryd.func146 rfl _ rfl rfl rfl ?_
  obtain ⟨a1, e, hF2⟩ := bindS hF; clear hF
  refine arO e ?_; clear e
  obtain ⟨a3, e, hF4⟩ := bindS hF2; clear hF2
  refine remO_ e ?_; clear e
  cases hF4
  exact ⟨_, _, rfl, ⟨rfl, rfl⟩, (H.sel [] rfl).close trivial⟩

theorem spec_fdSub_c (p_ : Int) (a_ : Int) (b_ : Int) (y : Int) (hF : F_spec_fdSub p_ a_ b_ = some y) :
    ConF Tryd.prog 147 #[(.int .i64 p_), (.int .i64 a_), (.int .i64 b_)] [] [] (fun v Γ' => v = (.int .i64 y) ∧ Γ' = []) := by
  intro w0 S0 fp0 hI hS
  have H : Cx w0 fp0 S0 w0 [] := Cx.start hI hS
  clear hI hS
  refine enterC (args := [_, _, _]) gok Tryd.func147 rfl _ rfl rfl rfl ?_
  obtain ⟨a1, e, hF2⟩ := bindS hF; clear hF
  refine arO e ?_; clear e
  obtain ⟨a3, e, hF4⟩ := bindS hF2; clear hF2
  refine arO e ?_; clear e
  obtain ⟨a5, e, hF6⟩ := bindS hF4; clear hF4
  refine remO_ e ?_; clear e
  cases hF6
  exact ⟨_, _, rfl, ⟨rfl, rfl⟩, (H.sel [] rfl).close trivial⟩

theorem spec_spReduce_c (p_ : Int) (size_ : Int) (rows_ : List (List Int)) (rows_h : Hd) (y : List (List Int)) (hF : F_spec_spReduce p_ size_ rows_ = some y) :
    ConF Tryd.prog 84 #[(.int .i64 p_), (.int .i64 size_), (rows_h).v] [Es (List (List Int)) rows_ rows_h] [] (fun v Γ' => ∃ z0 : Hd, v = (z0).v ∧ Γ' = [E (List (List Int)) y z0]) := by
  intro w0 S0 fp0 hI hS
  have H : Cx w0 fp0 S0 w0 [Es (List (List Int)) rows_ rows_h] := Cx.start hI hS
  clear hI hS
  refine enterC (args := [_, _, _]) gok Tryd.func84 rfl _ rfl rfl rfl ?_
  refine sq ?_
  refine lenE (H.rs (α := List (List Int)) 0 rfl).len ?_
  have hmx58 := (H.rs (α := List (List Int)) 0 rfl).max
  obtain ⟨r59, e, hF60⟩ := bindS hF; clear hF
  replace H := H.nil (α := List Int)
  refine loopS _ rows_.length (fun (k2 : Nat) (s55 : List (List Int)) (g56 : Hd) => [(0, (.int .i64 p_)), (1, (.int .i64 size_)), (7, (g56).v), (19, (rows_h).v), (20, (.int .i64 ((rows_.length : Nat) : Int))), (21, (.int .i64 ((k2 : Nat) : Int)))]) (fun _ (s55 : List (List Int)) (g56 : Hd) w' => Cx w0 fp0 S0 w' [E (List (List Int)) s55 g56, Es (List (List Int)) rows_ rows_h]) [] nilH e ⟨rfl, rfl, rfl, rfl, rfl, rfl, trivial⟩ (H.sel [0, 1] rfl) ?_ ?_
  · clear H e
    rintro T63 k2 s55 g56 w62 o64 hk (H : Cx w0 fp0 S0 w62 [E (List (List Int)) s55 g56, Es (List (List Int)) rows_ rows_h]) hF65
    refine boolE (z := true) (ltLen hk) ?_
    refine sq ?_
    refine sq ?_
    obtain ⟨a72, e, hF73⟩ := bindS hF65; clear hF65
    have HH := H; clear H; obtain ⟨p70, m71, h74, c66, c67, c68, c69, H⟩ := HH.elL 1 rfl e; clear HH
    clear e
    refine idxE c66 c67 c68 ?_; clear c66 c67 c68
    refine load1 c69 ?_; clear c69
    obtain ⟨y76, e, hF77⟩ := bindS hF73; clear hF73
    have ey76 := e; clear e
    refine callF (spec_l1Own_c a72 h74 y76 ey76) (Γi := []) H ⟨Vw.sh 0 rfl, trivial⟩ ?_; clear H ey76
    rintro _ _ w78 ⟨h79, rfl, rfl⟩ (H : Cx w0 fp0 S0 w78 [E (List Int) y76 h79, Es (List Int) a72 h74, E (List (List Int)) s55 g56, Es (List (List Int)) rows_ rows_h])
    refine lit1 (α := List Int) (g := h79) gok rfl rfl rfl rfl rfl H ?_; clear H; intro h82 w81 hx H
    clear hx
    obtain ⟨a84, e, hF85⟩ := bindS hF77; clear hF77
    replace H := H.sel [2, 0, 1, 3] rfl
    refine append_ (α := List Int) gok rfl rfl rfl rfl H e ?_; clear e H; intro h87 w86 H
    refine arK hk hmx58 ?_
    have hs := Option.some.inj hF85; subst hs; clear hF85
    exact ⟨h87, ⟨rfl, rfl, rfl, rfl, rfl, rfl, trivial⟩, H.sel [0, 2] rfl⟩
  · clear H e
    rintro T90 g92 w89 (H : Cx w0 fp0 S0 w89 [E (List (List Int)) r59 g92, Es (List (List Int)) rows_ rows_h])
    refine boolE (z := false) geLen ?_
    refine sq ?_
    obtain ⟨r14378, hF14380, hF14379⟩ := bindS hF60; clear hF60
    refine cut (fun (q14381 : List (List Int) × Int) => [(7, (g92).v), (10, (.int .i64 q14381.2))]) (fun (q14381 : List (List Int) × Int) w' => (q14381.1, q14381.2) = r14378 ∧ Cx w0 fp0 S0 w' [E (List (List Int)) q14381.1 g92]) ?_ ?_
    · skip
      refine loopW _ (fun (s23898 : List (List Int) × Int × Int) (_ : Unit) => [(0, (.int .i64 p_)), (1, (.int .i64 size_)), (7, (g92).v), (10, (.int .i64 s23898.2.1)), (11, (.int .i64 s23898.2.2))]) (fun (s23898 : List (List Int) × Int × Int) (_ : Unit) w' => Cx w0 fp0 S0 w' [E (List (List Int)) s23898.1 g92]) (r59, 0, 0) () hF14380 ⟨rfl, rfl, rfl, rfl, rfl, trivial⟩ (H.sel [0] rfl) ?_
      · clear H
        rintro T23904 ⟨s23898_0, s23898_1, s23898_2⟩ _ w23903 o23905 (H : Cx w0 fp0 S0 w23903 [E (List (List Int)) s23898_0 g92]) hrt hF23906
        refine sq ?_
        obtain ⟨r23915, hF23917, hF23916⟩ := bindS hF23906; clear hF23906
        refine cut (fun (q23918 : Bool) => [(0, (.int .i64 p_)), (1, (.int .i64 size_)), (7, (g92).v), (10, (.int .i64 s23898_1)), (11, (.int .i64 s23898_2)), (39, (.bool q23918))]) (fun (q23918 : Bool) w' => q23918 = r23915 ∧ Cx w0 fp0 S0 w' [E (List (List Int)) s23898_0 g92]) ?_ ?_
        · skip
          obtain ⟨a23919, e, hF23920⟩ := bindS hF23917; clear hF23917
          refine boolO e ?_; clear e
          cases a23919
          · have hF23921 := condF hF23920; clear hF23920
            exact ⟨false, ⟨rfl, rfl, rfl, rfl, rfl, rfl, trivial⟩, Option.some.inj hF23921, H.sel [0] rfl⟩
          · have hF23922 := condT hF23920; clear hF23920
            refine lenE (H.ro (α := List (List Int)) 0 rfl).len ?_
            obtain ⟨a23923, e, hF23924⟩ := bindS hF23922; clear hF23922
            refine boolO e ?_; clear e
            exact ⟨a23923, ⟨rfl, rfl, rfl, rfl, rfl, rfl, trivial⟩, Option.some.inj hF23924, H.sel [0] rfl⟩
        · clear hF23917 H
          rintro T23926 s23913 w23925 ⟨hr, (H : Cx w0 fp0 S0 w23925 [E (List (List Int)) s23898_0 g92])⟩
          subst hr
          cases s23913
          · have hF23927 := condF hF23916; clear hF23916
            have hs := Option.some.inj hF23927; subst hs; clear hF23927
            have hF23928 : some _ = some _ := congrArg some (hrt _ rfl).symm
            exact ⟨(s23898_0, s23898_1), ⟨rfl, rfl, trivial⟩, Option.some.inj hF23928, H.sel [0] rfl⟩
          · have hF23929 := condT hF23916; clear hF23916
            obtain ⟨r26294, hF26296, hF26295⟩ := bindS hF23929; clear hF23929
            refine cut (fun (q26297 : List (List Int) × Int) => [(0, (.int .i64 p_)), (1, (.int .i64 size_)), (7, (g92).v), (10, (.int .i64 q26297.2)), (11, (.int .i64 s23898_2))]) (fun (q26297 : List (List Int) × Int) w' => (q26297.1, q26297.2) = r26294 ∧ Cx w0 fp0 S0 w' [E (List (List Int)) q26297.1 g92]) ?_ ?_
            · skip
              obtain ⟨r26488, hF26490, hF26489⟩ := bindS hF26296; clear hF26296
              refine cut (fun (q26491 : Int) => [(0, (.int .i64 p_)), (1, (.int .i64 size_)), (7, (g92).v), (10, (.int .i64 s23898_1)), (11, (.int .i64 s23898_2)), (12, (.int .i64 q26491))]) (fun (q26491 : Int) w' => q26491 = r26488 ∧ Cx w0 fp0 S0 w' [E (List (List Int)) s23898_0 g92]) ?_ ?_
              · skip
                refine loopW _ (fun (s26612 : Int) (_ : Unit) => [(0, (.int .i64 p_)), (1, (.int .i64 size_)), (7, (g92).v), (10, (.int .i64 s23898_1)), (11, (.int .i64 s23898_2)), (12, (.int .i64 s26612))]) (fun (s26612 : Int) (_ : Unit) w' => Cx w0 fp0 S0 w' [E (List (List Int)) s23898_0 g92]) s23898_1 () hF26490 ⟨rfl, rfl, rfl, rfl, rfl, rfl, trivial⟩ (H.sel [0] rfl) ?_
                · clear H
                  rintro T26618 s26612 _ w26617 o26619 (H : Cx w0 fp0 S0 w26617 [E (List (List Int)) s23898_0 g92]) hrt hF26620
                  refine sq ?_
                  obtain ⟨r26646, hF26648, hF26647⟩ := bindS hF26620; clear hF26620
                  refine cut (fun (q26649 : Bool) => [(0, (.int .i64 p_)), (1, (.int .i64 size_)), (7, (g92).v), (10, (.int .i64 s23898_1)), (11, (.int .i64 s23898_2)), (12, (.int .i64 s26612)), (56, (.bool q26649))]) (fun (q26649 : Bool) w' => q26649 = r26646 ∧ Cx w0 fp0 S0 w' [E (List (List Int)) s23898_0 g92]) ?_ ?_
                  · skip
                    refine lenE (H.ro (α := List (List Int)) 0 rfl).len ?_
                    obtain ⟨a26650, e, hF26651⟩ := bindS hF26648; clear hF26648
                    refine boolO e ?_; clear e
                    cases a26650
                    · have hF26652 := condF hF26651; clear hF26651
                      exact ⟨false, ⟨rfl, rfl, rfl, rfl, rfl, rfl, rfl, trivial⟩, Option.some.inj hF26652, H.sel [0] rfl⟩
                    · have hF26653 := condT hF26651; clear hF26651
                      obtain ⟨a26660, e, hF26661⟩ := bindS hF26653; clear hF26653
                      replace H := H.toEH (α := List Int)
                      have HH := H; clear H; obtain ⟨p26658, m26659, h26662, c26654, c26655, c26656, c26657, H⟩ := HH.peekL e; clear HH
                      clear e
                      refine idxE c26654 c26655 c26656 ?_
                      refine load1 c26657 ?_; clear c26657
                      obtain ⟨a26669, e, hF26670⟩ := bindS hF26661; clear hF26661
                      obtain ⟨p26667, m26668, c26663, c26664, c26665, c26666⟩ := (H.rh (α := List Int) 0 rfl 0 rfl).at1 e; clear e
                      refine idxE c26663 c26664 c26665 ?_; clear c26663 c26664 c26665
                      refine load1 c26666 ?_; clear c26666
                      obtain ⟨a26671, e, hF26672⟩ := bindS hF26670; clear hF26670
                      refine boolO e ?_; clear e
                      replace H := H.ofEH
                      exact ⟨a26671, ⟨rfl, rfl, rfl, rfl, rfl, rfl, rfl, trivial⟩, Option.some.inj hF26672, H.sel [0] rfl⟩
                  · clear hF26648 H
                    rintro T26674 s26644 w26673 ⟨hr, (H : Cx w0 fp0 S0 w26673 [E (List (List Int)) s23898_0 g92])⟩
                    subst hr
                    cases s26644
                    · have hF26675 := condF hF26647; clear hF26647
                      have hs := Option.some.inj hF26675; subst hs; clear hF26675
                      have hF26676 : some _ = some _ := congrArg some (hrt _ rfl).symm
                      exact ⟨s26612, ⟨rfl, rfl, rfl, rfl, rfl, rfl, trivial⟩, Option.some.inj hF26676, H.sel [0] rfl⟩
                    · have hF26677 := condT hF26647; clear hF26647
                      obtain ⟨a26678, e, hF26679⟩ := bindS hF26677; clear hF26677
                      refine arO e ?_; clear e
                      have hs := Option.some.inj hF26679; subst hs; clear hF26679
                      exact ⟨a26678, (), rfl, ⟨rfl, rfl, rfl, rfl, rfl, rfl, trivial⟩, H.sel [0] rfl⟩
              · clear hF26490 H
                rintro T26681 s26486 w26680 ⟨hr, (H : Cx w0 fp0 S0 w26680 [E (List (List Int)) s23898_0 g92])⟩
                subst hr
                refine sq ?_
                refine lenE (H.ro (α := List (List Int)) 0 rfl).len ?_
                obtain ⟨a26682, e, hF26683⟩ := bindS hF26489; clear hF26489
                refine boolO e ?_; clear e
                cases a26682
                · have hF26684 := condF hF26683; clear hF26683
                  obtain ⟨a26691, e, hF26692⟩ := bindS hF26684; clear hF26684
                  replace H := H.toEH (α := List Int)
                  have HH := H; clear H; obtain ⟨p26689, m26690, h26693, c26685, c26686, c26687, c26688, H⟩ := HH.peekL e; clear HH
                  clear e
                  refine idxE c26685 c26686 c26687 ?_
                  refine load1 c26688 ?_; clear c26688
                  obtain ⟨a26700, e, hF26701⟩ := bindS hF26692; clear hF26692
                  have HH := H; clear H; obtain ⟨p26698, m26699, h26702, c26694, c26695, c26696, c26697, H⟩ := HH.peekL e; clear HH
                  clear e
                  refine idxE c26694 c26695 c26696 ?_
                  refine load1 c26697 ?_; clear c26697
                  refine idxE c26685 c26686 c26687 ?_
                  refine stZ1 (ki := 1) (kj := 0) H rfl rfl c26685 ?_; clear H; intro w26709 H
                  replace H : Cx w0 fp0 S0 w26709 [EZ (List Int) m26690 m26699 a26691 a26700 h26693 h26702 s23898_0 g92] := H
                  refine idxE c26694 c26695 c26696 ?_
                  obtain ⟨a26717, e, hF26718⟩ := bindS hF26701; clear hF26701
                  refine stZ2 H c26686 c26695 c26694 e ?_; clear H e; intro w26716 H
                  obtain ⟨a26725, e, hF26726⟩ := bindS hF26718; clear hF26718
                  replace H := H.toEH (α := List Int)
                  have HH := H; clear H; obtain ⟨p26723, m26724, h26727, c26719, c26720, c26721, c26722, H⟩ := HH.peekL e; clear HH
                  clear e
                  refine idxE c26719 c26720 c26721 ?_
                  refine load1 c26722 ?_; clear c26722
                  obtain ⟨a26734, e, hF26735⟩ := bindS hF26726; clear hF26726
                  obtain ⟨p26732, m26733, c26728, c26729, c26730, c26731⟩ := (H.rh (α := List Int) 0 rfl 0 rfl).at1 e; clear e
                  refine idxE c26728 c26729 c26730 ?_; clear c26728 c26729 c26730
                  refine load1 c26731 ?_; clear c26731
                  obtain ⟨y26736, e, hF26737⟩ := bindS hF26735; clear hF26735
                  have ey26736 := e; clear e
                  refine callF (spec_fdInv_c p_ a26734 y26736 ey26736) (Γi := []) H trivial ?_; clear H ey26736
                  rintro _ _ w26738 ⟨rfl, rfl⟩ (H : Cx w0 fp0 S0 w26738 [EH (List Int) a26717 g92 [⟨m26724, a26725, h26727⟩]])
                  refine sq ?_
                  obtain ⟨a26745, e, hF26746⟩ := bindS hF26737; clear hF26737
                  have HH := H; clear H; obtain ⟨p26743, m26744, h26747, c26739, c26740, c26741, c26742, H⟩ := HH.peekL e; clear HH
                  clear e
                  refine idxE c26739 c26740 c26741 ?_
                  refine load1 c26742 ?_; clear c26742
                  have hmx26748 := (H.rh (α := List Int) 0 rfl 0 rfl).max
                  refine lenE (H.rh (α := List Int) 0 rfl 0 rfl).len ?_
                  replace H := H.ofEH
                  obtain ⟨r26841, e, hF26842⟩ := bindS hF26746; clear hF26746
                  refine loopS _ a26745.length (fun (k26749 : Nat) (s26838 : List (List Int)) (_ : Unit) => [(0, (.int .i64 p_)), (1, (.int .i64 size_)), (7, (g92).v), (10, (.int .i64 s23898_1)), (11, (.int .i64 s23898_2)), (14, (.int .i64 y26736)), (91, (.int .i64 ((a26745.length : Nat) : Int))), (92, (.int .i64 ((k26749 : Nat) : Int)))]) (fun _ (s26838 : List (List Int)) (_ : Unit) w' => Cx w0 fp0 S0 w' [E (List (List Int)) s26838 g92]) a26717 () e ⟨rfl, rfl, rfl, rfl, rfl, rfl, rfl, rfl, trivial⟩ (H.sel [0] rfl) ?_ ?_
                  · clear H e
                    rintro T26844 k26749 s26838 _ w26843 o26845 hk (H : Cx w0 fp0 S0 w26843 [E (List (List Int)) s26838 g92]) hF26846
                    refine boolE (z := true) (ltLen hk) ?_
                    refine sq ?_
                    refine sq ?_
                    refine heldX H [16] (.fst 0 (.fst 1 (.fst 2 (.fst 4 (.fst 5 (.fst 6 (.fst 7 (.fst 8 (.fst 10 (.fst 13 (.fst 3 (.fst 9 (.fst 11 (.fst 12 (.act 14 (.fst 15 (.act 16 .done))))))))))))))))) mixed [] trivial (by kernel_rfl) ?_
                    clear H; intro w26847 H
                    have hX : Ext w26847 w26847 := Upd.refl _ _
                    have H0 := H
                    obtain ⟨a26854, e, hF26855⟩ := bindS hF26846; clear hF26846
                    replace H := H.toEH (α := List Int)
                    have HH := H; clear H; obtain ⟨p26852, m26853, h26856, c26848, c26849, c26850, c26851, H⟩ := HH.peekL e; clear HH
                    clear e
                    refine idxE c26848 c26849 c26850 ?_
                    obtain ⟨a26863, e, hF26864⟩ := bindS hF26855; clear hF26855
                    have HH := H; clear H; obtain ⟨p26861, m26862, h26865, c26857, c26858, c26859, c26860, H⟩ := HH.peekL e; clear HH
                    clear e
                    refine idxE c26857 c26858 c26859 ?_
                    refine load1X c26851 ?_; clear c26851
                    refine load1X c26860 ?_; clear c26860
                    obtain ⟨a26872, e, hF26873⟩ := bindS hF26864; clear hF26864
                    obtain ⟨p26870, m26871, c26866, c26867, c26868, c26869⟩ := (H.rh (α := List Int) 0 rfl 0 rfl).at1 e; clear e
                    refine idxE c26866 c26867 c26868 ?_; clear c26866 c26867 c26868
                    refine load1X c26869 ?_; clear c26869
                    obtain ⟨y26874, e, hF26875⟩ := bindS hF26873; clear hF26873
                    have ey26874 := e; clear e
                    refine callFx (spec_fdMul_c p_ a26872 y26736 y26874 ey26874) H trivial ?_; clear H ey26874
                    rintro _ _ w26876 ⟨rfl, rfl⟩ hx (H : Cx w0 fp0 S0 w26876 [EH (List Int) s26838 g92 [⟨m26862, a26863, h26865⟩, ⟨m26853, a26854, h26856⟩]])
                    replace hX := hX.trans0 hx; clear hx
                    refine hold hX ?_
                    replace H := H.takeK 1 rfl
                    obtain ⟨a26884, e, hF26885⟩ := bindS hF26875; clear hF26875
                    have ea26884 := e; clear e
                    obtain ⟨p26881, m26882, c26877, c26878, c26879⟩ := (H.ro (α := List Int) 0 rfl).setp ea26884
                    refine idxE c26877 c26878 c26879 ?_
                    refine setS (α := Int) H c26877 c26878 ea26884 ?_; clear H c26877 c26878 c26879 ea26884; intro w26886 H
                    obtain ⟨a26887, e, hF26888⟩ := bindS hF26885; clear hF26885
                    replace H := H.put c26849 e; clear e
                    refine hold trivial ?_
                    refine arK hk hmx26748 ?_
                    have hs := Option.some.inj hF26888; subst hs; clear hF26888
                    exact ⟨(), ⟨rfl, rfl, rfl, rfl, rfl, rfl, rfl, rfl, trivial⟩, H.sel [0] rfl⟩
                  · clear H e
                    rintro T26890 _ w26889 (H : Cx w0 fp0 S0 w26889 [E (List (List Int)) r26841 g92])
                    refine boolE (z := false) geLen ?_
                    refine sq ?_
                    refine sq ?_
                    refine lenE (H.ro (α := List (List Int)) 0 rfl).len ?_
                    have hmx28064 := (H.ro (α := List (List Int)) 0 rfl).max
                    obtain ⟨r28065, e, hF28066⟩ := bindS hF26842; clear hF26842
                    refine loopS _ r26841.length (fun (k26893 : Nat) (s28062 : List (List Int)) (_ : Unit) => [(0, (.int .i64 p_)), (1, (.int .i64 size_)), (7, (g92).v), (10, (.int .i64 s23898_1)), (11, (.int .i64 s23898_2)), (113, (.int .i64 ((r26841.length : Nat) : Int))), (114, (.int .i64 ((k26893 : Nat) : Int)))]) (fun _ (s28062 : List (List Int)) (_ : Unit) w' => Cx w0 fp0 S0 w' [E (List (List Int)) s28062 g92]) r26841 () e ⟨rfl, rfl, rfl, rfl, rfl, rfl, rfl, trivial⟩ (H.sel [0] rfl) ?_ ?_
                    · clear H e
                      rintro T28068 k26893 s28062 _ w28067 o28069 hk (H : Cx w0 fp0 S0 w28067 [E (List (List Int)) s28062 g92]) hF28070
                      refine boolE (z := true) (ltLen hk) ?_
                      refine sq ?_
                      obtain ⟨r28360, hF28362, hF28361⟩ := bindS hF28070; clear hF28070
                      refine cut (fun (q28363 : List (List Int)) => [(0, (.int .i64 p_)), (1, (.int .i64 size_)), (7, (g92).v), (10, (.int .i64 s23898_1)), (11, (.int .i64 s23898_2)), (113, (.int .i64 ((r26841.length : Nat) : Int))), (114, (.int .i64 ((k26893 : Nat) : Int)))]) (fun (q28363 : List (List Int)) w' => q28363 = r28360 ∧ Cx w0 fp0 S0 w' [E (List (List Int)) q28363 g92]) ?_ ?_
                      · skip
                        refine sq ?_
                        obtain ⟨r28389, hF28391, hF28390⟩ := bindS hF28362; clear hF28362
                        refine cut (fun (q28392 : Bool) => [(0, (.int .i64 p_)), (1, (.int .i64 size_)), (7, (g92).v), (10, (.int .i64 s23898_1)), (11, (.int .i64 s23898_2)), (16, (.int .i64 ((k26893 : Nat) : Int))), (113, (.int .i64 ((r26841.length : Nat) : Int))), (114, (.int .i64 ((k26893 : Nat) : Int))), (129, (.bool q28392))]) (fun (q28392 : Bool) w' => q28392 = r28389 ∧ Cx w0 fp0 S0 w' [E (List (List Int)) s28062 g92]) ?_ ?_
                        · skip
                          obtain ⟨a28393, e, hF28394⟩ := bindS hF28391; clear hF28391
                          refine boolO e ?_; clear e
                          cases a28393
                          · have hF28395 := condF hF28394; clear hF28394
                            obtain ⟨a28402, e, hF28403⟩ := bindS hF28395; clear hF28395
                            replace H := H.toEH (α := List Int)
                            have HH := H; clear H; obtain ⟨p28400, m28401, h28404, c28396, c28397, c28398, c28399, H⟩ := HH.peekL e; clear HH
                            clear e
                            refine idxE c28396 c28397 c28398 ?_
                            refine load1 c28399 ?_; clear c28399
                            obtain ⟨a28411, e, hF28412⟩ := bindS hF28403; clear hF28403
                            obtain ⟨p28409, m28410, c28405, c28406, c28407, c28408⟩ := (H.rh (α := List Int) 0 rfl 0 rfl).at1 e; clear e
                            refine idxE c28405 c28406 c28407 ?_; clear c28405 c28406 c28407
                            refine load1 c28408 ?_; clear c28408
                            obtain ⟨a28413, e, hF28414⟩ := bindS hF28412; clear hF28412
                            refine boolO e ?_; clear e
                            replace H := H.ofEH
                            exact ⟨a28413, ⟨rfl, rfl, rfl, rfl, rfl, rfl, rfl, rfl, rfl, trivial⟩, Option.some.inj hF28414, H.sel [0] rfl⟩
                          · have hF28415 := condT hF28394; clear hF28394
                            exact ⟨true, ⟨rfl, rfl, rfl, rfl, rfl, rfl, rfl, rfl, rfl, trivial⟩, Option.some.inj hF28415, H.sel [0] rfl⟩
                        · clear hF28391 H
                          rintro T28417 s28387 w28416 ⟨hr, (H : Cx w0 fp0 S0 w28416 [E (List (List Int)) s28062 g92])⟩
                          subst hr
                          cases s28387
                          · have hF28418 := condF hF28390; clear hF28390
                            obtain ⟨a28425, e, hF28426⟩ := bindS hF28418; clear hF28418
                            replace H := H.toEH (α := List Int)
                            have HH := H; clear H; obtain ⟨p28423, m28424, h28427, c28419, c28420, c28421, c28422, H⟩ := HH.peekL e; clear HH
                            clear e
                            refine idxE c28419 c28420 c28421 ?_
                            refine load1 c28422 ?_; clear c28422
                            obtain ⟨a28434, e, hF28435⟩ := bindS hF28426; clear hF28426
                            obtain ⟨p28432, m28433, c28428, c28429, c28430, c28431⟩ := (H.rh (α := List Int) 0 rfl 0 rfl).at1 e; clear e
                            refine idxE c28428 c28429 c28430 ?_; clear c28428 c28429 c28430
                            refine load1 c28431 ?_; clear c28431
                            replace H := H.ofEH
                            obtain ⟨a28442, e, hF28443⟩ := bindS hF28435; clear hF28435
                            replace H := H.toEH (α := List Int)
                            have HH := H; clear H; obtain ⟨p28440, m28441, h28444, c28436, c28437, c28438, c28439, H⟩ := HH.peekL e; clear HH
                            clear e
                            refine idxE c28436 c28437 c28438 ?_
                            refine load1 c28439 ?_; clear c28439
                            have hmx28445 := (H.rh (α := List Int) 0 rfl 0 rfl).max
                            refine lenE (H.rh (α := List Int) 0 rfl 0 rfl).len ?_
                            replace H := H.ofEH
                            obtain ⟨r28578, e, hF28579⟩ := bindS hF28443; clear hF28443
                            refine loopS _ a28442.length (fun (k28446 : Nat) (s28575 : List (List Int)) (_ : Unit) => [(0, (.int .i64 p_)), (1, (.int .i64 size_)), (7, (g92).v), (10, (.int .i64 s23898_1)), (11, (.int .i64 s23898_2)), (16, (.int .i64 ((k26893 : Nat) : Int))), (17, (.int .i64 a28434)), (113, (.int .i64 ((r26841.length : Nat) : Int))), (114, (.int .i64 ((k26893 : Nat) : Int))), (141, (.int .i64 ((a28442.length : Nat) : Int))), (142, (.int .i64 ((k28446 : Nat) : Int)))]) (fun _ (s28575 : List (List Int)) (_ : Unit) w' => Cx w0 fp0 S0 w' [E (List (List Int)) s28575 g92]) s28062 () e ⟨rfl, rfl, rfl, rfl, rfl, rfl, rfl, rfl, rfl, rfl, rfl, trivial⟩ (H.sel [0] rfl) ?_ ?_
                            · clear H e
                              rintro T28581 k28446 s28575 _ w28580 o28582 hk (H : Cx w0 fp0 S0 w28580 [E (List (List Int)) s28575 g92]) hF28583
                              refine boolE (z := true) (ltLen hk) ?_
                              refine sq ?_
                              refine sq ?_
                              refine heldX H [25] (.fst 0 (.fst 1 (.fst 2 (.fst 4 (.fst 5 (.fst 6 (.fst 7 (.fst 8 (.fst 10 (.fst 13 (.fst 14 (.fst 15 (.fst 16 (.fst 17 (.fst 19 (.fst 3 (.fst 9 (.fst 11 (.fst 12 (.fst 18 (.fst 20 (.fst 21 (.act 22 (.act 23 (.fst 24 (.act 25 .done)))))))))))))))))))))))))) mixed [] trivial (by kernel_rfl) ?_
                              clear H; intro w28584 H
                              have hX : Ext w28584 w28584 := Upd.refl _ _
                              have H0 := H
                              obtain ⟨a28591, e, hF28592⟩ := bindS hF28583; clear hF28583
                              replace H := H.toEH (α := List Int)
                              have HH := H; clear H; obtain ⟨p28589, m28590, h28593, c28585, c28586, c28587, c28588, H⟩ := HH.peekL e; clear HH
                              clear e
                              refine idxE c28585 c28586 c28587 ?_
                              obtain ⟨a28600, e, hF28601⟩ := bindS hF28592; clear hF28592
                              have HH := H; clear H; obtain ⟨p28598, m28599, h28602, c28594, c28595, c28596, c28597, H⟩ := HH.peekL e; clear HH
                              clear e
                              refine idxE c28594 c28595 c28596 ?_
                              obtain ⟨a28609, e, hF28610⟩ := bindS hF28601; clear hF28601
                              have HH := H; clear H; obtain ⟨p28607, m28608, h28611, c28603, c28604, c28605, c28606, H⟩ := HH.peekL e; clear HH
                              clear e
                              refine idxE c28603 c28604 c28605 ?_
                              refine load1X c28588 ?_; clear c28588
                              refine load1X c28597 ?_; clear c28597
                              obtain ⟨a28618, e, hF28619⟩ := bindS hF28610; clear hF28610
                              obtain ⟨p28616, m28617, c28612, c28613, c28614, c28615⟩ := (H.rh (α := List Int) 0 rfl 1 rfl).at1 e; clear e
                              refine idxE c28612 c28613 c28614 ?_; clear c28612 c28613 c28614
                              refine load1X c28615 ?_; clear c28615
                              refine load1X c28606 ?_; clear c28606
                              obtain ⟨a28626, e, hF28627⟩ := bindS hF28619; clear hF28619
                              obtain ⟨p28624, m28625, c28620, c28621, c28622, c28623⟩ := (H.rh (α := List Int) 0 rfl 0 rfl).at1 e; clear e
                              refine idxE c28620 c28621 c28622 ?_; clear c28620 c28621 c28622
                              refine load1X c28623 ?_; clear c28623
                              obtain ⟨y28628, e, hF28629⟩ := bindS hF28627; clear hF28627
                              have ey28628 := e; clear e
                              refine callFx (spec_fdMul_c p_ a28434 a28626 y28628 ey28628) H trivial ?_; clear H ey28628
                              rintro _ _ w28630 ⟨rfl, rfl⟩ hx (H : Cx w0 fp0 S0 w28630 [EH (List Int) s28575 g92 [⟨m28608, a28609, h28611⟩, ⟨m28599, a28600, h28602⟩, ⟨m28590, a28591, h28593⟩]])
                              replace hX := hX.trans0 hx; clear hx
                              refine hold hX ?_
                              obtain ⟨y28631, e, hF28632⟩ := bindS hF28629; clear hF28629
                              have ey28631 := e; clear e
                              refine callFx (spec_fdSub_c p_ a28618 y28628 y28631 ey28631) H trivial ?_; clear H ey28631
                              rintro _ _ w28633 ⟨rfl, rfl⟩ hx (H : Cx w0 fp0 S0 w28633 [EH (List Int) s28575 g92 [⟨m28608, a28609, h28611⟩, ⟨m28599, a28600, h28602⟩, ⟨m28590, a28591, h28593⟩]])
                              replace hX := hX.trans0 hx; clear hx
                              refine hold hX ?_
                              replace H := H.takeK 2 rfl
                              obtain ⟨a28641, e, hF28642⟩ := bindS hF28632; clear hF28632
                              have ea28641 := e; clear e
                              obtain ⟨p28638, m28639, c28634, c28635, c28636⟩ := (H.ro (α := List Int) 0 rfl).setp ea28641
                              refine idxE c28634 c28635 c28636 ?_
                              refine setS (α := Int) H c28634 c28635 ea28641 ?_; clear H c28634 c28635 c28636 ea28641; intro w28643 H
                              obtain ⟨a28644, e, hF28645⟩ := bindS hF28642; clear hF28642
                              replace H := H.put c28586 e; clear e
                              refine hold trivial ?_
                              refine arK hk hmx28445 ?_
                              have hs := Option.some.inj hF28645; subst hs; clear hF28645
                              exact ⟨(), ⟨rfl, rfl, rfl, rfl, rfl, rfl, rfl, rfl, rfl, rfl, rfl, trivial⟩, H.sel [0] rfl⟩
                            · clear H e
                              rintro T28647 _ w28646 (H : Cx w0 fp0 S0 w28646 [E (List (List Int)) r28578 g92])
                              refine boolE (z := false) geLen ?_
                              refine sq ?_
                              exact ⟨r28578, ⟨rfl, rfl, rfl, rfl, rfl, rfl, rfl, trivial⟩, Option.some.inj hF28579, H.sel [0] rfl⟩
                          · have hF28650 := condT hF28390; clear hF28390
                            exact ⟨s28062, ⟨rfl, rfl, rfl, rfl, rfl, rfl, rfl, trivial⟩, Option.some.inj hF28650, H.sel [0] rfl⟩
                      · clear hF28362 H
                        rintro T28652 s28358 w28651 ⟨hr, (H : Cx w0 fp0 S0 w28651 [E (List (List Int)) s28358 g92])⟩
                        subst hr
                        refine arK hk hmx28064 ?_
                        have hs := Option.some.inj hF28361; subst hs; clear hF28361
                        exact ⟨(), ⟨rfl, rfl, rfl, rfl, rfl, rfl, rfl, trivial⟩, H.sel [0] rfl⟩
                    · clear H e
                      rintro T28654 _ w28653 (H : Cx w0 fp0 S0 w28653 [E (List (List Int)) r28065 g92])
                      refine boolE (z := false) geLen ?_
                      refine sq ?_
                      obtain ⟨a28657, e, hF28658⟩ := bindS hF28066; clear hF28066
                      refine arO e ?_; clear e
                      exact ⟨(r28065, a28657), ⟨rfl, rfl, rfl, rfl, rfl, trivial⟩, Option.some.inj hF28658, H.sel [0] rfl⟩
                · have hF28659 := condT hF26683; clear hF26683
                  exact ⟨(s23898_0, s23898_1), ⟨rfl, rfl, rfl, rfl, rfl, trivial⟩, Option.some.inj hF28659, H.sel [0] rfl⟩
            · clear hF26296 H
              rintro T28661 ⟨s26292_0, s26292_1⟩ w28660 ⟨hr, (H : Cx w0 fp0 S0 w28660 [E (List (List Int)) s26292_0 g92])⟩
              subst hr
              obtain ⟨a28662, e, hF28663⟩ := bindS hF26295; clear hF26295
              refine arO e ?_; clear e
              have hs := Option.some.inj hF28663; subst hs; clear hF28663
              exact ⟨(s26292_0, s26292_1, a28662), (), rfl, ⟨rfl, rfl, rfl, rfl, rfl, trivial⟩, H.sel [0] rfl⟩
    · clear hF14380 H
      rintro T28665 ⟨s14376_0, s14376_1⟩ w28664 ⟨hr, (H : Cx w0 fp0 S0 w28664 [E (List (List Int)) s14376_0 g92])⟩
      subst hr
      obtain ⟨a28666, e, hF28667⟩ := bindS hF14379; clear hF14379
      refine slO (α := List Int) gok rfl rfl H e rfl rfl ?_; clear e H; intro h28668 H
      cases hF28667
      exact ⟨_, _, rfl, ⟨h28668, rfl, rfl⟩, (H.sel [0] rfl).close ⟨cloE, trivial⟩⟩

theorem spec_l1Same_c (a_ : List Int) (a_h : Hd) (b_ : List Int) (b_h : Hd) (y : Bool) (hF : F_spec_l1Same a_ b_ = some y) :
    ConF Tryd.prog 150 #[(a_h).v, (b_h).v] [Es (List Int) a_ a_h, Es (List Int) b_ b_h] [] (fun v Γ' => v = (.bool y) ∧ Γ' = []) := by
  intro w0 S0 fp0 hI hS
  have H : Cx w0 fp0 S0 w0 [Es (List Int) a_ a_h, Es (List Int) b_ b_h] := Cx.start hI hS
  clear hI hS
  refine enterC (args := [_, _]) gok Tryd.func150 rfl _ rfl rfl rfl ?_
  refine sq ?_
  refine lenE (H.rs (α := List Int) 0 rfl).len ?_
  refine lenE (H.rs (α := List Int) 1 rfl).len ?_
  obtain ⟨a3, e, hF4⟩ := bindS hF; clear hF
  refine boolO e ?_; clear e
  cases a3
  · have hF5 := condF hF4; clear hF4
    refine sq ?_
    refine lenE (H.rs (α := List Int) 0 rfl).len ?_
    have hmx32 := (H.rs (α := List Int) 0 rfl).max
    obtain ⟨r33, e, hF34⟩ := bindS hF5; clear hF5
    refine loopO _ a_.length (fun (k6 : Nat) (_ : Unit) (_ : Unit) => [(0, (a_h).v), (1, (b_h).v), (12, (.int .i64 ((a_.length : Nat) : Int))), (13, (.int .i64 ((k6 : Nat) : Int)))]) (fun _ (_ : Unit) (_ : Unit) w' => Cx w0 fp0 S0 w' [Es (List Int) a_ a_h, Es (List Int) b_ b_h]) () () e ⟨rfl, rfl, rfl, rfl, trivial⟩ (H.sel [0, 1] rfl) ?_ ?_
    · clear H e
      rintro T36 k6 _ _ w35 o37 hk (H : Cx w0 fp0 S0 w35 [Es (List Int) a_ a_h, Es (List Int) b_ b_h]) hrt hF38
      refine boolE (z := true) (ltLen hk) ?_
      refine sq ?_
      refine sq ?_
      refine heldX H [] (.fst 0 (.fst 1 (.fst 2 (.fst 4 (.fst 5 (.fst 6 (.fst 3 (.fst 7 (.fst 8 .done))))))))) mixed [] trivial (by kernel_rfl) ?_
      clear H; intro w39 H
      have hX : Ext w39 w39 := Upd.refl _ _
      have H0 := H
      obtain ⟨a46, e, hF47⟩ := bindS hF38; clear hF38
      obtain ⟨p44, m45, c40, c41, c42, c43⟩ := (H.rs (α := List Int) 0 rfl).at1 e; clear e
      refine idxE c40 c41 c42 ?_; clear c40 c41 c42
      obtain ⟨a54, e, hF55⟩ := bindS hF47; clear hF47
      obtain ⟨p52, m53, c48, c49, c50, c51⟩ := (H.rs (α := List Int) 1 rfl).at1 e; clear e
      refine idxE c48 c49 c50 ?_; clear c48 c49 c50
      refine load1X c43 ?_; clear c43
      refine load1X c51 ?_; clear c51
      obtain ⟨a56, e, hF57⟩ := bindS hF55; clear hF55
      refine boolO e ?_; clear e
      cases a56
      · have hF58 := condF hF57; clear hF57
        refine arK hk hmx32 ?_
        have hs := Option.some.inj hF58; subst hs; clear hF58
        exact ⟨(), (), rfl, ⟨rfl, rfl, rfl, rfl, trivial⟩, H.sel [0, 1] rfl⟩
      · have hF59 := condT hF57; clear hF57
        have hs := Option.some.inj hF59; subst hs; clear hF59
        have hr := hrt _ rfl; subst hr
        have hF60 : some _ = some _ := hF34
        cases hF60
        exact ⟨_, _, rfl, ⟨rfl, rfl⟩, (H.sel [] rfl).close trivial⟩
    · clear H e
      rintro T62 _ _ w61 hr (H : Cx w0 fp0 S0 w61 [Es (List Int) a_ a_h, Es (List Int) b_ b_h])
      subst hr
      refine boolE (z := false) geLen ?_
      refine sq ?_
      cases hF34
      exact ⟨_, _, rfl, ⟨rfl, rfl⟩, (H.sel [] rfl).close trivial⟩
  · have hF65 := condT hF4; clear hF4
    cases hF65
    exact ⟨_, _, rfl, ⟨rfl, rfl⟩, (H.sel [] rfl).close trivial⟩

theorem spec_spSame_c (a_ : List (List Int)) (a_h : Hd) (b_ : List (List Int)) (b_h : Hd) (y : Bool) (hF : F_spec_spSame a_ b_ = some y) :
    ConF Tryd.prog 134 #[(a_h).v, (b_h).v] [Es (List (List Int)) a_ a_h, Es (List (List Int)) b_ b_h] [] (fun v Γ' => v = (.bool y) ∧ Γ' = []) := by
  intro w0 S0 fp0 hI hS
  have H : Cx w0 fp0 S0 w0 [Es (List (List Int)) a_ a_h, Es (List (List Int)) b_ b_h] := Cx.start hI hS
  clear hI hS
  refine enterC (args := [_, _]) gok Tryd.func134 rfl _ rfl rfl rfl ?_
  refine sq ?_
  refine lenE (H.rs (α := List (List Int)) 0 rfl).len ?_
  refine lenE (H.rs (α := List (List Int)) 1 rfl).len ?_
  obtain ⟨a3, e, hF4⟩ := bindS hF; clear hF
  refine boolO e ?_; clear e
  cases a3
  · have hF5 := condF hF4; clear hF4
    refine sq ?_
    refine lenE (H.rs (α := List (List Int)) 0 rfl).len ?_
    have hmx39 := (H.rs (α := List (List Int)) 0 rfl).max
    obtain ⟨r40, e, hF41⟩ := bindS hF5; clear hF5
    refine loopO _ a_.length (fun (k6 : Nat) (_ : Unit) (_ : Unit) => [(0, (a_h).v), (1, (b_h).v), (12, (.int .i64 ((a_.length : Nat) : Int))), (13, (.int .i64 ((k6 : Nat) : Int)))]) (fun _ (_ : Unit) (_ : Unit) w' => Cx w0 fp0 S0 w' [Es (List (List Int)) a_ a_h, Es (List (List Int)) b_ b_h]) () () e ⟨rfl, rfl, rfl, rfl, trivial⟩ (H.sel [0, 1] rfl) ?_ ?_
    · clear H e
      rintro T43 k6 _ _ w42 o44 hk (H : Cx w0 fp0 S0 w42 [Es (List (List Int)) a_ a_h, Es (List (List Int)) b_ b_h]) hrt hF45
      refine boolE (z := true) (ltLen hk) ?_
      refine sq ?_
      refine sq ?_
      refine heldX H [] (.fst 0 (.fst 1 (.fst 2 (.fst 4 (.fst 5 (.fst 6 (.fst 3 (.fst 7 (.act 8 (.fst 9 .done)))))))))) mixed [] trivial (by kernel_rfl) ?_
      clear H; intro w46 H
      have hX : Ext w46 w46 := Upd.refl _ _
      have H0 := H
      obtain ⟨a53, e, hF54⟩ := bindS hF45; clear hF45
      have HH := H; clear H; obtain ⟨p51, m52, h55, c47, c48, c49, c50, H⟩ := HH.elL 0 rfl e; clear HH
      clear e
      refine idxE c47 c48 c49 ?_; clear c47 c48 c49
      obtain ⟨a63, e, hF64⟩ := bindS hF54; clear hF54
      have HH := H; clear H; obtain ⟨p61, m62, h65, c57, c58, c59, c60, H⟩ := HH.elL 2 rfl e; clear HH
      clear e
      refine idxE c57 c58 c59 ?_; clear c57 c58 c59
      refine load1X c50 ?_; clear c50
      refine load1X c60 ?_; clear c60
      obtain ⟨y67, e, hF68⟩ := bindS hF64; clear hF64
      have ey67 := e; clear e
      refine callFx (spec_l1Same_c a53 h55 a63 h65 y67 ey67) H ⟨Vw.sh 1 rfl, Vw.sh 0 rfl, trivial⟩ ?_; clear H ey67
      rintro _ _ w69 ⟨rfl, rfl⟩ hx (H : Cx w0 fp0 S0 w69 [Es (List Int) a63 h65, Es (List Int) a53 h55, Es (List (List Int)) a_ a_h, Es (List (List Int)) b_ b_h])
      replace hX := hX.trans0 hx; clear hx
      refine hold hX ?_
      obtain ⟨a70, e, hF71⟩ := bindS hF68; clear hF68
      refine boolO e ?_; clear e
      cases a70
      · have hF72 := condF hF71; clear hF71
        refine arK hk hmx39 ?_
        have hs := Option.some.inj hF72; subst hs; clear hF72
        exact ⟨(), (), rfl, ⟨rfl, rfl, rfl, rfl, trivial⟩, H.sel [2, 3] rfl⟩
      · have hF73 := condT hF71; clear hF71
        have hs := Option.some.inj hF73; subst hs; clear hF73
        have hr := hrt _ rfl; subst hr
        have hF74 : some _ = some _ := hF41
        cases hF74
        exact ⟨_, _, rfl, ⟨rfl, rfl⟩, (H.sel [] rfl).close trivial⟩
    · clear H e
      rintro T76 _ _ w75 hr (H : Cx w0 fp0 S0 w75 [Es (List (List Int)) a_ a_h, Es (List (List Int)) b_ b_h])
      subst hr
      refine boolE (z := false) geLen ?_
      refine sq ?_
      cases hF41
      exact ⟨_, _, rfl, ⟨rfl, rfl⟩, (H.sel [] rfl).close trivial⟩
  · have hF79 := condT hF4; clear hF4
    cases hF79
    exact ⟨_, _, rfl, ⟨rfl, rfl⟩, (H.sel [] rfl).close trivial⟩

theorem spec_spGood_c (p_ : Int) (s__0 : Int) (s__1 : List (List Int)) (s__1h : Hd) (y : Bool) (hF : F_spec_spGood p_ (s__0, s__1) = some y) :
    ConF Tryd.prog 149 #[(.int .i64 p_), (.agg #[(.int .i64 s__0), (s__1h).v])] [Es (List (List Int)) s__1 s__1h] [] (fun v Γ' => v = (.bool y) ∧ Γ' = []) := by
  intro w0 S0 fp0 hI hS
  have H : Cx w0 fp0 S0 w0 [Es (List (List Int)) s__1 s__1h] := Cx.start hI hS
  clear hI hS
  refine enterC (args := [_, _]) gok Tryd.func149 rfl _ rfl rfl rfl ?_
  refine box_ H ?_; clear H; intro b3 w2 hx H
  clear hx
  replace H : Cx w0 fp0 S0 w2 [Bx b3 [(.int .i64 s__0), (s__1h).v], Es (List (List Int)) s__1 s__1h] := H
  obtain ⟨r35, hF37, hF36⟩ := bindS hF; clear hF
  refine cut (fun (q38 : Bool) => [(4, (.bool q38))]) (fun (q38 : Bool) w' => q38 = r35 ∧ Cx w0 fp0 S0 w' []) ?_ ?_
  · skip
    refine heldX H [] (.fst 0 (.act 1 (.fst 2 (.fst 3 (.fst 4 (.act 5 (.fst 6 (.fst 7 (.fst 8 (.fst 11 (.fst 9 (.fst 10 (.fst 12 (.fst 13 (.fst 14 (.fst 15 (.fst 16 (.fst 17 (.fst 19 (.fst 18 (.fst 20 (.act 21 (.fst 22 (.fst 23 (.fst 24 (.fst 25 (.fst 27 (.fst 30 (.fst 26 (.fst 28 (.fst 31 (.act 29 (.act 32 (.fst 33 (.fst 34 .done))))))))))))))))))))))))))))))))))) mixed [] trivial (by kernel_rfl) ?_
    clear H; intro w39 H
    have hX : Ext w39 w39 := Upd.refl _ _
    have H0 := H
    obtain ⟨y40, e, hF41⟩ := bindS hF37; clear hF37
    have ey40 := e; clear e
    refine callFx (spec_fdGood_c p_ y40 ey40) H trivial ?_; clear H ey40
    rintro _ _ w42 ⟨rfl, rfl⟩ hx (H : Cx w0 fp0 S0 w42 [Bx b3 [(.int .i64 s__0), (s__1h).v], Es (List (List Int)) s__1 s__1h])
    replace hX := hX.trans0 hx; clear hx
    refine hold hX ?_
    cases y40
    · have hF43 := condF hF41; clear hF41
      exact ⟨false, ⟨rfl, trivial⟩, Option.some.inj hF43, H.sel [] rfl⟩
    · have hF44 := condT hF41; clear hF41
      refine anyH (fun _ => fld gok rfl rfl rfl rfl ⟨rfl, rfl⟩) ?_
      refine load1X (H0.bx 0 rfl (j := 0) rfl) ?_
      obtain ⟨y45, e, hF46⟩ := bindS hF44; clear hF44
      have ey45 := e; clear e
      refine callFx (spec_l1In_c s__0 0 24 y45 ey45) H trivial ?_; clear H ey45
      rintro _ _ w47 ⟨rfl, rfl⟩ hx (H : Cx w0 fp0 S0 w47 [Bx b3 [(.int .i64 s__0), (s__1h).v], Es (List (List Int)) s__1 s__1h])
      replace hX := hX.trans0 hx; clear hx
      refine hold hX ?_
      cases y45
      · have hF48 := condF hF46; clear hF46
        exact ⟨false, ⟨rfl, trivial⟩, Option.some.inj hF48, H.sel [] rfl⟩
      · have hF49 := condT hF46; clear hF46
        refine anyH (fun _ => fld gok rfl rfl rfl rfl ⟨rfl, rfl⟩) ?_
        refine anyH (fun _ => fld gok rfl rfl rfl rfl ⟨rfl, rfl⟩) ?_
        refine load1X (H0.bx 0 rfl (j := 1) rfl) ?_
        refine lenE (H.rs (α := List (List Int)) 1 rfl).len ?_
        refine load1X (H0.bx 0 rfl (j := 0) rfl) ?_
        obtain ⟨a50, e, hF51⟩ := bindS hF49; clear hF49
        refine boolO e ?_; clear e
        cases a50
        · have hF52 := condF hF51; clear hF51
          exact ⟨false, ⟨rfl, trivial⟩, Option.some.inj hF52, H.sel [] rfl⟩
        · have hF53 := condT hF51; clear hF51
          refine anyH (fun _ => fld gok rfl rfl rfl rfl ⟨rfl, rfl⟩) ?_
          refine anyH (fun _ => fld gok rfl rfl rfl rfl ⟨rfl, rfl⟩) ?_
          refine load1X (H0.bx 0 rfl (j := 0) rfl) ?_
          refine load1X (H0.bx 0 rfl (j := 1) rfl) ?_
          obtain ⟨y54, e, hF55⟩ := bindS hF53; clear hF53
          have ey54 := e; clear e
          refine callFx (spec_spRows_c p_ s__0 s__1 s__1h y54 ey54) H ⟨Vw.sh 1 rfl, trivial⟩ ?_; clear H ey54
          rintro _ _ w56 ⟨rfl, rfl⟩ hx (H : Cx w0 fp0 S0 w56 [Bx b3 [(.int .i64 s__0), (s__1h).v], Es (List (List Int)) s__1 s__1h])
          replace hX := hX.trans0 hx; clear hx
          refine hold hX ?_
          cases y54
          · have hF57 := condF hF55; clear hF55
            exact ⟨false, ⟨rfl, trivial⟩, Option.some.inj hF57, H.sel [] rfl⟩
          · have hF58 := condT hF55; clear hF55
            refine anyH (fun _ => fld gok rfl rfl rfl rfl ⟨rfl, rfl⟩) ?_
            refine anyH (fun _ => fld gok rfl rfl rfl rfl ⟨rfl, rfl⟩) ?_
            refine anyH (fun _ => fld gok rfl rfl rfl rfl ⟨rfl, rfl⟩) ?_
            refine load1X (H0.bx 0 rfl (j := 0) rfl) ?_
            refine load1X (H0.bx 0 rfl (j := 1) rfl) ?_
            refine load1X (H0.bx 0 rfl (j := 1) rfl) ?_
            obtain ⟨y59, e, hF60⟩ := bindS hF58; clear hF58
            have ey59 := e; clear e
            refine callFx (spec_spReduce_c p_ s__0 s__1 s__1h y59 ey59) H ⟨Vw.sh 1 rfl, trivial⟩ ?_; clear H ey59
            rintro _ _ w61 ⟨h62, rfl, rfl⟩ hx (H : Cx w0 fp0 S0 w61 [E (List (List Int)) y59 h62, Bx b3 [(.int .i64 s__0), (s__1h).v], Es (List (List Int)) s__1 s__1h])
            replace hX := hX.trans0 hx; clear hx
            refine hold hX ?_
            obtain ⟨y64, e, hF65⟩ := bindS hF60; clear hF60
            have ey64 := e; clear e
            refine callFx (spec_spSame_c y59 h62 s__1 s__1h y64 ey64) H ⟨Vw.own 0 rfl, Vw.sh 2 rfl, trivial⟩ ?_; clear H ey64
            rintro _ _ w66 ⟨rfl, rfl⟩ hx (H : Cx w0 fp0 S0 w66 [E (List (List Int)) y59 h62, Bx b3 [(.int .i64 s__0), (s__1h).v], Es (List (List Int)) s__1 s__1h])
            replace hX := hX.trans0 hx; clear hx
            refine hold hX ?_
            exact ⟨y64, ⟨rfl, trivial⟩, Option.some.inj hF65, H.sel [] rfl⟩
  · clear hF37 H
    rintro T68 s33 w67 ⟨hr, (H : Cx w0 fp0 S0 w67 [])⟩
    subst hr
    cases hF36
    exact ⟨_, _, rfl, ⟨rfl, rfl⟩, (H.sel [] rfl).close trivial⟩

theorem spec_rlGood_c (p_ : Int) (r__0 : Int) (r__1 : Int) (r__2 : List (List Int)) (r__2h : Hd) (y : Bool) (hF : F_spec_rlGood p_ (r__0, r__1, r__2) = some y) :
    ConF Tryd.prog 94 #[(.int .i64 p_), (.agg #[(.int .i64 r__0), (.int .i64 r__1), (r__2h).v])] [Es (List (List Int)) r__2 r__2h] [] (fun v Γ' => v = (.bool y) ∧ Γ' = []) := by
  intro w0 S0 fp0 hI hS
  have H : Cx w0 fp0 S0 w0 [Es (List (List Int)) r__2 r__2h] := Cx.start hI hS
  clear hI hS
  refine enterC (args := [_, _]) gok Tryd.func94 rfl _ rfl rfl rfl ?_
  refine box_ H ?_; clear H; intro b3 w2 hx H
  clear hx
  replace H : Cx w0 fp0 S0 w2 [Bx b3 [(.int .i64 r__0), (.int .i64 r__1), (r__2h).v], Es (List (List Int)) r__2 r__2h] := H
  obtain ⟨r24, hF26, hF25⟩ := bindS hF; clear hF
  refine cut (fun (q27 : Bool) => [(4, (.bool q27))]) (fun (q27 : Bool) w' => q27 = r24 ∧ Cx w0 fp0 S0 w' []) ?_ ?_
  · skip
    refine fld gok rfl rfl rfl rfl ?_
    refine load1 (H.bx 0 rfl (j := 0) rfl) ?_
    obtain ⟨y28, e, hF29⟩ := bindS hF26; clear hF26
    have ey28 := e; clear e
    refine callF (spec_l1In_c r__0 0 24 y28 ey28) (Γi := []) H trivial ?_; clear H ey28
    rintro _ _ w30 ⟨rfl, rfl⟩ (H : Cx w0 fp0 S0 w30 [Bx b3 [(.int .i64 r__0), (.int .i64 r__1), (r__2h).v], Es (List (List Int)) r__2 r__2h])
    cases y28
    · have hF31 := condF hF29; clear hF29
      exact ⟨false, ⟨rfl, trivial⟩, Option.some.inj hF31, H.sel [] rfl⟩
    · have hF32 := condT hF29; clear hF29
      refine fld gok rfl rfl rfl rfl ?_
      refine load1 (H.bx 0 rfl (j := 1) rfl) ?_
      refine fld gok rfl rfl rfl rfl ?_
      refine load1 (H.bx 0 rfl (j := 0) rfl) ?_
      obtain ⟨a33, e, hF34⟩ := bindS hF32; clear hF32
      refine arO e ?_; clear e
      obtain ⟨y35, e, hF36⟩ := bindS hF34; clear hF34
      have ey35 := e; clear e
      refine callF (spec_l1In_c r__1 0 a33 y35 ey35) (Γi := []) H trivial ?_; clear H ey35
      rintro _ _ w37 ⟨rfl, rfl⟩ (H : Cx w0 fp0 S0 w37 [Bx b3 [(.int .i64 r__0), (.int .i64 r__1), (r__2h).v], Es (List (List Int)) r__2 r__2h])
      cases y35
      · have hF38 := condF hF36; clear hF36
        exact ⟨false, ⟨rfl, trivial⟩, Option.some.inj hF38, H.sel [] rfl⟩
      · have hF39 := condT hF36; clear hF36
        refine fld gok rfl rfl rfl rfl ?_
        refine load1 (H.bx 0 rfl (j := 0) rfl) ?_
        refine fld gok rfl rfl rfl rfl ?_
        refine load1 (H.bx 0 rfl (j := 1) rfl) ?_
        obtain ⟨a40, e, hF41⟩ := bindS hF39; clear hF39
        refine arO e ?_; clear e
        refine fld gok rfl rfl rfl rfl ?_
        refine load1 (H.bx 0 rfl (j := 2) rfl) ?_
        refine build_ (cs := #[(.int .i64 a40), (r__2h).v]) gok rfl rfl rfl ?_
        obtain ⟨y42, e, hF43⟩ := bindS hF41; clear hF41
        have ey42 := e; clear e
        refine callF (spec_spGood_c p_ a40 r__2 r__2h y42 ey42) (Γi := []) H ⟨Vw.sh 1 rfl, trivial⟩ ?_; clear H ey42
        rintro _ _ w44 ⟨rfl, rfl⟩ (H : Cx w0 fp0 S0 w44 [Bx b3 [(.int .i64 r__0), (.int .i64 r__1), (r__2h).v], Es (List (List Int)) r__2 r__2h])
        exact ⟨y42, ⟨rfl, trivial⟩, Option.some.inj hF43, H.sel [] rfl⟩
  · clear hF26 H
    rintro T46 s22 w45 ⟨hr, (H : Cx w0 fp0 S0 w45 [])⟩
    subst hr
    cases hF25
    exact ⟨_, _, rfl, ⟨rfl, rfl⟩, (H.sel [] rfl).close trivial⟩

theorem spec_l1Rising_c (l_ : List Int) (l_h : Hd) (lo_ : Int) (hi_ : Int) (y : Bool) (hF : F_spec_l1Rising l_ lo_ hi_ = some y) :
    ConF Tryd.prog 143 #[(l_h).v, (.int .i64 lo_), (.int .i64 hi_)] [Es (List Int) l_ l_h] [] (fun v Γ' => v = (.bool y) ∧ Γ' = []) := by
  intro w0 S0 fp0 hI hS
  have H : Cx w0 fp0 S0 w0 [Es (List Int) l_ l_h] := Cx.start hI hS
  clear hI hS
  refine enterC (args := [_, _, _]) gok Tryd.func143 rfl _ rfl rfl rfl ?_
  refine sq ?_
  refine lenE (H.rs (α := List Int) 0 rfl).len ?_
  have hmx71 := (H.rs (α := List Int) 0 rfl).max
  obtain ⟨r72, e, hF73⟩ := bindS hF; clear hF
  refine loopO _ l_.length (fun (k2 : Nat) (_ : Unit) (_ : Unit) => [(0, (l_h).v), (1, (.int .i64 lo_)), (2, (.int .i64 hi_)), (9, (l_h).v), (10, (.int .i64 ((l_.length : Nat) : Int))), (11, (.int .i64 ((k2 : Nat) : Int)))]) (fun _ (_ : Unit) (_ : Unit) w' => Cx w0 fp0 S0 w' [Es (List Int) l_ l_h]) () () e ⟨rfl, rfl, rfl, rfl, rfl, rfl, trivial⟩ (H.sel [0] rfl) ?_ ?_
  · clear H e
    rintro T75 k2 _ _ w74 o76 hk (H : Cx w0 fp0 S0 w74 [Es (List Int) l_ l_h]) hrt hF77
    refine boolE (z := true) (ltLen hk) ?_
    refine sq ?_
    refine sq ?_
    obtain ⟨a84, e, hF85⟩ := bindS hF77; clear hF77
    obtain ⟨p82, m83, c78, c79, c80, c81⟩ := (H.rs (α := List Int) 0 rfl).at1 e; clear e
    refine idxE c78 c79 c80 ?_; clear c78 c79 c80
    refine load1 c81 ?_; clear c81
    obtain ⟨r111, hF113, hF112⟩ := bindS hF85; clear hF85
    refine cut (fun (q114 : Bool) => [(0, (l_h).v), (1, (.int .i64 lo_)), (2, (.int .i64 hi_)), (9, (l_h).v), (10, (.int .i64 ((l_.length : Nat) : Int))), (11, (.int .i64 ((k2 : Nat) : Int))), (33, (.bool q114))]) (fun (q114 : Bool) w' => q114 = r111 ∧ Cx w0 fp0 S0 w' [Es (List Int) l_ l_h]) ?_ ?_
    · skip
      obtain ⟨y115, e, hF116⟩ := bindS hF113; clear hF113
      have ey115 := e; clear e
      refine callF (spec_l1In_c a84 lo_ hi_ y115 ey115) (Γi := []) H trivial ?_; clear H ey115
      rintro _ _ w117 ⟨rfl, rfl⟩ (H : Cx w0 fp0 S0 w117 [Es (List Int) l_ l_h])
      obtain ⟨a118, e, hF119⟩ := bindS hF116; clear hF116
      refine boolO e ?_; clear e
      cases a118
      · have hF120 := condF hF119; clear hF119
        obtain ⟨a121, e, hF122⟩ := bindS hF120; clear hF120
        refine boolO e ?_; clear e
        cases a121
        · have hF123 := condF hF122; clear hF122
          exact ⟨false, ⟨rfl, rfl, rfl, rfl, rfl, rfl, rfl, trivial⟩, Option.some.inj hF123, H.sel [0] rfl⟩
        · have hF124 := condT hF122; clear hF122
          obtain ⟨a125, e, hF126⟩ := bindS hF124; clear hF124
          refine arO e ?_; clear e
          obtain ⟨a133, e, hF134⟩ := bindS hF126; clear hF126
          obtain ⟨p131, m132, c127, c128, c129, c130⟩ := (H.rs (α := List Int) 0 rfl).at1 e; clear e
          refine idxE c127 c128 c129 ?_; clear c127 c128 c129
          refine load1 c130 ?_; clear c130
          obtain ⟨a135, e, hF136⟩ := bindS hF134; clear hF134
          refine boolO e ?_; clear e
          exact ⟨a135, ⟨rfl, rfl, rfl, rfl, rfl, rfl, rfl, trivial⟩, Option.some.inj hF136, H.sel [0] rfl⟩
      · have hF137 := condT hF119; clear hF119
        exact ⟨true, ⟨rfl, rfl, rfl, rfl, rfl, rfl, rfl, trivial⟩, Option.some.inj hF137, H.sel [0] rfl⟩
    · clear hF113 H
      rintro T139 s109 w138 ⟨hr, (H : Cx w0 fp0 S0 w138 [Es (List Int) l_ l_h])⟩
      subst hr
      cases s109
      · have hF140 := condF hF112; clear hF112
        refine arK hk hmx71 ?_
        have hs := Option.some.inj hF140; subst hs; clear hF140
        exact ⟨(), (), rfl, ⟨rfl, rfl, rfl, rfl, rfl, rfl, trivial⟩, H.sel [0] rfl⟩
      · have hF141 := condT hF112; clear hF112
        have hs := Option.some.inj hF141; subst hs; clear hF141
        have hr := hrt _ rfl; subst hr
        have hF142 : some _ = some _ := hF73
        cases hF142
        exact ⟨_, _, rfl, ⟨rfl, rfl⟩, (H.sel [] rfl).close trivial⟩
  · clear H e
    rintro T144 _ _ w143 hr (H : Cx w0 fp0 S0 w143 [Es (List Int) l_ l_h])
    subst hr
    refine boolE (z := false) geLen ?_
    refine sq ?_
    cases hF73
    exact ⟨_, _, rfl, ⟨rfl, rfl⟩, (H.sel [] rfl).close trivial⟩

theorem spec_riPorts_c (ports_ : List Int) (ports_h : Hd) (n_ : Int) (y : Bool) (hF : F_spec_riPorts ports_ n_ = some y) :
    ConF Tryd.prog 82 #[(ports_h).v, (.int .i64 n_)] [Es (List Int) ports_ ports_h] [] (fun v Γ' => v = (.bool y) ∧ Γ' = []) := by
  intro w0 S0 fp0 hI hS
  have H : Cx w0 fp0 S0 w0 [Es (List Int) ports_ ports_h] := Cx.start hI hS
  clear hI hS
  refine enterC (args := [_, _]) gok Tryd.func82 rfl _ rfl rfl rfl ?_
  obtain ⟨a2, e, hF3⟩ := bindS hF; clear hF
  refine arO e ?_; clear e
  obtain ⟨y4, e, hF5⟩ := bindS hF3; clear hF3
  have ey4 := e; clear e
  refine callF (spec_l1Rising_c ports_ ports_h 0 a2 y4 ey4) (Γi := []) H ⟨Vw.sh 0 rfl, trivial⟩ ?_; clear H ey4
  rintro _ _ w6 ⟨rfl, rfl⟩ (H : Cx w0 fp0 S0 w6 [Es (List Int) ports_ ports_h])
  cases hF5
  exact ⟨_, _, rfl, ⟨rfl, rfl⟩, (H.sel [] rfl).close trivial⟩

theorem spec_riAsked_c (p_ : Int) (r__0 : Int) (r__1 : Int) (r__2 : List (List Int)) (r__2h : Hd) (ports_ : List Int) (ports_h : Hd) (y : Bool) (hF : F_spec_riAsked p_ (r__0, r__1, r__2) ports_ = some y) :
    ConF Tryd.prog 102 #[(.int .i64 p_), (.agg #[(.int .i64 r__0), (.int .i64 r__1), (r__2h).v]), (ports_h).v] [Es (List (List Int)) r__2 r__2h, Es (List Int) ports_ ports_h] [] (fun v Γ' => v = (.bool y) ∧ Γ' = []) := by
  intro w0 S0 fp0 hI hS
  have H : Cx w0 fp0 S0 w0 [Es (List (List Int)) r__2 r__2h, Es (List Int) ports_ ports_h] := Cx.start hI hS
  clear hI hS
  refine enterC (args := [_, _, _]) gok Tryd.func102 rfl _ rfl rfl rfl ?_
  refine box_ H ?_; clear H; intro b4 w3 hx H
  clear hx
  replace H : Cx w0 fp0 S0 w3 [Bx b4 [(.int .i64 r__0), (.int .i64 r__1), (r__2h).v], Es (List (List Int)) r__2 r__2h, Es (List Int) ports_ ports_h] := H
  obtain ⟨r18, hF20, hF19⟩ := bindS hF; clear hF
  refine cut (fun (q21 : Bool) => [(6, (.bool q21))]) (fun (q21 : Bool) w' => q21 = r18 ∧ Cx w0 fp0 S0 w' []) ?_ ?_
  · skip
    refine loadN [(.int .i64 r__0), (.int .i64 r__1), (r__2h).v] rfl (fun j u hj => H.bx 0 rfl hj) ?_
    obtain ⟨y22, e, hF23⟩ := bindS hF20; clear hF20
    have ey22 := e; clear e
    refine callF (spec_rlGood_c p_ r__0 r__1 r__2 r__2h y22 ey22) (Γi := []) H ⟨Vw.sh 1 rfl, trivial⟩ ?_; clear H ey22
    rintro _ _ w24 ⟨rfl, rfl⟩ (H : Cx w0 fp0 S0 w24 [Bx b4 [(.int .i64 r__0), (.int .i64 r__1), (r__2h).v], Es (List (List Int)) r__2 r__2h, Es (List Int) ports_ ports_h])
    cases y22
    · have hF25 := condF hF23; clear hF23
      exact ⟨false, ⟨rfl, trivial⟩, Option.some.inj hF25, H.sel [] rfl⟩
    · have hF26 := condT hF23; clear hF23
      refine fld gok rfl rfl rfl rfl ?_
      refine load1 (H.bx 0 rfl (j := 0) rfl) ?_
      refine fld gok rfl rfl rfl rfl ?_
      refine load1 (H.bx 0 rfl (j := 1) rfl) ?_
      obtain ⟨a27, e, hF28⟩ := bindS hF26; clear hF26
      refine arO e ?_; clear e
      obtain ⟨y29, e, hF30⟩ := bindS hF28; clear hF28
      have ey29 := e; clear e
      refine callF (spec_riPorts_c ports_ ports_h a27 y29 ey29) (Γi := []) H ⟨Vw.sh 2 rfl, trivial⟩ ?_; clear H ey29
      rintro _ _ w31 ⟨rfl, rfl⟩ (H : Cx w0 fp0 S0 w31 [Bx b4 [(.int .i64 r__0), (.int .i64 r__1), (r__2h).v], Es (List (List Int)) r__2 r__2h, Es (List Int) ports_ ports_h])
      exact ⟨y29, ⟨rfl, trivial⟩, Option.some.inj hF30, H.sel [] rfl⟩
  · clear hF20 H
    rintro T33 s16 w32 ⟨hr, (H : Cx w0 fp0 S0 w32 [])⟩
    subst hr
    cases hF19
    exact ⟨_, _, rfl, ⟨rfl, rfl⟩, (H.sel [] rfl).close trivial⟩

theorem spec_l1Has_c (l_ : List Int) (l_h : Hd) (n_ : Int) (y : Bool) (hF : F_spec_l1Has l_ n_ = some y) :
    ConF Tryd.prog 108 #[(l_h).v, (.int .i64 n_)] [Es (List Int) l_ l_h] [] (fun v Γ' => v = (.bool y) ∧ Γ' = []) := by
  intro w0 S0 fp0 hI hS
  have H : Cx w0 fp0 S0 w0 [Es (List Int) l_ l_h] := Cx.start hI hS
  clear hI hS
  refine enterC (args := [_, _]) gok Tryd.func108 rfl _ rfl rfl rfl ?_
  refine sq ?_
  refine lenE (H.rs (α := List Int) 0 rfl).len ?_
  have hmx19 := (H.rs (α := List Int) 0 rfl).max
  obtain ⟨r20, e, hF21⟩ := bindS hF; clear hF
  refine loopO _ l_.length (fun (k2 : Nat) (_ : Unit) (_ : Unit) => [(1, (.int .i64 n_)), (7, (l_h).v), (8, (.int .i64 ((l_.length : Nat) : Int))), (9, (.int .i64 ((k2 : Nat) : Int)))]) (fun _ (_ : Unit) (_ : Unit) w' => Cx w0 fp0 S0 w' [Es (List Int) l_ l_h]) () () e ⟨rfl, rfl, rfl, rfl, trivial⟩ (H.sel [0] rfl) ?_ ?_
  · clear H e
    rintro T23 k2 _ _ w22 o24 hk (H : Cx w0 fp0 S0 w22 [Es (List Int) l_ l_h]) hrt hF25
    refine boolE (z := true) (ltLen hk) ?_
    refine sq ?_
    refine sq ?_
    obtain ⟨a32, e, hF33⟩ := bindS hF25; clear hF25
    obtain ⟨p30, m31, c26, c27, c28, c29⟩ := (H.rs (α := List Int) 0 rfl).at1 e; clear e
    refine idxE c26 c27 c28 ?_; clear c26 c27 c28
    refine load1 c29 ?_; clear c29
    obtain ⟨a34, e, hF35⟩ := bindS hF33; clear hF33
    refine boolO e ?_; clear e
    cases a34
    · have hF36 := condF hF35; clear hF35
      refine arK hk hmx19 ?_
      have hs := Option.some.inj hF36; subst hs; clear hF36
      exact ⟨(), (), rfl, ⟨rfl, rfl, rfl, rfl, trivial⟩, H.sel [0] rfl⟩
    · have hF37 := condT hF35; clear hF35
      have hs := Option.some.inj hF37; subst hs; clear hF37
      have hr := hrt _ rfl; subst hr
      have hF38 : some _ = some _ := hF21
      cases hF38
      exact ⟨_, _, rfl, ⟨rfl, rfl⟩, (H.sel [] rfl).close trivial⟩
  · clear H e
    rintro T40 _ _ w39 hr (H : Cx w0 fp0 S0 w39 [Es (List Int) l_ l_h])
    subst hr
    refine boolE (z := false) geLen ?_
    refine sq ?_
    cases hF21
    exact ⟨_, _, rfl, ⟨rfl, rfl⟩, (H.sel [] rfl).close trivial⟩

theorem spec_riRest_c (ports_ : List Int) (ports_h : Hd) (n_ : Int) (y : List Int) (hF : F_spec_riRest ports_ n_ = some y) :
    ConF Tryd.prog 83 #[(ports_h).v, (.int .i64 n_)] [Es (List Int) ports_ ports_h] [] (fun v Γ' => ∃ z0 : Hd, v = (z0).v ∧ Γ' = [E (List Int) y z0]) := by
  intro w0 S0 fp0 hI hS
  have H : Cx w0 fp0 S0 w0 [Es (List Int) ports_ ports_h] := Cx.start hI hS
  clear hI hS
  refine enterC (args := [_, _]) gok Tryd.func83 rfl _ rfl rfl rfl ?_
  obtain ⟨r92, hF94, hF93⟩ := bindS hF; clear hF
  refine cut (fun (q95 : List Int × Hd) => [(5, (q95.2).v)]) (fun (q95 : List Int × Hd) w' => q95.1 = r92 ∧ Cx w0 fp0 S0 w' [E (List Int) q95.1 q95.2]) ?_ ?_
  · skip
    replace H := H.nil (α := Int)
    refine loopW _ (fun (s148 : List Int × Int) (g149 : Hd) => [(0, (ports_h).v), (1, (.int .i64 n_)), (5, (g149).v), (6, (.int .i64 s148.2))]) (fun (s148 : List Int × Int) (g149 : Hd) w' => Cx w0 fp0 S0 w' [Es (List Int) ports_ ports_h, E (List Int) s148.1 g149]) ([], 0) nilH hF94 ⟨rfl, rfl, rfl, rfl, trivial⟩ (H.sel [1, 0] rfl) ?_
    · clear H
      rintro T156 ⟨s148_0, s148_1⟩ g149 w155 o157 (H : Cx w0 fp0 S0 w155 [Es (List Int) ports_ ports_h, E (List Int) s148_0 g149]) hrt hF158
      refine sq ?_
      obtain ⟨a159, e, hF160⟩ := bindS hF158; clear hF158
      refine boolO e ?_; clear e
      cases a159
      · have hF161 := condF hF160; clear hF160
        have hs := Option.some.inj hF161; subst hs; clear hF161
        have hF162 : some _ = some _ := congrArg some (hrt _ rfl).symm
        exact ⟨(s148_0, g149), ⟨rfl, trivial⟩, Option.some.inj hF162, H.sel [1] rfl⟩
      · have hF163 := condT hF160; clear hF160
        refine sq ?_
        obtain ⟨y164, e, hF165⟩ := bindS hF163; clear hF163
        have ey164 := e; clear e
        refine callF (spec_l1Has_c ports_ ports_h s148_1 y164 ey164) (Γi := []) H ⟨Vw.sh 0 rfl, trivial⟩ ?_; clear H ey164
        rintro _ _ w166 ⟨rfl, rfl⟩ (H : Cx w0 fp0 S0 w166 [Es (List Int) ports_ ports_h, E (List Int) s148_0 g149])
        obtain ⟨a167, e, hF168⟩ := bindS hF165; clear hF165
        refine boolO e ?_; clear e
        cases a167
        · have hF169 := condF hF168; clear hF168
          obtain ⟨a170, e, hF171⟩ := bindS hF169; clear hF169
          refine arO e ?_; clear e
          have hs := Option.some.inj hF171; subst hs; clear hF171
          exact ⟨(s148_0, a170), g149, rfl, ⟨rfl, rfl, rfl, rfl, trivial⟩, H.sel [0, 1] rfl⟩
        · have hF172 := condT hF168; clear hF168
          refine lit1S (α := Int) gok rfl rfl rfl rfl H ?_; clear H; intro h174 w173 hx H
          clear hx
          obtain ⟨a176, e, hF177⟩ := bindS hF172; clear hF172
          replace H := H.sel [2, 0, 1] rfl
          refine append_ (α := Int) gok rfl rfl rfl rfl H e ?_; clear e H; intro h179 w178 H
          obtain ⟨a181, e, hF182⟩ := bindS hF177; clear hF177
          refine arO e ?_; clear e
          have hs := Option.some.inj hF182; subst hs; clear hF182
          exact ⟨(a176, a181), h179, rfl, ⟨rfl, rfl, rfl, rfl, trivial⟩, H.sel [1, 0] rfl⟩
  · clear hF94 H
    rintro T184 ⟨s89, g90⟩ w183 ⟨hr, (H : Cx w0 fp0 S0 w183 [E (List Int) s89 g90])⟩
    subst hr
    cases hF93
    exact ⟨_, _, rfl, ⟨g90, rfl, rfl⟩, (H.sel [0] rfl).close ⟨cloE, trivial⟩⟩

theorem spec_spLead_c (v_ : List Int) (v_h : Hd) (y : Int) (hF : F_spec_spLead v_ = some y) :
    ConF Tryd.prog 155 #[(v_h).v] [Es (List Int) v_ v_h] [] (fun v Γ' => v = (.int .i64 y) ∧ Γ' = []) := by
  intro w0 S0 fp0 hI hS
  have H : Cx w0 fp0 S0 w0 [Es (List Int) v_ v_h] := Cx.start hI hS
  clear hI hS
  refine enterC (args := [_]) gok Tryd.func155 rfl _ rfl rfl rfl ?_
  obtain ⟨r138, hF140, hF139⟩ := bindS hF; clear hF
  refine cut (fun (q141 : Int) => [(3, (.int .i64 q141))]) (fun (q141 : Int) w' => q141 = r138 ∧ Cx w0 fp0 S0 w' []) ?_ ?_
  · skip
    refine loopW _ (fun (s226 : Int) (_ : Unit) => [(0, (v_h).v), (3, (.int .i64 s226))]) (fun (s226 : Int) (_ : Unit) w' => Cx w0 fp0 S0 w' [Es (List Int) v_ v_h]) 0 () hF140 ⟨rfl, rfl, trivial⟩ (H.sel [0] rfl) ?_
    · clear H
      rintro T232 s226 _ w231 o233 (H : Cx w0 fp0 S0 w231 [Es (List Int) v_ v_h]) hrt hF234
      refine sq ?_
      obtain ⟨r251, hF253, hF252⟩ := bindS hF234; clear hF234
      refine cut (fun (q254 : Bool) => [(0, (v_h).v), (3, (.int .i64 s226)), (14, (.bool q254))]) (fun (q254 : Bool) w' => q254 = r251 ∧ Cx w0 fp0 S0 w' [Es (List Int) v_ v_h]) ?_ ?_
      · skip
        refine lenE (H.rs (α := List Int) 0 rfl).len ?_
        obtain ⟨a255, e, hF256⟩ := bindS hF253; clear hF253
        refine boolO e ?_; clear e
        cases a255
        · have hF257 := condF hF256; clear hF256
          exact ⟨false, ⟨rfl, rfl, rfl, trivial⟩, Option.some.inj hF257, H.sel [0] rfl⟩
        · have hF258 := condT hF256; clear hF256
          obtain ⟨a265, e, hF266⟩ := bindS hF258; clear hF258
          obtain ⟨p263, m264, c259, c260, c261, c262⟩ := (H.rs (α := List Int) 0 rfl).at1 e; clear e
          refine idxE c259 c260 c261 ?_; clear c259 c260 c261
          refine load1 c262 ?_; clear c262
          obtain ⟨a267, e, hF268⟩ := bindS hF266; clear hF266
          refine boolO e ?_; clear e
          exact ⟨a267, ⟨rfl, rfl, rfl, trivial⟩, Option.some.inj hF268, H.sel [0] rfl⟩
      · clear hF253 H
        rintro T270 s249 w269 ⟨hr, (H : Cx w0 fp0 S0 w269 [Es (List Int) v_ v_h])⟩
        subst hr
        cases s249
        · have hF271 := condF hF252; clear hF252
          have hs := Option.some.inj hF271; subst hs; clear hF271
          have hF272 : some _ = some _ := congrArg some (hrt _ rfl).symm
          exact ⟨s226, ⟨rfl, trivial⟩, Option.some.inj hF272, H.sel [] rfl⟩
        · have hF273 := condT hF252; clear hF252
          obtain ⟨a274, e, hF275⟩ := bindS hF273; clear hF273
          refine arO e ?_; clear e
          have hs := Option.some.inj hF275; subst hs; clear hF275
          exact ⟨a274, (), rfl, ⟨rfl, rfl, trivial⟩, H.sel [0] rfl⟩
  · clear hF140 H
    rintro T277 s136 w276 ⟨hr, (H : Cx w0 fp0 S0 w276 [])⟩
    subst hr
    cases hF139
    exact ⟨_, _, rfl, ⟨rfl, rfl⟩, (H.sel [] rfl).close trivial⟩

theorem spec_riFunction_c (p_ : Int) (n_ : Int) (basis_ : List (List Int)) (basis_h : Hd) (ports_ : List Int) (ports_h : Hd) (y0_0 : Int) (y0_1 : List (List Int)) (y1 : Bool) (hF : F_spec_riFunction p_ n_ basis_ ports_ = some ((y0_0, y0_1), y1)) :
    ConF Tryd.prog 109 #[(.int .i64 p_), (.int .i64 n_), (basis_h).v, (ports_h).v] [Es (List (List Int)) basis_ basis_h, Es (List Int) ports_ ports_h] [] (fun v Γ' => ∃ z0 : Hd, v = (.tuple #[(.agg #[(.int .i64 y0_0), (z0).v]), (.bool y1)]) ∧ Γ' = [E (List (List Int)) y0_1 z0]) := by
  intro w0 S0 fp0 hI hS
  have H : Cx w0 fp0 S0 w0 [Es (List (List Int)) basis_ basis_h, Es (List Int) ports_ ports_h] := Cx.start hI hS
  clear hI hS
  refine enterC (args := [_, _, _, _]) gok Tryd.func109 rfl _ rfl rfl rfl ?_
  refine alloc_ gok rfl H ?_; clear H; intro b4 w3 hx H
  clear hx
  replace H : Cx w0 fp0 S0 w3 [Bx b4 [(.int .i64 0), (.slice none 0 0)], Es (List (List Int)) basis_ basis_h, Es (List Int) ports_ ports_h] := H
  refine sq ?_
  refine lenE (H.rs (α := List Int) 2 rfl).len ?_
  refine lenE (H.rs (α := List (List Int)) 1 rfl).len ?_
  obtain ⟨a6, e, hF7⟩ := bindS hF; clear hF
  refine boolO e ?_; clear e
  cases a6
  · have hF8 := condF hF7; clear hF7
    obtain ⟨y9, e, hF10⟩ := bindS hF8; clear hF8
    have ey9 := e; clear e
    refine callF (spec_riRest_c ports_ ports_h n_ y9 ey9) (Γi := []) H ⟨Vw.sh 2 rfl, trivial⟩ ?_; clear H ey9
    rintro _ _ w11 ⟨h12, rfl, rfl⟩ (H : Cx w0 fp0 S0 w11 [E (List Int) y9 h12, Bx b4 [(.int .i64 0), (.slice none 0 0)], Es (List (List Int)) basis_ basis_h, Es (List Int) ports_ ports_h])
    refine sq ?_
    refine lenE (H.rs (α := List (List Int)) 2 rfl).len ?_
    have hmx270 := (H.rs (α := List (List Int)) 2 rfl).max
    obtain ⟨r271, e, hF272⟩ := bindS hF10; clear hF10
    replace H := H.nil (α := List Int)
    refine loopS _ basis_.length (fun (k14 : Nat) (s267 : List (List Int)) (g268 : Hd) => [(0, (.int .i64 p_)), (1, (.int .i64 n_)), (3, (ports_h).v), (8, (.pointer (some ⟨b4, 0, none⟩))), (10, (h12).v), (11, (g268).v), (29, (basis_h).v), (30, (.int .i64 ((basis_.length : Nat) : Int))), (31, (.int .i64 ((k14 : Nat) : Int)))]) (fun _ (s267 : List (List Int)) (g268 : Hd) w' => Cx w0 fp0 S0 w' [Es (List Int) ports_ ports_h, Bx b4 [(.int .i64 0), (.slice none 0 0)], E (List Int) y9 h12, E (List (List Int)) s267 g268, Es (List (List Int)) basis_ basis_h]) [] nilH e ⟨rfl, rfl, rfl, rfl, rfl, rfl, rfl, rfl, rfl, trivial⟩ (H.sel [4, 2, 1, 0, 3] rfl) ?_ ?_
    · clear H e
      rintro T275 k14 s267 g268 w274 o276 hk (H : Cx w0 fp0 S0 w274 [Es (List Int) ports_ ports_h, Bx b4 [(.int .i64 0), (.slice none 0 0)], E (List Int) y9 h12, E (List (List Int)) s267 g268, Es (List (List Int)) basis_ basis_h]) hF277
      refine boolE (z := true) (ltLen hk) ?_
      refine sq ?_
      refine sq ?_
      obtain ⟨a284, e, hF285⟩ := bindS hF277; clear hF277
      have HH := H; clear H; obtain ⟨p282, m283, h286, c278, c279, c280, c281, H⟩ := HH.elL 4 rfl e; clear HH
      clear e
      refine idxE c278 c279 c280 ?_; clear c278 c279 c280
      refine load1 c281 ?_; clear c281
      refine sq ?_
      obtain ⟨y288, e, hF289⟩ := bindS hF285; clear hF285
      have ey288 := e; clear e
      refine callF (spec_l1Own_c ports_ ports_h y288 ey288) (Γi := []) H ⟨Vw.sh 1 rfl, trivial⟩ ?_; clear H ey288
      rintro _ _ w290 ⟨h291, rfl, rfl⟩ (H : Cx w0 fp0 S0 w290 [E (List Int) y288 h291, Es (List Int) a284 h286, Es (List Int) ports_ ports_h, Bx b4 [(.int .i64 0), (.slice none 0 0)], E (List Int) y9 h12, E (List (List Int)) s267 g268, Es (List (List Int)) basis_ basis_h])
      obtain ⟨a293, e, hF294⟩ := bindS hF289; clear hF289
      refine appendS (α := Int) gok rfl rfl rfl rfl H (Vw.own 3 rfl) e ?_; clear e H; intro h296 w295 H
      refine lenE (H.ro (α := List Int) 0 rfl).len ?_
      have hmx356 := (H.ro (α := List Int) 0 rfl).max
      obtain ⟨r357, e, hF358⟩ := bindS hF294; clear hF294
      replace H := H.nil (α := Int)
      refine loopS _ a293.length (fun (k298 : Nat) (s353 : List Int) (g354 : Hd) => [(0, (.int .i64 p_)), (1, (.int .i64 n_)), (3, (ports_h).v), (8, (.pointer (some ⟨b4, 0, none⟩))), (10, (h12).v), (11, (g268).v), (13, (h286).v), (14, (g354).v), (29, (basis_h).v), (30, (.int .i64 ((basis_.length : Nat) : Int))), (31, (.int .i64 ((k14 : Nat) : Int))), (38, (h296).v), (39, (.int .i64 ((a293.length : Nat) : Int))), (40, (.int .i64 ((k298 : Nat) : Int)))]) (fun _ (s353 : List Int) (g354 : Hd) w' => Cx w0 fp0 S0 w' [Es (List Int) ports_ ports_h, Bx b4 [(.int .i64 0), (.slice none 0 0)], E (List Int) y9 h12, E (List (List Int)) s267 g268, Es (List Int) a284 h286, E (List Int) s353 g354, Es (List (List Int)) basis_ basis_h, E (List Int) a293 h296]) [] nilH e ⟨rfl, rfl, rfl, rfl, rfl, rfl, rfl, rfl, rfl, rfl, rfl, rfl, rfl, rfl, trivial⟩ (H.sel [3, 4, 5, 6, 2, 0, 7, 1] rfl) ?_ ?_
      · clear H e
        rintro T361 k298 s353 g354 w360 o362 hk (H : Cx w0 fp0 S0 w360 [Es (List Int) ports_ ports_h, Bx b4 [(.int .i64 0), (.slice none 0 0)], E (List Int) y9 h12, E (List (List Int)) s267 g268, Es (List Int) a284 h286, E (List Int) s353 g354, Es (List (List Int)) basis_ basis_h, E (List Int) a293 h296]) hF363
        refine boolE (z := true) (ltLen hk) ?_
        refine sq ?_
        refine sq ?_
        obtain ⟨a370, e, hF371⟩ := bindS hF363; clear hF363
        obtain ⟨p368, m369, c364, c365, c366, c367⟩ := (H.ro (α := List Int) 7 rfl).at1 e; clear e
        refine idxE c364 c365 c366 ?_; clear c364 c365 c366
        refine load1 c367 ?_; clear c367
        obtain ⟨a378, e, hF379⟩ := bindS hF371; clear hF371
        obtain ⟨p376, m377, c372, c373, c374, c375⟩ := (H.rs (α := List Int) 4 rfl).at1 e; clear e
        refine idxE c372 c373 c374 ?_; clear c372 c373 c374
        refine load1 c375 ?_; clear c375
        refine lit1S (α := Int) gok rfl rfl rfl rfl H ?_; clear H; intro h381 w380 hx H
        clear hx
        obtain ⟨a383, e, hF384⟩ := bindS hF379; clear hF379
        replace H := H.sel [6, 0, 1, 2, 3, 4, 5, 7, 8] rfl
        refine append_ (α := Int) gok rfl rfl rfl rfl H e ?_; clear e H; intro h386 w385 H
        refine arK hk hmx356 ?_
        have hs := Option.some.inj hF384; subst hs; clear hF384
        exact ⟨h386, ⟨rfl, rfl, rfl, rfl, rfl, rfl, rfl, rfl, rfl, rfl, rfl, rfl, rfl, rfl, trivial⟩, H.sel [1, 2, 3, 4, 5, 0, 6, 7] rfl⟩
      · clear H e
        rintro T389 g391 w388 (H : Cx w0 fp0 S0 w388 [Es (List Int) ports_ ports_h, Bx b4 [(.int .i64 0), (.slice none 0 0)], E (List Int) y9 h12, E (List (List Int)) s267 g268, Es (List Int) a284 h286, E (List Int) r357 g391, Es (List (List Int)) basis_ basis_h, E (List Int) a293 h296])
        refine boolE (z := false) geLen ?_
        refine sq ?_
        replace H := H.sel [5, 0, 1, 2, 3, 4, 6, 7] rfl
        refine lit1 (α := List Int) (g := g391) gok rfl rfl rfl rfl rfl H ?_; clear H; intro h394 w393 hx H
        clear hx
        obtain ⟨a396, e, hF397⟩ := bindS hF358; clear hF358
        replace H := H.sel [4, 0, 1, 2, 3, 5, 6, 7] rfl
        refine append_ (α := List Int) gok rfl rfl rfl rfl H e ?_; clear e H; intro h399 w398 H
        refine arK hk hmx270 ?_
        have hs := Option.some.inj hF397; subst hs; clear hF397
        exact ⟨h399, ⟨rfl, rfl, rfl, rfl, rfl, rfl, rfl, rfl, rfl, trivial⟩, H.sel [1, 2, 3, 0, 5] rfl⟩
    · clear H e
      rintro T402 g404 w401 (H : Cx w0 fp0 S0 w401 [Es (List Int) ports_ ports_h, Bx b4 [(.int .i64 0), (.slice none 0 0)], E (List Int) y9 h12, E (List (List Int)) r271 g404, Es (List (List Int)) basis_ basis_h])
      refine boolE (z := false) geLen ?_
      refine sq ?_
      refine lenE (H.ro (α := List Int) 2 rfl).len ?_
      refine build_ (cs := #[(.int .i64 ((y9.length : Nat) : Int)), (.slice none 0 0)]) gok rfl rfl rfl ?_
      refine alloc_ gok rfl H ?_; clear H; intro b407 w406 hx H
      clear hx
      replace H : Cx w0 fp0 S0 w406 [Bx b407 [(.int .i64 0), (.slice none 0 0)], Es (List Int) ports_ ports_h, Bx b4 [(.int .i64 0), (.slice none 0 0)], E (List Int) y9 h12, E (List (List Int)) r271 g404, Es (List (List Int)) basis_ basis_h] := H
      refine stA gok [(.int .i64 ((y9.length : Nat) : Int)), (.slice none 0 0)] rfl H rfl rfl rfl ?_; clear H; intro w409 H
      replace H : Cx w0 fp0 S0 w409 [Bx b407 [(.int .i64 ((y9.length : Nat) : Int)), (.slice none 0 0)], Es (List Int) ports_ ports_h, Bx b4 [(.int .i64 0), (.slice none 0 0)], E (List Int) y9 h12, E (List (List Int)) r271 g404, Es (List (List Int)) basis_ basis_h] := H
      refine sq ?_
      obtain ⟨y410, e, hF411⟩ := bindS hF272; clear hF272
      have ey410 := e; clear e
      refine callF (spec_spReduce_c p_ n_ r271 g404 y410 ey410) (Γi := []) H ⟨Vw.own 4 rfl, trivial⟩ ?_; clear H ey410
      rintro _ _ w412 ⟨h413, rfl, rfl⟩ (H : Cx w0 fp0 S0 w412 [E (List (List Int)) y410 h413, Bx b407 [(.int .i64 ((y9.length : Nat) : Int)), (.slice none 0 0)], Es (List Int) ports_ ports_h, Bx b4 [(.int .i64 0), (.slice none 0 0)], E (List Int) y9 h12, E (List (List Int)) r271 g404, Es (List (List Int)) basis_ basis_h])
      refine lenE (H.ro (α := List (List Int)) 0 rfl).len ?_
      replace H := H.frz
      have hmx539 := (H.rs (α := List (List Int)) 0 rfl).max
      obtain ⟨r540, e, hF541⟩ := bindS hF411; clear hF411
      replace H := H.nil (α := List Int)
      refine loopO _ y410.length (fun (k415 : Nat) (s536 : List (List Int)) (g537 : Hd) => [(3, (ports_h).v), (8, (.pointer (some ⟨b4, 0, none⟩))), (17, (.pointer (some ⟨b407, 0, none⟩))), (63, (h413).v), (64, (.int .i64 ((y410.length : Nat) : Int))), (65, (.int .i64 ((k415 : Nat) : Int)))]) (fun _ (s536 : List (List Int)) (g537 : Hd) w' => Cx w0 fp0 S0 w' [Es (List Int) ports_ ports_h, Bx b4 [(.int .i64 0), (.slice none 0 0)], Bx b407 [(.int .i64 ((y9.length : Nat) : Int)), (g537).v], E (List (List Int)) s536 g537, Es (List (List Int)) y410 h413]) [] nilH e ⟨rfl, rfl, rfl, rfl, rfl, rfl, trivial⟩ (H.sel [3, 4, 2, 0, 1] rfl) ?_ ?_
      · clear H e
        rintro T544 k415 s536 g537 w543 o545 hk (H : Cx w0 fp0 S0 w543 [Es (List Int) ports_ ports_h, Bx b4 [(.int .i64 0), (.slice none 0 0)], Bx b407 [(.int .i64 ((y9.length : Nat) : Int)), (g537).v], E (List (List Int)) s536 g537, Es (List (List Int)) y410 h413]) hrt hF546
        refine boolE (z := true) (ltLen hk) ?_
        refine sq ?_
        refine sq ?_
        obtain ⟨a553, e, hF554⟩ := bindS hF546; clear hF546
        have HH := H; clear H; obtain ⟨p551, m552, h555, c547, c548, c549, c550, H⟩ := HH.elL 4 rfl e; clear HH
        clear e
        refine idxE c547 c548 c549 ?_; clear c547 c548 c549
        refine load1 c550 ?_; clear c550
        refine sq ?_
        obtain ⟨y557, e, hF558⟩ := bindS hF554; clear hF554
        have ey557 := e; clear e
        refine callF (spec_spLead_c a553 h555 y557 ey557) (Γi := []) H ⟨Vw.sh 0 rfl, trivial⟩ ?_; clear H ey557
        rintro _ _ w559 ⟨rfl, rfl⟩ (H : Cx w0 fp0 S0 w559 [Es (List Int) a553 h555, Es (List Int) ports_ ports_h, Bx b4 [(.int .i64 0), (.slice none 0 0)], Bx b407 [(.int .i64 ((y9.length : Nat) : Int)), (g537).v], E (List (List Int)) s536 g537, Es (List (List Int)) y410 h413])
        obtain ⟨a560, e, hF561⟩ := bindS hF558; clear hF558
        refine boolO e ?_; clear e
        cases a560
        · have hF562 := condF hF561; clear hF561
          refine heldX H [8, 10, 9] (.fst 0 (.fst 2 (.fst 3 (.fst 4 (.fst 5 (.fst 1 (.act 6 (.act 7 (.act 8 (.act 9 (.act 10 .done))))))))))) mixed [] trivial (by kernel_rfl) ?_
          clear H; intro w563 H
          have hX : Ext w563 w563 := Upd.refl _ _
          have H0 := H
          refine anyH (fun _ => fld gok rfl rfl rfl rfl ⟨rfl, rfl⟩) ?_
          refine lenE (H.rs (α := List Int) 1 rfl).len ?_
          obtain ⟨a564, e, hF565⟩ := bindS hF562; clear hF562
          refine slSX (α := Int) (hi := none) gok rfl rfl H 0 rfl e rfl (congrArg (fun n : Nat => some (n : Int)) (H.rs (α := List Int) 0 rfl).len) ?_; clear e; intro h566 HH; clear H; have H := HH; clear HH
          refine load1X (H.bx 4 rfl (j := 1) rfl) ?_
          obtain ⟨y568, e, hF569⟩ := bindS hF565; clear hF565
          have ey568 := e; clear e
          refine callFx (spec_l1Own_c a564 h566 y568 ey568) H ⟨Vw.sh 0 rfl, trivial⟩ ?_; clear H ey568
          rintro _ _ w570 ⟨h571, rfl, rfl⟩ hx (H : Cx w0 fp0 S0 w570 [E (List Int) y568 h571, Es (List Int) a564 h566, Es (List Int) a553 h555, Es (List Int) ports_ ports_h, Bx b4 [(.int .i64 0), (.slice none 0 0)], Bx b407 [(.int .i64 ((y9.length : Nat) : Int)), (g537).v], E (List (List Int)) s536 g537, Es (List (List Int)) y410 h413])
          replace hX := hX.trans0 hx; clear hx
          refine hold hX ?_
          refine lit1 (α := List Int) (g := h571) gok rfl rfl rfl rfl rfl H ?_; clear H; intro h574 w573 hx H
          replace hX := hX.trans0 hx; clear hx
          refine hold hX ?_
          obtain ⟨a576, e, hF577⟩ := bindS hF569; clear hF569
          replace H := H.sel [6, 0, 1, 2, 3, 4, 5, 7] rfl
          refine append_ (α := List Int) gok rfl rfl rfl rfl H e ?_; clear e H; intro h579 w578 H
          refine hold trivial ?_
          refine fld gok rfl rfl rfl rfl ?_
          refine hold trivial ?_
          replace H := H.sel [5, 0, 1, 2, 3, 4, 6] rfl
          refine stB (j := 1) H rfl rfl ?_; clear H; intro w581 H
          replace H : Cx w0 fp0 S0 w581 [Bx b407 [(.int .i64 ((y9.length : Nat) : Int)), (h579).v], E (List (List Int)) a576 h579, Es (List Int) a564 h566, Es (List Int) a553 h555, Es (List Int) ports_ ports_h, Bx b4 [(.int .i64 0), (.slice none 0 0)], Es (List (List Int)) y410 h413] := H
          refine hold trivial ?_
          refine arK hk hmx539 ?_
          have hs := Option.some.inj hF577; subst hs; clear hF577
          exact ⟨a576, h579, rfl, ⟨rfl, rfl, rfl, rfl, rfl, rfl, trivial⟩, H.sel [4, 5, 0, 1, 6] rfl⟩
        · have hF582 := condT hF561; clear hF561
          refine build_ (cs := #[(.int .i64 0), (.slice none 0 0)]) gok rfl rfl rfl ?_
          replace H := H.sel [2, 0, 1, 3, 4, 5] rfl
          refine stA gok [(.int .i64 0), (.slice none 0 0)] rfl H rfl rfl rfl ?_; clear H; intro w583 H
          replace H : Cx w0 fp0 S0 w583 [Bx b4 [(.int .i64 0), (.slice none 0 0)], Es (List Int) a553 h555, Es (List Int) ports_ ports_h, Bx b407 [(.int .i64 ((y9.length : Nat) : Int)), (g537).v], E (List (List Int)) s536 g537, Es (List (List Int)) y410 h413] := H
          have hs := Option.some.inj hF582; subst hs; clear hF582
          have hr := hrt _ rfl; subst hr
          have hF584 : some _ = some _ := hF541
          refine loadN [(.int .i64 0), (.slice none 0 0)] rfl (fun j u hj => H.bx 0 rfl hj) ?_
          replace H := H.nil (α := List Int)
          cases hF584
          exact ⟨_, _, rfl, ⟨nilH, rfl, rfl⟩, (H.sel [0] rfl).close ⟨cloE, trivial⟩⟩
      · clear H e
        rintro T587 s588 g589 w586 hr (H : Cx w0 fp0 S0 w586 [Es (List Int) ports_ ports_h, Bx b4 [(.int .i64 0), (.slice none 0 0)], Bx b407 [(.int .i64 ((y9.length : Nat) : Int)), (g589).v], E (List (List Int)) s588 g589, Es (List (List Int)) y410 h413])
        subst hr
        refine boolE (z := false) geLen ?_
        refine sq ?_
        refine loadN [(.int .i64 ((y9.length : Nat) : Int)), (g589).v] rfl (fun j u hj => H.bx 2 rfl hj) ?_
        replace H := H.sel [1, 0, 2, 3, 4] rfl
        refine stA gok [(.int .i64 ((y9.length : Nat) : Int)), (g589).v] rfl H rfl rfl rfl ?_; clear H; intro w591 H
        replace H : Cx w0 fp0 S0 w591 [Bx b4 [(.int .i64 ((y9.length : Nat) : Int)), (g589).v], Es (List Int) ports_ ports_h, Bx b407 [(.int .i64 ((y9.length : Nat) : Int)), (g589).v], E (List (List Int)) s588 g589, Es (List (List Int)) y410 h413] := H
        refine loadN [(.int .i64 ((y9.length : Nat) : Int)), (g589).v] rfl (fun j u hj => H.bx 0 rfl hj) ?_
        cases hF541
        exact ⟨_, _, rfl, ⟨g589, rfl, rfl⟩, (H.sel [3] rfl).close ⟨cloE, trivial⟩⟩
  · have hF592 := condT hF7; clear hF7
    refine build_ (cs := #[(.int .i64 0), (.slice none 0 0)]) gok rfl rfl rfl ?_
    refine stA gok [(.int .i64 0), (.slice none 0 0)] rfl H rfl rfl rfl ?_; clear H; intro w593 H
    replace H : Cx w0 fp0 S0 w593 [Bx b4 [(.int .i64 0), (.slice none 0 0)], Es (List (List Int)) basis_ basis_h, Es (List Int) ports_ ports_h] := H
    refine loadN [(.int .i64 0), (.slice none 0 0)] rfl (fun j u hj => H.bx 0 rfl hj) ?_
    replace H := H.nil (α := List Int)
    cases hF592
    exact ⟨_, _, rfl, ⟨nilH, rfl, rfl⟩, (H.sel [0] rfl).close ⟨cloE, trivial⟩⟩

theorem spec_ReplaceablePorts_c (p_ : Int) (r__0 : Int) (r__1 : Int) (r__2 : List (List Int)) (r__2h : Hd) (ports_ : List Int) (ports_h : Hd) (q_ : Int) (y0 : List Int) (y1 : Bool) (hF : F_spec_ReplaceablePorts p_ (r__0, r__1, r__2) ports_ q_ = some (y0, y1)) :
    ConF Tryd.prog 50 #[(.int .i64 p_), (.agg #[(.int .i64 r__0), (.int .i64 r__1), (r__2h).v]), (ports_h).v, (.int .i64 q_)] [Es (List (List Int)) r__2 r__2h, Es (List Int) ports_ ports_h] [] (fun v Γ' => ∃ z0 : Hd, v = (.tuple #[(z0).v, (.bool y1)]) ∧ Γ' = [E (List Int) y0 z0]) := by
  intro w0 S0 fp0 hI hS
  have H : Cx w0 fp0 S0 w0 [Es (List (List Int)) r__2 r__2h, Es (List Int) ports_ ports_h] := Cx.start hI hS
  clear hI hS
  refine enterC (args := [_, _, _, _]) gok Tryd.func50 rfl _ rfl rfl rfl ?_
  refine box_ H ?_; clear H; intro b4 w3 hx H
  clear hx
  replace H : Cx w0 fp0 S0 w3 [Bx b4 [(.int .i64 r__0), (.int .i64 r__1), (r__2h).v], Es (List (List Int)) r__2 r__2h, Es (List Int) ports_ ports_h] := H
  refine fld gok rfl rfl rfl rfl ?_
  refine load1 (H.bx 0 rfl (j := 0) rfl) ?_
  refine fld gok rfl rfl rfl rfl ?_
  refine load1 (H.bx 0 rfl (j := 1) rfl) ?_
  obtain ⟨a6, e, hF7⟩ := bindS hF; clear hF
  refine arW e ?_; clear e
  refine sq ?_
  obtain ⟨r29, hF31, hF30⟩ := bindS hF7; clear hF7
  refine cut (fun (q32 : Bool) => [(0, (.int .i64 p_)), (2, (ports_h).v), (3, (.int .i64 q_)), (5, (.pointer (some ⟨b4, 0, none⟩))), (10, (.int .i64 a6)), (39, (.bool q32))]) (fun (q32 : Bool) w' => q32 = r29 ∧ Cx w0 fp0 S0 w' [Es (List Int) ports_ ports_h, Bx b4 [(.int .i64 r__0), (.int .i64 r__1), (r__2h).v], Es (List (List Int)) r__2 r__2h]) ?_ ?_
  · skip
    refine loadN [(.int .i64 r__0), (.int .i64 r__1), (r__2h).v] rfl (fun j u hj => H.bx 0 rfl hj) ?_
    obtain ⟨y33, e, hF34⟩ := bindS hF31; clear hF31
    have ey33 := e; clear e
    refine callF (spec_riAsked_c p_ r__0 r__1 r__2 r__2h ports_ ports_h y33 ey33) (Γi := []) H ⟨Vw.sh 1 rfl, Vw.sh 2 rfl, trivial⟩ ?_; clear H ey33
    rintro _ _ w35 ⟨rfl, rfl⟩ (H : Cx w0 fp0 S0 w35 [Bx b4 [(.int .i64 r__0), (.int .i64 r__1), (r__2h).v], Es (List (List Int)) r__2 r__2h, Es (List Int) ports_ ports_h])
    obtain ⟨a36, e, hF37⟩ := bindS hF34; clear hF34
    refine boolO e ?_; clear e
    cases a36
    · have hF38 := condF hF37; clear hF37
      obtain ⟨a39, e, hF40⟩ := bindS hF38; clear hF38
      refine arO e ?_; clear e
      obtain ⟨y41, e, hF42⟩ := bindS hF40; clear hF40
      have ey41 := e; clear e
      refine callF (spec_l1In_c q_ 0 a39 y41 ey41) (Γi := []) H trivial ?_; clear H ey41
      rintro _ _ w43 ⟨rfl, rfl⟩ (H : Cx w0 fp0 S0 w43 [Bx b4 [(.int .i64 r__0), (.int .i64 r__1), (r__2h).v], Es (List (List Int)) r__2 r__2h, Es (List Int) ports_ ports_h])
      obtain ⟨a44, e, hF45⟩ := bindS hF42; clear hF42
      refine boolO e ?_; clear e
      cases a44
      · have hF46 := condF hF45; clear hF45
        obtain ⟨y47, e, hF48⟩ := bindS hF46; clear hF46
        have ey47 := e; clear e
        refine callF (spec_l1Has_c ports_ ports_h q_ y47 ey47) (Γi := []) H ⟨Vw.sh 2 rfl, trivial⟩ ?_; clear H ey47
        rintro _ _ w49 ⟨rfl, rfl⟩ (H : Cx w0 fp0 S0 w49 [Bx b4 [(.int .i64 r__0), (.int .i64 r__1), (r__2h).v], Es (List (List Int)) r__2 r__2h, Es (List Int) ports_ ports_h])
        exact ⟨y47, ⟨rfl, rfl, rfl, rfl, rfl, rfl, trivial⟩, Option.some.inj hF48, H.sel [2, 0, 1] rfl⟩
      · have hF50 := condT hF45; clear hF45
        exact ⟨true, ⟨rfl, rfl, rfl, rfl, rfl, rfl, trivial⟩, Option.some.inj hF50, H.sel [2, 0, 1] rfl⟩
    · have hF51 := condT hF37; clear hF37
      exact ⟨true, ⟨rfl, rfl, rfl, rfl, rfl, rfl, trivial⟩, Option.some.inj hF51, H.sel [2, 0, 1] rfl⟩
  · clear hF31 H
    rintro T53 s27 w52 ⟨hr, (H : Cx w0 fp0 S0 w52 [Es (List Int) ports_ ports_h, Bx b4 [(.int .i64 r__0), (.int .i64 r__1), (r__2h).v], Es (List (List Int)) r__2 r__2h])⟩
    subst hr
    cases s27
    · have hF54 := condF hF30; clear hF30
      refine fld gok rfl rfl rfl rfl ?_
      refine load1 (H.bx 1 rfl (j := 2) rfl) ?_
      obtain ⟨y55, e, hF56⟩ := bindS hF54; clear hF54
      obtain ⟨⟨y55_0_0, y55_0_1⟩, y55_1⟩ := y55
      have ey55 := e; clear e
      refine callF (spec_riFunction_c p_ a6 r__2 r__2h ports_ ports_h y55_0_0 y55_0_1 y55_1 ey55) (Γi := []) H ⟨Vw.sh 2 rfl, Vw.sh 0 rfl, trivial⟩ ?_; clear H ey55
      rintro _ _ w57 ⟨h58, rfl, rfl⟩ (H : Cx w0 fp0 S0 w57 [E (List (List Int)) y55_0_1 h58, Es (List Int) ports_ ports_h, Bx b4 [(.int .i64 r__0), (.int .i64 r__1), (r__2h).v], Es (List (List Int)) r__2 r__2h])
      refine alloc_ gok rfl H ?_; clear H; intro b61 w60 hx H
      clear hx
      replace H : Cx w0 fp0 S0 w60 [Bx b61 [(.int .i64 0), (.slice none 0 0)], E (List (List Int)) y55_0_1 h58, Es (List Int) ports_ ports_h, Bx b4 [(.int .i64 r__0), (.int .i64 r__1), (r__2h).v], Es (List (List Int)) r__2 r__2h] := H
      refine stA gok [(.int .i64 y55_0_0), (h58).v] rfl H rfl rfl rfl ?_; clear H; intro w63 H
      replace H : Cx w0 fp0 S0 w63 [Bx b61 [(.int .i64 y55_0_0), (h58).v], E (List (List Int)) y55_0_1 h58, Es (List Int) ports_ ports_h, Bx b4 [(.int .i64 r__0), (.int .i64 r__1), (r__2h).v], Es (List (List Int)) r__2 r__2h] := H
      refine sq ?_
      obtain ⟨a64, e, hF65⟩ := bindS hF56; clear hF56
      refine boolO e ?_; clear e
      cases a64
      · have hF66 := condF hF65; clear hF65
        refine sq ?_
        refine lenE (H.rs (α := List Int) 2 rfl).len ?_
        have hmx578 := (H.rs (α := List Int) 2 rfl).max
        obtain ⟨r579, e, hF580⟩ := bindS hF66; clear hF66
        replace H := H.nil (α := Int)
        refine loopS _ ports_.length (fun (k67 : Nat) (s575 : List Int) (g576 : Hd) => [(2, (ports_h).v), (3, (.int .i64 q_)), (10, (.int .i64 a6)), (11, (.pointer (some ⟨b61, 0, none⟩))), (13, (g576).v), (51, (ports_h).v), (52, (.int .i64 ((ports_.length : Nat) : Int))), (53, (.int .i64 ((k67 : Nat) : Int)))]) (fun _ (s575 : List Int) (g576 : Hd) w' => Cx w0 fp0 S0 w' [Es (List Int) ports_ ports_h, Bx b61 [(.int .i64 y55_0_0), (h58).v], E (List (List Int)) y55_0_1 h58, E (List Int) s575 g576]) [] nilH e ⟨rfl, rfl, rfl, rfl, rfl, rfl, rfl, rfl, trivial⟩ (H.sel [3, 1, 2, 0] rfl) ?_ ?_
        · clear H e
          rintro T583 k67 s575 g576 w582 o584 hk (H : Cx w0 fp0 S0 w582 [Es (List Int) ports_ ports_h, Bx b61 [(.int .i64 y55_0_0), (h58).v], E (List (List Int)) y55_0_1 h58, E (List Int) s575 g576]) hF585
          refine boolE (z := true) (ltLen hk) ?_
          refine sq ?_
          refine sq ?_
          obtain ⟨a592, e, hF593⟩ := bindS hF585; clear hF585
          obtain ⟨p590, m591, c586, c587, c588, c589⟩ := (H.rs (α := List Int) 0 rfl).at1 e; clear e
          refine idxE c586 c587 c588 ?_; clear c586 c587 c588
          refine load1 c589 ?_; clear c589
          obtain ⟨y594, e, hF595⟩ := bindS hF593; clear hF593
          have ey594 := e; clear e
          refine callF (spec_riRest_c ports_ ports_h a6 y594 ey594) (Γi := []) H ⟨Vw.sh 0 rfl, trivial⟩ ?_; clear H ey594
          rintro _ _ w596 ⟨h597, rfl, rfl⟩ (H : Cx w0 fp0 S0 w596 [E (List Int) y594 h597, Es (List Int) ports_ ports_h, Bx b61 [(.int .i64 y55_0_0), (h58).v], E (List (List Int)) y55_0_1 h58, E (List Int) s575 g576])
          refine lenE (H.ro (α := List Int) 0 rfl).len ?_
          have hmx752 := (H.ro (α := List Int) 0 rfl).max
          obtain ⟨r753, e, hF754⟩ := bindS hF595; clear hF595
          refine loopS _ y594.length (fun (k599 : Nat) (s749 : List Int) (g750 : Hd) => [(2, (ports_h).v), (3, (.int .i64 q_)), (10, (.int .i64 a6)), (11, (.pointer (some ⟨b61, 0, none⟩))), (13, (g750).v), (14, (.int .i64 ((k67 : Nat) : Int))), (15, (.int .i64 a592)), (51, (ports_h).v), (52, (.int .i64 ((ports_.length : Nat) : Int))), (53, (.int .i64 ((k67 : Nat) : Int))), (60, (h597).v), (61, (.int .i64 ((y594.length : Nat) : Int))), (62, (.int .i64 ((k599 : Nat) : Int)))]) (fun _ (s749 : List Int) (g750 : Hd) w' => Cx w0 fp0 S0 w' [Es (List Int) ports_ ports_h, Bx b61 [(.int .i64 y55_0_0), (h58).v], E (List (List Int)) y55_0_1 h58, E (List Int) s749 g750, E (List Int) y594 h597]) s575 g576 e ⟨rfl, rfl, rfl, rfl, rfl, rfl, rfl, rfl, rfl, rfl, rfl, rfl, rfl, trivial⟩ (H.sel [1, 2, 3, 4, 0] rfl) ?_ ?_
          · clear H e
            rintro T756 k599 s749 g750 w755 o757 hk (H : Cx w0 fp0 S0 w755 [Es (List Int) ports_ ports_h, Bx b61 [(.int .i64 y55_0_0), (h58).v], E (List (List Int)) y55_0_1 h58, E (List Int) s749 g750, E (List Int) y594 h597]) hF758
            refine boolE (z := true) (ltLen hk) ?_
            refine sq ?_
            refine sq ?_
            obtain ⟨a765, e, hF766⟩ := bindS hF758; clear hF758
            obtain ⟨p763, m764, c759, c760, c761, c762⟩ := (H.ro (α := List Int) 4 rfl).at1 e; clear e
            refine idxE c759 c760 c761 ?_; clear c759 c760 c761
            refine load1 c762 ?_; clear c762
            obtain ⟨r792, hF794, hF793⟩ := bindS hF766; clear hF766
            refine cut (fun (q795 : Bool) => [(2, (ports_h).v), (3, (.int .i64 q_)), (10, (.int .i64 a6)), (11, (.pointer (some ⟨b61, 0, none⟩))), (13, (g750).v), (14, (.int .i64 ((k67 : Nat) : Int))), (15, (.int .i64 a592)), (51, (ports_h).v), (52, (.int .i64 ((ports_.length : Nat) : Int))), (53, (.int .i64 ((k67 : Nat) : Int))), (60, (h597).v), (61, (.int .i64 ((y594.length : Nat) : Int))), (62, (.int .i64 ((k599 : Nat) : Int))), (80, (.bool q795))]) (fun (q795 : Bool) w' => q795 = r792 ∧ Cx w0 fp0 S0 w' [Es (List Int) ports_ ports_h, Bx b61 [(.int .i64 y55_0_0), (h58).v], E (List (List Int)) y55_0_1 h58, E (List Int) s749 g750, E (List Int) y594 h597]) ?_ ?_
            · skip
              obtain ⟨a796, e, hF797⟩ := bindS hF794; clear hF794
              refine boolO e ?_; clear e
              cases a796
              · have hF798 := condF hF797; clear hF797
                exact ⟨false, ⟨rfl, rfl, rfl, rfl, rfl, rfl, rfl, rfl, rfl, rfl, rfl, rfl, rfl, rfl, trivial⟩, Option.some.inj hF798, H.sel [0, 1, 2, 3, 4] rfl⟩
              · have hF799 := condT hF797; clear hF797
                refine fld gok rfl rfl rfl rfl ?_
                refine load1 (H.bx 1 rfl (j := 1) rfl) ?_
                obtain ⟨a806, e, hF807⟩ := bindS hF799; clear hF799
                replace H := H.sel [2, 0, 1, 3, 4] rfl
                replace H := H.toEH (α := List Int)
                have HH := H; clear H; obtain ⟨p804, m805, h808, c800, c801, c802, c803, H⟩ := HH.peekL e; clear HH
                clear e
                refine idxE c800 c801 c802 ?_
                refine load1 c803 ?_; clear c803
                obtain ⟨a815, e, hF816⟩ := bindS hF807; clear hF807
                obtain ⟨p813, m814, c809, c810, c811, c812⟩ := (H.rh (α := List Int) 0 rfl 0 rfl).at1 e; clear e
                refine idxE c809 c810 c811 ?_; clear c809 c810 c811
                refine load1 c812 ?_; clear c812
                obtain ⟨a817, e, hF818⟩ := bindS hF816; clear hF816
                refine boolO e ?_; clear e
                replace H := H.ofEH
                exact ⟨a817, ⟨rfl, rfl, rfl, rfl, rfl, rfl, rfl, rfl, rfl, rfl, rfl, rfl, rfl, rfl, trivial⟩, Option.some.inj hF818, H.sel [1, 2, 0, 3, 4] rfl⟩
            · clear hF794 H
              rintro T820 s790 w819 ⟨hr, (H : Cx w0 fp0 S0 w819 [Es (List Int) ports_ ports_h, Bx b61 [(.int .i64 y55_0_0), (h58).v], E (List (List Int)) y55_0_1 h58, E (List Int) s749 g750, E (List Int) y594 h597])⟩
              subst hr
              cases s790
              · have hF821 := condF hF793; clear hF793
                refine arK hk hmx752 ?_
                have hs := Option.some.inj hF821; subst hs; clear hF821
                exact ⟨g750, ⟨rfl, rfl, rfl, rfl, rfl, rfl, rfl, rfl, rfl, rfl, rfl, rfl, rfl, trivial⟩, H.sel [0, 1, 2, 3, 4] rfl⟩
              · have hF822 := condT hF793; clear hF793
                refine lit1S (α := Int) gok rfl rfl rfl rfl H ?_; clear H; intro h824 w823 hx H
                clear hx
                obtain ⟨a826, e, hF827⟩ := bindS hF822; clear hF822
                replace H := H.sel [4, 0, 1, 2, 3, 5] rfl
                refine append_ (α := Int) gok rfl rfl rfl rfl H e ?_; clear e H; intro h829 w828 H
                refine arK hk hmx752 ?_
                have hs := Option.some.inj hF827; subst hs; clear hF827
                exact ⟨h829, ⟨rfl, rfl, rfl, rfl, rfl, rfl, rfl, rfl, rfl, rfl, rfl, rfl, rfl, trivial⟩, H.sel [1, 2, 3, 0, 4] rfl⟩
          · clear H e
            rintro T832 g834 w831 (H : Cx w0 fp0 S0 w831 [Es (List Int) ports_ ports_h, Bx b61 [(.int .i64 y55_0_0), (h58).v], E (List (List Int)) y55_0_1 h58, E (List Int) r753 g834, E (List Int) y594 h597])
            refine boolE (z := false) geLen ?_
            refine sq ?_
            refine arK hk hmx578 ?_
            have hs := Option.some.inj hF754; subst hs; clear hF754
            exact ⟨g834, ⟨rfl, rfl, rfl, rfl, rfl, rfl, rfl, rfl, trivial⟩, H.sel [0, 1, 2, 3] rfl⟩
        · clear H e
          rintro T837 g839 w836 (H : Cx w0 fp0 S0 w836 [Es (List Int) ports_ ports_h, Bx b61 [(.int .i64 y55_0_0), (h58).v], E (List (List Int)) y55_0_1 h58, E (List Int) r579 g839])
          refine boolE (z := false) geLen ?_
          refine sq ?_
          cases hF580
          exact ⟨_, _, rfl, ⟨g839, rfl, rfl⟩, (H.sel [3] rfl).close ⟨cloE, trivial⟩⟩
      · have hF841 := condT hF65; clear hF65
        replace H := H.nil (α := Int)
        cases hF841
        exact ⟨_, _, rfl, ⟨nilH, rfl, rfl⟩, (H.sel [0] rfl).close ⟨cloE, trivial⟩⟩
    · have hF843 := condT hF30; clear hF30
      replace H := H.nil (α := Int)
      cases hF843
      exact ⟨_, _, rfl, ⟨nilH, rfl, rfl⟩, (H.sel [0] rfl).close ⟨cloE, trivial⟩⟩

theorem impl_isField_c (p_ : Int) (y : Bool) (hF : F_impl_isField p_ = some y) :
    ConF Tryd.prog 135 #[(.int .i64 p_)] [Gl 0 [.int .i64 2, .int .i64 3, .int .i64 5, .int .i64 7]] [] (fun v Γ' => v = (.bool y) ∧ Γ' = []) := by
  intro w0 S0 fp0 hI hS
  have H : Cx w0 fp0 S0 w0 [Gl 0 [.int .i64 2, .int .i64 3, .int .i64 5, .int .i64 7]] := Cx.start hI hS
  clear hI hS
  refine enterC (args := [_]) gok Tryd.func135 rfl _ rfl rfl rfl ?_
  refine sq ?_
  obtain ⟨r10, hF12, hF11⟩ := bindS hF; clear hF
  refine cut (fun (q13 : Bool) => [(0, (.int .i64 p_)), (10, (.bool q13))]) (fun (q13 : Bool) w' => q13 = r10 ∧ Cx w0 fp0 S0 w' [Gl 0 [.int .i64 2, .int .i64 3, .int .i64 5, .int .i64 7]]) ?_ ?_
  · skip
    obtain ⟨a14, e, hF15⟩ := bindS hF12; clear hF12
    refine boolO e ?_; clear e
    cases a14
    · have hF16 := condF hF15; clear hF15
      obtain ⟨a17, e, hF18⟩ := bindS hF16; clear hF16
      refine boolO e ?_; clear e
      exact ⟨a17, ⟨rfl, rfl, trivial⟩, Option.some.inj hF18, H.sel [0] rfl⟩
    · have hF19 := condT hF15; clear hF15
      exact ⟨true, ⟨rfl, rfl, trivial⟩, Option.some.inj hF19, H.sel [0] rfl⟩
  · clear hF12 H
    rintro T21 s8 w20 ⟨hr, (H : Cx w0 fp0 S0 w20 [Gl 0 [.int .i64 2, .int .i64 3, .int .i64 5, .int .i64 7]])⟩
    subst hr
    cases s8
    · have hF22 := condF hF11; clear hF11
      refine sq ?_
      refine loadN [.int .i64 2, .int .i64 3, .int .i64 5, .int .i64 7] rfl (H.gl 0 rfl) ?_
      obtain ⟨a56, hn, hF57⟩ := bindS hF22; clear hF22
      obtain ⟨r59, e, hF60⟩ := bindS hF57; clear hF57
      refine loopO _ ((4 : Int).toNat) (fun (k23 : Nat) (_ : Unit) (_ : Unit) => [(0, (.int .i64 p_)), (11, (.agg #[.int .i64 2, .int .i64 3, .int .i64 5, .int .i64 7])), (12, (.int .i64 ((k23 : Nat) : Int)))]) (fun _ (_ : Unit) (_ : Unit) w' => Cx w0 fp0 S0 w' [Gl 0 [.int .i64 2, .int .i64 3, .int .i64 5, .int .i64 7]]) () () e ⟨rfl, rfl, rfl, trivial⟩ (H.sel [0] rfl) ?_ ?_
      · clear H e
        rintro T62 k23 _ _ w61 o63 hk (H : Cx w0 fp0 S0 w61 [Gl 0 [.int .i64 2, .int .i64 3, .int .i64 5, .int .i64 7]]) hrt hF64
        refine boolE (z := true) (ltNat hk) ?_
        refine sq ?_
        refine sq ?_
        obtain ⟨a65, e, hF66⟩ := bindS hF64; clear hF64
        refine indexI gok rfl rfl rfl rfl rfl e ?_; clear e
        obtain ⟨r77, hF79, hF78⟩ := bindS hF66; clear hF66
        refine cut (fun (q80 : Bool) => [(0, (.int .i64 p_)), (11, (.agg #[.int .i64 2, .int .i64 3, .int .i64 5, .int .i64 7])), (12, (.int .i64 ((k23 : Nat) : Int))), (23, (.bool q80))]) (fun (q80 : Bool) w' => q80 = r77 ∧ Cx w0 fp0 S0 w' [Gl 0 [.int .i64 2, .int .i64 3, .int .i64 5, .int .i64 7]]) ?_ ?_
        · skip
          obtain ⟨a81, e, hF82⟩ := bindS hF79; clear hF79
          refine remO_ e ?_; clear e
          obtain ⟨a83, e, hF84⟩ := bindS hF82; clear hF82
          refine boolO e ?_; clear e
          cases a83
          · have hF85 := condF hF84; clear hF84
            exact ⟨false, ⟨rfl, rfl, rfl, rfl, trivial⟩, Option.some.inj hF85, H.sel [0] rfl⟩
          · have hF86 := condT hF84; clear hF84
            obtain ⟨a87, e, hF88⟩ := bindS hF86; clear hF86
            refine boolO e ?_; clear e
            exact ⟨a87, ⟨rfl, rfl, rfl, rfl, trivial⟩, Option.some.inj hF88, H.sel [0] rfl⟩
        · clear hF79 H
          rintro T90 s75 w89 ⟨hr, (H : Cx w0 fp0 S0 w89 [Gl 0 [.int .i64 2, .int .i64 3, .int .i64 5, .int .i64 7]])⟩
          subst hr
          cases s75
          · have hF91 := condF hF78; clear hF78
            refine arK hk (maxI hn) ?_
            have hs := Option.some.inj hF91; subst hs; clear hF91
            exact ⟨(), (), rfl, ⟨rfl, rfl, rfl, trivial⟩, H.sel [0] rfl⟩
          · have hF92 := condT hF78; clear hF78
            have hs := Option.some.inj hF92; subst hs; clear hF92
            have hr := hrt _ rfl; subst hr
            have hF93 : some _ = some _ := hF60
            cases hF93
            exact ⟨_, _, rfl, ⟨rfl, rfl⟩, (H.sel [] rfl).close trivial⟩
      · clear H e
        rintro T95 _ _ w94 hr (H : Cx w0 fp0 S0 w94 [Gl 0 [.int .i64 2, .int .i64 3, .int .i64 5, .int .i64 7]])
        subst hr
        refine boolE (z := false) geNat ?_
        refine sq ?_
        cases hF60
        exact ⟨_, _, rfl, ⟨rfl, rfl⟩, (H.sel [] rfl).close trivial⟩
    · have hF98 := condT hF11; clear hF11
      cases hF98
      exact ⟨_, _, rfl, ⟨rfl, rfl⟩, (H.sel [] rfl).close trivial⟩

theorem impl_within_c (n_ : Int) (low_ : Int) (high_ : Int) (y : Bool) (hF : F_impl_within n_ low_ high_ = some y) :
    ConF Tryd.prog 111 #[(.int .i64 n_), (.int .i64 low_), (.int .i64 high_)] [] [] (fun v Γ' => v = (.bool y) ∧ Γ' = []) := by
  intro w0 S0 fp0 hI hS
  have H : Cx w0 fp0 S0 w0 [] := Cx.start hI hS
  clear hI hS
  refine enterC (args := [_, _, _]) gok Tryd.func111 rfl _ rfl rfl rfl ?_
  obtain ⟨r9, hF11, hF10⟩ := bindS hF; clear hF
  refine cut (fun (q12 : Bool) => [(6, (.bool q12))]) (fun (q12 : Bool) w' => q12 = r9 ∧ Cx w0 fp0 S0 w' []) ?_ ?_
  · skip
    obtain ⟨a13, e, hF14⟩ := bindS hF11; clear hF11
    refine boolO e ?_; clear e
    cases a13
    · have hF15 := condF hF14; clear hF14
      exact ⟨false, ⟨rfl, trivial⟩, Option.some.inj hF15, H.sel [] rfl⟩
    · have hF16 := condT hF14; clear hF14
      obtain ⟨a17, e, hF18⟩ := bindS hF16; clear hF16
      refine boolO e ?_; clear e
      exact ⟨a17, ⟨rfl, trivial⟩, Option.some.inj hF18, H.sel [] rfl⟩
  · clear hF11 H
    rintro T20 s7 w19 ⟨hr, (H : Cx w0 fp0 S0 w19 [])⟩
    subst hr
    cases hF10
    exact ⟨_, _, rfl, ⟨rfl, rfl⟩, (H.sel [] rfl).close trivial⟩

theorem impl_fits_c (left_ : Int) (right_ : Int) (y : Bool) (hF : F_impl_fits left_ right_ = some y) :
    ConF Tryd.prog 86 #[(.int .i64 left_), (.int .i64 right_)] [] [] (fun v Γ' => v = (.bool y) ∧ Γ' = []) := by
  intro w0 S0 fp0 hI hS
  have H : Cx w0 fp0 S0 w0 [] := Cx.start hI hS
  clear hI hS
  refine enterC (args := [_, _]) gok Tryd.func86 rfl _ rfl rfl rfl ?_
  obtain ⟨r17, hF19, hF18⟩ := bindS hF; clear hF
  refine cut (fun (q20 : Bool) => [(4, (.bool q20))]) (fun (q20 : Bool) w' => q20 = r17 ∧ Cx w0 fp0 S0 w' []) ?_ ?_
  · skip
    obtain ⟨y21, e, hF22⟩ := bindS hF19; clear hF19
    have ey21 := e; clear e
    refine callF (impl_within_c left_ 0 24 y21 ey21) (Γi := []) H trivial ?_; clear H ey21
    rintro _ _ w23 ⟨rfl, rfl⟩ (H : Cx w0 fp0 S0 w23 [])
    cases y21
    · have hF24 := condF hF22; clear hF22
      exact ⟨false, ⟨rfl, trivial⟩, Option.some.inj hF24, H.sel [] rfl⟩
    · have hF25 := condT hF22; clear hF22
      obtain ⟨y26, e, hF27⟩ := bindS hF25; clear hF25
      have ey26 := e; clear e
      refine callF (impl_within_c right_ 0 24 y26 ey26) (Γi := []) H trivial ?_; clear H ey26
      rintro _ _ w28 ⟨rfl, rfl⟩ (H : Cx w0 fp0 S0 w28 [])
      cases y26
      · have hF29 := condF hF27; clear hF27
        exact ⟨false, ⟨rfl, trivial⟩, Option.some.inj hF29, H.sel [] rfl⟩
      · have hF30 := condT hF27; clear hF27
        obtain ⟨a31, e, hF32⟩ := bindS hF30; clear hF30
        refine arO e ?_; clear e
        obtain ⟨a33, e, hF34⟩ := bindS hF32; clear hF32
        refine boolO e ?_; clear e
        exact ⟨a33, ⟨rfl, trivial⟩, Option.some.inj hF34, H.sel [] rfl⟩
  · clear hF19 H
    rintro T36 s15 w35 ⟨hr, (H : Cx w0 fp0 S0 w35 [])⟩
    subst hr
    cases hF18
    exact ⟨_, _, rfl, ⟨rfl, rfl⟩, (H.sel [] rfl).close trivial⟩

theorem impl_isElement_c (p_ : Int) (a_ : Int) (y : Bool) (hF : F_impl_isElement p_ a_ = some y) :
    ConF Tryd.prog 193 #[(.int .i64 p_), (.int .i64 a_)] [] [] (fun v Γ' => v = (.bool y) ∧ Γ' = []) := by
  intro w0 S0 fp0 hI hS
  have H : Cx w0 fp0 S0 w0 [] := Cx.start hI hS
  clear hI hS
  refine enterC (args := [_, _]) gok Tryd.func193 rfl _ rfl rfl rfl ?_
  obtain ⟨r9, hF11, hF10⟩ := bindS hF; clear hF
  refine cut (fun (q12 : Bool) => [(4, (.bool q12))]) (fun (q12 : Bool) w' => q12 = r9 ∧ Cx w0 fp0 S0 w' []) ?_ ?_
  · skip
    obtain ⟨a13, e, hF14⟩ := bindS hF11; clear hF11
    refine boolO e ?_; clear e
    cases a13
    · have hF15 := condF hF14; clear hF14
      exact ⟨false, ⟨rfl, trivial⟩, Option.some.inj hF15, H.sel [] rfl⟩
    · have hF16 := condT hF14; clear hF14
      obtain ⟨a17, e, hF18⟩ := bindS hF16; clear hF16
      refine boolO e ?_; clear e
      exact ⟨a17, ⟨rfl, trivial⟩, Option.some.inj hF18, H.sel [] rfl⟩
  · clear hF11 H
    rintro T20 s7 w19 ⟨hr, (H : Cx w0 fp0 S0 w19 [])⟩
    subst hr
    cases hF10
    exact ⟨_, _, rfl, ⟨rfl, rfl⟩, (H.sel [] rfl).close trivial⟩

theorem impl_isVector_c (p_ : Int) (v_ : List Int) (v_h : Hd) (n_ : Int) (y : Bool) (hF : F_impl_isVector p_ v_ n_ = some y) :
    ConF Tryd.prog 174 #[(.int .i64 p_), (v_h).v, (.int .i64 n_)] [Es (List Int) v_ v_h] [] (fun v Γ' => v = (.bool y) ∧ Γ' = []) := by
  intro w0 S0 fp0 hI hS
  have H : Cx w0 fp0 S0 w0 [Es (List Int) v_ v_h] := Cx.start hI hS
  clear hI hS
  refine enterC (args := [_, _, _]) gok Tryd.func174 rfl _ rfl rfl rfl ?_
  refine sq ?_
  refine lenE (H.rs (α := List Int) 0 rfl).len ?_
  obtain ⟨a2, e, hF3⟩ := bindS hF; clear hF
  refine boolO e ?_; clear e
  cases a2
  · have hF4 := condF hF3; clear hF3
    refine sq ?_
    refine lenE (H.rs (α := List Int) 0 rfl).len ?_
    have hmx25 := (H.rs (α := List Int) 0 rfl).max
    obtain ⟨r26, e, hF27⟩ := bindS hF4; clear hF4
    refine loopO _ v_.length (fun (k5 : Nat) (_ : Unit) (_ : Unit) => [(0, (.int .i64 p_)), (13, (v_h).v), (14, (.int .i64 ((v_.length : Nat) : Int))), (15, (.int .i64 ((k5 : Nat) : Int)))]) (fun _ (_ : Unit) (_ : Unit) w' => Cx w0 fp0 S0 w' [Es (List Int) v_ v_h]) () () e ⟨rfl, rfl, rfl, rfl, trivial⟩ (H.sel [0] rfl) ?_ ?_
    · clear H e
      rintro T29 k5 _ _ w28 o30 hk (H : Cx w0 fp0 S0 w28 [Es (List Int) v_ v_h]) hrt hF31
      refine boolE (z := true) (ltLen hk) ?_
      refine sq ?_
      refine sq ?_
      obtain ⟨a38, e, hF39⟩ := bindS hF31; clear hF31
      obtain ⟨p36, m37, c32, c33, c34, c35⟩ := (H.rs (α := List Int) 0 rfl).at1 e; clear e
      refine idxE c32 c33 c34 ?_; clear c32 c33 c34
      refine load1 c35 ?_; clear c35
      obtain ⟨y40, e, hF41⟩ := bindS hF39; clear hF39
      have ey40 := e; clear e
      refine callF (impl_isElement_c p_ a38 y40 ey40) (Γi := []) H trivial ?_; clear H ey40
      rintro _ _ w42 ⟨rfl, rfl⟩ (H : Cx w0 fp0 S0 w42 [Es (List Int) v_ v_h])
      obtain ⟨a43, e, hF44⟩ := bindS hF41; clear hF41
      refine boolO e ?_; clear e
      cases a43
      · have hF45 := condF hF44; clear hF44
        refine arK hk hmx25 ?_
        have hs := Option.some.inj hF45; subst hs; clear hF45
        exact ⟨(), (), rfl, ⟨rfl, rfl, rfl, rfl, trivial⟩, H.sel [0] rfl⟩
      · have hF46 := condT hF44; clear hF44
        have hs := Option.some.inj hF46; subst hs; clear hF46
        have hr := hrt _ rfl; subst hr
        have hF47 : some _ = some _ := hF27
        cases hF47
        exact ⟨_, _, rfl, ⟨rfl, rfl⟩, (H.sel [] rfl).close trivial⟩
    · clear H e
      rintro T49 _ _ w48 hr (H : Cx w0 fp0 S0 w48 [Es (List Int) v_ v_h])
      subst hr
      refine boolE (z := false) geLen ?_
      refine sq ?_
      cases hF27
      exact ⟨_, _, rfl, ⟨rfl, rfl⟩, (H.sel [] rfl).close trivial⟩
  · have hF52 := condT hF3; clear hF3
    cases hF52
    exact ⟨_, _, rfl, ⟨rfl, rfl⟩, (H.sel [] rfl).close trivial⟩

theorem impl_areVectors_c (p_ : Int) (rows_ : List (List Int)) (rows_h : Hd) (n_ : Int) (y : Bool) (hF : F_impl_areVectors p_ rows_ n_ = some y) :
    ConF Tryd.prog 137 #[(.int .i64 p_), (rows_h).v, (.int .i64 n_)] [Es (List (List Int)) rows_ rows_h] [] (fun v Γ' => v = (.bool y) ∧ Γ' = []) := by
  intro w0 S0 fp0 hI hS
  have H : Cx w0 fp0 S0 w0 [Es (List (List Int)) rows_ rows_h] := Cx.start hI hS
  clear hI hS
  refine enterC (args := [_, _, _]) gok Tryd.func137 rfl _ rfl rfl rfl ?_
  refine sq ?_
  refine lenE (H.rs (α := List (List Int)) 0 rfl).len ?_
  have hmx24 := (H.rs (α := List (List Int)) 0 rfl).max
  obtain ⟨r25, e, hF26⟩ := bindS hF; clear hF
  refine loopO _ rows_.length (fun (k2 : Nat) (_ : Unit) (_ : Unit) => [(0, (.int .i64 p_)), (2, (.int .i64 n_)), (9, (rows_h).v), (10, (.int .i64 ((rows_.length : Nat) : Int))), (11, (.int .i64 ((k2 : Nat) : Int)))]) (fun _ (_ : Unit) (_ : Unit) w' => Cx w0 fp0 S0 w' [Es (List (List Int)) rows_ rows_h]) () () e ⟨rfl, rfl, rfl, rfl, rfl, trivial⟩ (H.sel [0] rfl) ?_ ?_
  · clear H e
    rintro T28 k2 _ _ w27 o29 hk (H : Cx w0 fp0 S0 w27 [Es (List (List Int)) rows_ rows_h]) hrt hF30
    refine boolE (z := true) (ltLen hk) ?_
    refine sq ?_
    refine sq ?_
    obtain ⟨a37, e, hF38⟩ := bindS hF30; clear hF30
    have HH := H; clear H; obtain ⟨p35, m36, h39, c31, c32, c33, c34, H⟩ := HH.elL 0 rfl e; clear HH
    clear e
    refine idxE c31 c32 c33 ?_; clear c31 c32 c33
    refine load1 c34 ?_; clear c34
    obtain ⟨y41, e, hF42⟩ := bindS hF38; clear hF38
    have ey41 := e; clear e
    refine callF (impl_isVector_c p_ a37 h39 n_ y41 ey41) (Γi := []) H ⟨Vw.sh 0 rfl, trivial⟩ ?_; clear H ey41
    rintro _ _ w43 ⟨rfl, rfl⟩ (H : Cx w0 fp0 S0 w43 [Es (List Int) a37 h39, Es (List (List Int)) rows_ rows_h])
    obtain ⟨a44, e, hF45⟩ := bindS hF42; clear hF42
    refine boolO e ?_; clear e
    cases a44
    · have hF46 := condF hF45; clear hF45
      refine arK hk hmx24 ?_
      have hs := Option.some.inj hF46; subst hs; clear hF46
      exact ⟨(), (), rfl, ⟨rfl, rfl, rfl, rfl, rfl, trivial⟩, H.sel [1] rfl⟩
    · have hF47 := condT hF45; clear hF45
      have hs := Option.some.inj hF47; subst hs; clear hF47
      have hr := hrt _ rfl; subst hr
      have hF48 : some _ = some _ := hF26
      cases hF48
      exact ⟨_, _, rfl, ⟨rfl, rfl⟩, (H.sel [] rfl).close trivial⟩
  · clear H e
    rintro T50 _ _ w49 hr (H : Cx w0 fp0 S0 w49 [Es (List (List Int)) rows_ rows_h])
    subst hr
    refine boolE (z := false) geLen ?_
    refine sq ?_
    cases hF26
    exact ⟨_, _, rfl, ⟨rfl, rfl⟩, (H.sel [] rfl).close trivial⟩

theorem impl_clone_c (list_ : List Int) (list_h : Hd) (y : List Int) (hF : F_impl_clone list_ = some y) :
    ConF Tryd.prog 172 #[(list_h).v] [Es (List Int) list_ list_h] [] (fun v Γ' => ∃ z0 : Hd, v = (z0).v ∧ Γ' = [E (List Int) y z0]) := by
  intro w0 S0 fp0 hI hS
  have H : Cx w0 fp0 S0 w0 [Es (List Int) list_ list_h] := Cx.start hI hS
  clear hI hS
  refine enterC (args := [_]) gok Tryd.func172 rfl _ rfl rfl rfl ?_
  refine lit0 (α := Int) gok rfl rfl H ?_; clear H; intro h3 w2 hx H
  clear hx
  obtain ⟨a5, e, hF6⟩ := bindS hF; clear hF
  refine appendS (α := Int) gok rfl rfl rfl rfl H (Vw.sh 0 rfl) e ?_; clear e H; intro h8 w7 H
  cases hF6
  exact ⟨_, _, rfl, ⟨h8, rfl, rfl⟩, (H.sel [0] rfl).close ⟨cloE, trivial⟩⟩

theorem impl_clones_c (list_ : List (List Int)) (list_h : Hd) (y : List (List Int)) (hF : F_impl_clones list_ = some y) :
    ConF Tryd.prog 138 #[(list_h).v] [Es (List (List Int)) list_ list_h] [] (fun v Γ' => ∃ z0 : Hd, v = (z0).v ∧ Γ' = [E (List (List Int)) y z0]) := by
  intro w0 S0 fp0 hI hS
  have H : Cx w0 fp0 S0 w0 [Es (List (List Int)) list_ list_h] := Cx.start hI hS
  clear hI hS
  refine enterC (args := [_]) gok Tryd.func138 rfl _ rfl rfl rfl ?_
  refine lenE (H.rs (α := List (List Int)) 0 rfl).len ?_
  obtain ⟨a2, e, hF3⟩ := bindS hF; clear hF
  refine make_ (α := List Int) gok rfl rfl rfl rfl e H ?_; clear e H; intro h5 w4 hx H
  clear hx
  refine sq ?_
  refine lenE (H.rs (α := List (List Int)) 1 rfl).len ?_
  have hmx62 := (H.rs (α := List (List Int)) 1 rfl).max
  obtain ⟨r63, e, hF64⟩ := bindS hF3; clear hF3
  refine loopS _ list_.length (fun (k7 : Nat) (s59 : List (List Int)) (g60 : Hd) => [(3, (g60).v), (9, (list_h).v), (10, (.int .i64 ((list_.length : Nat) : Int))), (11, (.int .i64 ((k7 : Nat) : Int)))]) (fun _ (s59 : List (List Int)) (g60 : Hd) w' => Cx w0 fp0 S0 w' [E (List (List Int)) s59 g60, Es (List (List Int)) list_ list_h]) a2 h5 e ⟨rfl, rfl, rfl, rfl, trivial⟩ (H.sel [0, 1] rfl) ?_ ?_
  · clear H e
    rintro T66 k7 s59 g60 w65 o67 hk (H : Cx w0 fp0 S0 w65 [E (List (List Int)) s59 g60, Es (List (List Int)) list_ list_h]) hF68
    refine boolE (z := true) (ltLen hk) ?_
    refine sq ?_
    refine sq ?_
    obtain ⟨a75, e, hF76⟩ := bindS hF68; clear hF68
    have HH := H; clear H; obtain ⟨p73, m74, h77, c69, c70, c71, c72, H⟩ := HH.elL 1 rfl e; clear HH
    clear e
    refine idxE c69 c70 c71 ?_; clear c69 c70 c71
    refine load1 c72 ?_; clear c72
    obtain ⟨y79, e, hF80⟩ := bindS hF76; clear hF76
    have ey79 := e; clear e
    refine callF (impl_clone_c a75 h77 y79 ey79) (Γi := []) H ⟨Vw.sh 0 rfl, trivial⟩ ?_; clear H ey79
    rintro _ _ w81 ⟨h82, rfl, rfl⟩ (H : Cx w0 fp0 S0 w81 [E (List Int) y79 h82, Es (List Int) a75 h77, E (List (List Int)) s59 g60, Es (List (List Int)) list_ list_h])
    refine lit1 (α := List Int) (g := h82) gok rfl rfl rfl rfl rfl H ?_; clear H; intro h85 w84 hx H
    clear hx
    obtain ⟨a87, e, hF88⟩ := bindS hF80; clear hF80
    replace H := H.sel [2, 0, 1, 3] rfl
    refine append_ (α := List Int) gok rfl rfl rfl rfl H e ?_; clear e H; intro h90 w89 H
    refine arK hk hmx62 ?_
    have hs := Option.some.inj hF88; subst hs; clear hF88
    exact ⟨h90, ⟨rfl, rfl, rfl, rfl, trivial⟩, H.sel [0, 2] rfl⟩
  · clear H e
    rintro T93 g95 w92 (H : Cx w0 fp0 S0 w92 [E (List (List Int)) r63 g95, Es (List (List Int)) list_ list_h])
    refine boolE (z := false) geLen ?_
    refine sq ?_
    cases hF64
    exact ⟨_, _, rfl, ⟨g95, rfl, rfl⟩, (H.sel [0] rfl).close ⟨cloE, trivial⟩⟩

theorem impl_bit_c (yes_ : Bool) (y : Int) (hF : F_impl_bit yes_ = some y) :
    ConF Tryd.prog 197 #[(.bool yes_)] [] [] (fun v Γ' => v = (.int .i64 y) ∧ Γ' = []) := by
  intro w0 S0 fp0 hI hS
  have H : Cx w0 fp0 S0 w0 [] := Cx.start hI hS
  clear hI hS
  refine enterC (args := [_]) gok Tryd.func197 rfl _ rfl rfl rfl ?_
  refine sq ?_
  cases yes_
  · have hF1 := condF hF; clear hF
    cases hF1
    exact ⟨_, _, rfl, ⟨rfl, rfl⟩, (H.sel [] rfl).close trivial⟩
  · have hF2 := condT hF; clear hF
    cases hF2
    exact ⟨_, _, rfl, ⟨rfl, rfl⟩, (H.sel [] rfl).close trivial⟩

theorem impl_power_c (p_ : Int) (a_ : Int) (n_ : Int) (y : Int) (hF : F_impl_power p_ a_ n_ = some y) :
    ConF Tryd.prog 196 #[(.int .i64 p_), (.int .i64 a_), (.int .i64 n_)] [] [] (fun v Γ' => v = (.int .i64 y) ∧ Γ' = []) := by
  intro w0 S0 fp0 hI hS
  have H : Cx w0 fp0 S0 w0 [] := Cx.start hI hS
  clear hI hS
  refine enterC (args := [_, _, _]) gok Tryd.func196 rfl _ rfl rfl rfl ?_
  obtain ⟨a1, e, hF2⟩ := bindS hF; clear hF
  refine remO_ e ?_; clear e
  obtain ⟨r133, hF135, hF134⟩ := bindS hF2; clear hF2
  refine cut (fun (q136 : Int) => [(7, (.int .i64 q136))]) (fun (q136 : Int) w' => q136 = r133 ∧ Cx w0 fp0 S0 w' []) ?_ ?_
  · skip
    refine loopW _ (fun (s217 : Int × Int × Int) (_ : Unit) => [(0, (.int .i64 p_)), (1, (.int .i64 s217.1)), (2, (.int .i64 s217.2.1)), (7, (.int .i64 s217.2.2))]) (fun (s217 : Int × Int × Int) (_ : Unit) w' => Cx w0 fp0 S0 w' []) (a_, n_, a1) () hF135 ⟨rfl, rfl, rfl, rfl, trivial⟩ (H.sel [] rfl) ?_
    · clear H
      rintro T223 ⟨s217_0, s217_1, s217_2⟩ _ w222 o224 (H : Cx w0 fp0 S0 w222 []) hrt hF225
      refine sq ?_
      obtain ⟨a226, e, hF227⟩ := bindS hF225; clear hF225
      refine boolO e ?_; clear e
      cases a226
      · have hF228 := condF hF227; clear hF227
        have hs := Option.some.inj hF228; subst hs; clear hF228
        have hF229 : some _ = some _ := congrArg some (hrt _ rfl).symm
        exact ⟨s217_2, ⟨rfl, trivial⟩, Option.some.inj hF229, H.sel [] rfl⟩
      · have hF230 := condT hF227; clear hF227
        refine sq ?_
        obtain ⟨r243, hF245, hF244⟩ := bindS hF230; clear hF230
        refine cut (fun (q246 : Int) => [(0, (.int .i64 p_)), (1, (.int .i64 s217_0)), (2, (.int .i64 s217_1)), (7, (.int .i64 q246))]) (fun (q246 : Int) w' => q246 = r243 ∧ Cx w0 fp0 S0 w' []) ?_ ?_
        · skip
          obtain ⟨a247, e, hF248⟩ := bindS hF245; clear hF245
          refine remO_ e ?_; clear e
          obtain ⟨a249, e, hF250⟩ := bindS hF248; clear hF248
          refine boolO e ?_; clear e
          cases a249
          · have hF251 := condF hF250; clear hF250
            exact ⟨s217_2, ⟨rfl, rfl, rfl, rfl, trivial⟩, Option.some.inj hF251, H.sel [] rfl⟩
          · have hF252 := condT hF250; clear hF250
            obtain ⟨a253, e, hF254⟩ := bindS hF252; clear hF252
            refine arO e ?_; clear e
            obtain ⟨a255, e, hF256⟩ := bindS hF254; clear hF254
            refine remO_ e ?_; clear e
            exact ⟨a255, ⟨rfl, rfl, rfl, rfl, trivial⟩, Option.some.inj hF256, H.sel [] rfl⟩
        · clear hF245 H
          rintro T258 s241 w257 ⟨hr, (H : Cx w0 fp0 S0 w257 [])⟩
          subst hr
          obtain ⟨a259, e, hF260⟩ := bindS hF244; clear hF244
          refine arO e ?_; clear e
          obtain ⟨a261, e, hF262⟩ := bindS hF260; clear hF260
          refine remO_ e ?_; clear e
          obtain ⟨a263, e, hF264⟩ := bindS hF262; clear hF262
          refine quoO_ e ?_; clear e
          have hs := Option.some.inj hF264; subst hs; clear hF264
          exact ⟨(a261, a263, s241), (), rfl, ⟨rfl, rfl, rfl, rfl, trivial⟩, H.sel [] rfl⟩
  · clear hF135 H
    rintro T266 s131 w265 ⟨hr, (H : Cx w0 fp0 S0 w265 [])⟩
    subst hr
    cases hF134
    exact ⟨_, _, rfl, ⟨rfl, rfl⟩, (H.sel [] rfl).close trivial⟩

theorem impl_inverse_c (p_ : Int) (a_ : Int) (y : Int) (hF : F_impl_inverse p_ a_ = some y) :
    ConF Tryd.prog 187 #[(.int .i64 p_), (.int .i64 a_)] [] [] (fun v Γ' => v = (.int .i64 y) ∧ Γ' = []) := by
  intro w0 S0 fp0 hI hS
  have H : Cx w0 fp0 S0 w0 [] := Cx.start hI hS
  clear hI hS
  refine enterC (args := [_, _]) gok Tryd.func187 rfl _ rfl rfl rfl ?_
  obtain ⟨a1, e, hF2⟩ := bindS hF; clear hF
  refine arO e ?_; clear e
  obtain ⟨a3, e, hF4⟩ := bindS hF2; clear hF2
  refine boolO e ?_; clear e
  obtain ⟨y5, e, hF6⟩ := bindS hF4; clear hF4
  have ey5 := e; clear e
  refine callF (impl_bit_c a3 y5 ey5) (Γi := []) H trivial ?_; clear H ey5
  rintro _ _ w7 ⟨rfl, rfl⟩ (H : Cx w0 fp0 S0 w7 [])
  obtain ⟨a8, e, hF9⟩ := bindS hF6; clear hF6
  refine arO e ?_; clear e
  obtain ⟨y10, e, hF11⟩ := bindS hF9; clear hF9
  have ey10 := e; clear e
  refine callF (impl_power_c p_ a_ a8 y10 ey10) (Γi := []) H trivial ?_; clear H ey10
  rintro _ _ w12 ⟨rfl, rfl⟩ (H : Cx w0 fp0 S0 w12 [])
  cases hF11
  exact ⟨_, _, rfl, ⟨rfl, rfl⟩, (H.sel [] rfl).close trivial⟩

theorem impl_mod_c (p_ : Int) (a_ : Int) (y : Int) (hF : F_impl_mod p_ a_ = some y) :
    ConF Tryd.prog 195 #[(.int .i64 p_), (.int .i64 a_)] [] [] (fun v Γ' => v = (.int .i64 y) ∧ Γ' = []) := by
  intro w0 S0 fp0 hI hS
  have H : Cx w0 fp0 S0 w0 [] := Cx.start hI hS
  clear hI hS
  refine enterC (args := [_, _]) gok Tryd.func195 rfl _ rfl rfl rfl ?_
  obtain ⟨a1, e, hF2⟩ := bindS hF; clear hF
  refine remO_ e ?_; clear e
  refine sq ?_
  obtain ⟨a3, e, hF4⟩ := bindS hF2; clear hF2
  refine boolO e ?_; clear e
  cases a3
  · have hF5 := condF hF4; clear hF4
    cases hF5
    exact ⟨_, _, rfl, ⟨rfl, rfl⟩, (H.sel [] rfl).close trivial⟩
  · have hF6 := condT hF4; clear hF4
    obtain ⟨a7, e, hF8⟩ := bindS hF6; clear hF6
    refine arO e ?_; clear e
    cases hF8
    exact ⟨_, _, rfl, ⟨rfl, rfl⟩, (H.sel [] rfl).close trivial⟩

theorem impl_addTimes_c (p_ : Int) (v_ : List Int) (v_h : Hd) (by_ : Int) (w_ : List Int) (w_h : Hd) (y : List Int) (hF : F_impl_addTimes p_ v_ by_ w_ = some y) :
    ConF Tryd.prog 186 #[(.int .i64 p_), (v_h).v, (.int .i64 by_), (w_h).v] [Es (List Int) w_ w_h] [E (List Int) v_ v_h] (fun v Γ' => v = (.tuple #[]) ∧ Γ' = [E (List Int) y v_h]) := by
  intro w0 S0 fp0 hI hS
  have H : Cx w0 fp0 S0 w0 [Es (List Int) w_ w_h, E (List Int) v_ v_h] := Cx.start hI hS
  clear hI hS
  refine enterC (args := [_, _, _, _]) gok Tryd.func186 rfl _ rfl rfl rfl ?_
  refine lenE (H.rs (α := List Int) 0 rfl).len ?_
  have hmx74 := (H.rs (α := List Int) 0 rfl).max
  obtain ⟨r75, e, hF76⟩ := bindS hF; clear hF
  refine loopS _ w_.length (fun (k3 : Nat) (s72 : List Int) (_ : Unit) => [(0, (.int .i64 p_)), (1, (v_h).v), (2, (.int .i64 by_)), (10, (w_h).v), (11, (.int .i64 ((w_.length : Nat) : Int))), (12, (.int .i64 ((k3 : Nat) : Int)))]) (fun _ (s72 : List Int) (_ : Unit) w' => Cx w0 fp0 S0 w' [E (List Int) s72 v_h, Es (List Int) w_ w_h]) v_ () e ⟨rfl, rfl, rfl, rfl, rfl, rfl, trivial⟩ (H.sel [1, 0] rfl) ?_ ?_
  · clear H e
    rintro T78 k3 s72 _ w77 o79 hk (H : Cx w0 fp0 S0 w77 [E (List Int) s72 v_h, Es (List Int) w_ w_h]) hF80
    refine boolE (z := true) (ltLen hk) ?_
    refine sq ?_
    refine sq ?_
    obtain ⟨a87, e, hF88⟩ := bindS hF80; clear hF80
    obtain ⟨p85, m86, c81, c82, c83, c84⟩ := (H.rs (α := List Int) 1 rfl).at1 e; clear e
    refine idxE c81 c82 c83 ?_; clear c81 c82 c83
    refine load1 c84 ?_; clear c84
    obtain ⟨a95, e, hF96⟩ := bindS hF88; clear hF88
    obtain ⟨p93, m94, c89, c90, c91, c92⟩ := (H.ro (α := List Int) 0 rfl).at1 e; clear e
    refine idxE c89 c90 c91 ?_; clear c89 c90 c91
    refine load1 c92 ?_; clear c92
    obtain ⟨a97, e, hF98⟩ := bindS hF96; clear hF96
    refine arO e ?_; clear e
    obtain ⟨a99, e, hF100⟩ := bindS hF98; clear hF98
    refine arO e ?_; clear e
    obtain ⟨y101, e, hF102⟩ := bindS hF100; clear hF100
    have ey101 := e; clear e
    refine callF (impl_mod_c p_ a99 y101 ey101) (Γi := []) H trivial ?_; clear H ey101
    rintro _ _ w103 ⟨rfl, rfl⟩ (H : Cx w0 fp0 S0 w103 [E (List Int) s72 v_h, Es (List Int) w_ w_h])
    obtain ⟨a110, e, hF111⟩ := bindS hF102; clear hF102
    have ea110 := e; clear e
    obtain ⟨p108, m109, c104, c105, c106⟩ := (H.ro (α := List Int) 0 rfl).setp ea110
    refine idxE c104 c105 c106 ?_
    refine setS (α := Int) H c104 c105 ea110 ?_; clear H c104 c105 c106 ea110; intro w112 H
    refine arK hk hmx74 ?_
    have hs := Option.some.inj hF111; subst hs; clear hF111
    exact ⟨(), ⟨rfl, rfl, rfl, rfl, rfl, rfl, trivial⟩, H.sel [0, 1] rfl⟩
  · clear H e
    rintro T114 _ w113 (H : Cx w0 fp0 S0 w113 [E (List Int) r75 v_h, Es (List Int) w_ w_h])
    refine boolE (z := false) geLen ?_
    refine sq ?_
    cases hF76
    exact ⟨_, _, rfl, ⟨rfl, rfl⟩, (H.sel [0] rfl).close ⟨cloE, trivial⟩⟩

theorem impl_rowOperation_apply_c (o__0 : Int) (o__1 : Int) (o__2 : Int) (o__3 : Int) (p_ : Int) (rows_ : List (List Int)) (rows_h : Hd) (y : List (List Int)) (hF : F_impl_rowOperation_apply (o__0, o__1, o__2, o__3) p_ rows_ = some y) :
    ConF Tryd.prog 164 #[(.agg #[(.int .i64 o__0), (.int .i64 o__1), (.int .i64 o__2), (.int .i64 o__3)]), (.int .i64 p_), (rows_h).v] [] [E (List (List Int)) rows_ rows_h] (fun v Γ' => v = (.tuple #[]) ∧ Γ' = [E (List (List Int)) y rows_h]) := by
  intro w0 S0 fp0 hI hS
  have H : Cx w0 fp0 S0 w0 [E (List (List Int)) rows_ rows_h] := Cx.start hI hS
  clear hI hS
  refine enterC (args := [_, _, _]) gok Tryd.func164 rfl _ rfl rfl rfl ?_
  refine box_ H ?_; clear H; intro b3 w2 hx H
  clear hx
  replace H : Cx w0 fp0 S0 w2 [Bx b3 [(.int .i64 o__0), (.int .i64 o__1), (.int .i64 o__2), (.int .i64 o__3)], E (List (List Int)) rows_ rows_h] := H
  refine fld gok rfl rfl rfl rfl ?_
  refine load1 (H.bx 0 rfl (j := 0) rfl) ?_
  obtain ⟨a5, e, hF6⟩ := bindS hF; clear hF
  refine boolO e ?_; clear e
  cases a5
  · have hF7 := condF hF6; clear hF6
    obtain ⟨a8, e, hF9⟩ := bindS hF7; clear hF7
    refine boolO e ?_; clear e
    cases a8
    · have hF10 := condF hF9; clear hF9
      obtain ⟨a11, e, hF12⟩ := bindS hF10; clear hF10
      refine boolO e ?_; clear e
      cases a11
      · have hF13 := condF hF12; clear hF12
        cases hF13
        exact ⟨_, _, rfl, ⟨rfl, rfl⟩, (H.sel [1] rfl).close ⟨cloE, trivial⟩⟩
      · have hF14 := condT hF12; clear hF12
        refine heldX H [14] (.fst 0 (.fst 1 (.fst 2 (.fst 6 (.fst 9 (.fst 10 (.fst 3 (.fst 4 (.fst 5 (.fst 7 (.fst 8 (.fst 11 (.fst 12 (.fst 13 (.act 14 .done))))))))))))))) mixed [] trivial (by kernel_rfl) ?_
        clear H; intro w15 H
        have hX : Ext w15 w15 := Upd.refl _ _
        have H0 := H
        refine anyH (fun _ => fld gok rfl rfl rfl rfl ⟨rfl, rfl⟩) ?_
        refine anyH (fun _ => fld gok rfl rfl rfl rfl ⟨rfl, rfl⟩) ?_
        refine anyH (fun _ => fld gok rfl rfl rfl rfl ⟨rfl, rfl⟩) ?_
        refine load1X (H.bx 0 rfl (j := 1) rfl) ?_
        obtain ⟨a22, e, hF23⟩ := bindS hF14; clear hF14
        replace H := H.sel [1, 0] rfl
        replace H := H.toEH (α := List Int)
        have HH := H; clear H; obtain ⟨p20, m21, h24, c16, c17, c18, c19, H⟩ := HH.peekL e; clear HH
        clear e
        refine idxE c16 c17 c18 ?_
        refine load1X c19 ?_; clear c19
        refine load1X (H.bx 1 rfl (j := 3) rfl) ?_
        obtain ⟨a25, e, hF26⟩ := bindS hF23; clear hF23
        refine arO e ?_; clear e
        refine load1X (H.bx 1 rfl (j := 2) rfl) ?_
        obtain ⟨a33, e, hF34⟩ := bindS hF26; clear hF26
        have HH := H; clear H; obtain ⟨p31, m32, h35, c27, c28, c29, c30, H⟩ := HH.peekL e; clear HH
        clear e
        refine idxE c27 c28 c29 ?_
        refine load1X c30 ?_; clear c30
        obtain ⟨y36, e, hF37⟩ := bindS hF34; clear hF34
        have ey36 := e; clear e
        have kn38 := H.kn 0 rfl 0 rfl
        obtain ⟨u41, en40, hF42⟩ := bindS hF37; clear hF37
        have hm39 : m32 ≠ m21 := fun q => neqO_some en40 (by omega)
        replace H := H.takeK 1 rfl
        refine callF (impl_addTimes_c p_ a22 h24 a25 a33 h35 y36 ey36) (Γi := [E (List Int) a22 h24]) H ⟨Vw.ex (α := List Int) (k := ⟨m32, a33, h35⟩) 0 rfl kn38 hm39, trivial⟩ ?_; clear H ey36
        rintro _ _ w44 ⟨rfl, rfl⟩ (H : Cx w0 fp0 S0 w44 [E (List Int) y36 h24, EX (List Int) m21 [(h24).v] rows_ rows_h, Bx b3 [(.int .i64 o__0), (.int .i64 o__1), (.int .i64 o__2), (.int .i64 o__3)]])
        obtain ⟨a45, e, hF46⟩ := bindS hF42; clear hF42
        replace H := H.put c17 e; clear e
        refine hold trivial ?_
        cases hF46
        exact ⟨_, _, rfl, ⟨rfl, rfl⟩, (H.sel [0] rfl).close ⟨cloE, trivial⟩⟩
    · have hF47 := condT hF9; clear hF9
      refine fld gok rfl rfl rfl rfl ?_
      refine load1 (H.bx 0 rfl (j := 3) rfl) ?_
      obtain ⟨y48, e, hF49⟩ := bindS hF47; clear hF47
      have ey48 := e; clear e
      refine callF (impl_inverse_c p_ o__3 y48 ey48) (Γi := []) H trivial ?_; clear H ey48
      rintro _ _ w50 ⟨rfl, rfl⟩ (H : Cx w0 fp0 S0 w50 [Bx b3 [(.int .i64 o__0), (.int .i64 o__1), (.int .i64 o__2), (.int .i64 o__3)], E (List (List Int)) rows_ rows_h])
      refine fld gok rfl rfl rfl rfl ?_
      refine load1 (H.bx 0 rfl (j := 1) rfl) ?_
      obtain ⟨a57, e, hF58⟩ := bindS hF49; clear hF49
      replace H := H.sel [1, 0] rfl
      have HH := H; clear H; obtain ⟨p55, m56, h59, c51, c52, c53, H⟩ := HH.take e; clear HH
      clear e
      have c54 := H.hx0 1 rfl c51 rfl
      refine idxE c51 c52 c53 ?_
      refine load1 c54 ?_; clear c54
      refine lenE (H.ro (α := List Int) 0 rfl).len ?_
      have hmx124 := (H.ro (α := List Int) 0 rfl).max
      obtain ⟨r125, e, hF126⟩ := bindS hF58; clear hF58
      refine loopS _ a57.length (fun (k61 : Nat) (s122 : List Int) (_ : Unit) => [(1, (.int .i64 p_)), (2, (rows_h).v), (3, (.pointer (some ⟨b3, 0, none⟩))), (6, (.int .i64 y48)), (41, (h59).v), (42, (.int .i64 ((a57.length : Nat) : Int))), (43, (.int .i64 ((k61 : Nat) : Int)))]) (fun _ (s122 : List Int) (_ : Unit) w' => Cx w0 fp0 S0 w' [EX (List Int) m56 [(h59).v] rows_ rows_h, Bx b3 [(.int .i64 o__0), (.int .i64 o__1), (.int .i64 o__2), (.int .i64 o__3)], E (List Int) s122 h59]) a57 () e ⟨rfl, rfl, rfl, rfl, rfl, rfl, rfl, trivial⟩ (H.sel [1, 2, 0] rfl) ?_ ?_
      · clear H e
        rintro T128 k61 s122 _ w127 o129 hk (H : Cx w0 fp0 S0 w127 [EX (List Int) m56 [(h59).v] rows_ rows_h, Bx b3 [(.int .i64 o__0), (.int .i64 o__1), (.int .i64 o__2), (.int .i64 o__3)], E (List Int) s122 h59]) hF130
        refine boolE (z := true) (ltLen hk) ?_
        refine sq ?_
        refine sq ?_
        obtain ⟨a137, e, hF138⟩ := bindS hF130; clear hF130
        obtain ⟨p135, m136, c131, c132, c133, c134⟩ := (H.ro (α := List Int) 2 rfl).at1 e; clear e
        refine idxE c131 c132 c133 ?_; clear c131 c132 c133
        refine load1 c134 ?_; clear c134
        refine heldX H [12] (.fst 0 (.fst 1 (.fst 5 (.fst 6 (.fst 7 (.fst 8 (.fst 9 (.fst 10 (.fst 2 (.fst 3 (.fst 4 (.fst 11 (.act 12 .done))))))))))))) mixed [] trivial (by kernel_rfl) ?_
        clear H; intro w139 H
        have hX : Ext w139 w139 := Upd.refl _ _
        have H0 := H
        refine anyH (fun _ => fld gok rfl rfl rfl rfl ⟨rfl, rfl⟩) ?_
        obtain ⟨a140, e, hF141⟩ := bindS hF138; clear hF138
        refine arO e ?_; clear e
        obtain ⟨a142, e, hF143⟩ := bindS hF141; clear hF141
        refine remO_ e ?_; clear e
        refine load1X (H.bx 1 rfl (j := 1) rfl) ?_
        have c147 := H.hx0 0 rfl c51 rfl
        refine idxE c51 c52 c53 ?_
        refine load1X c147 ?_; clear c147
        obtain ⟨a156, e, hF157⟩ := bindS hF143; clear hF143
        have ea156 := e; clear e
        obtain ⟨p154, m155, c150, c151, c152⟩ := (H.ro (α := List Int) 2 rfl).setp ea156
        refine idxE c150 c151 c152 ?_
        replace H := H.sel [2, 0, 1] rfl
        refine setS (α := Int) H c150 c151 ea156 ?_; clear H c150 c151 c152 ea156; intro w158 H
        refine hold trivial ?_
        refine arK hk hmx124 ?_
        have hs := Option.some.inj hF157; subst hs; clear hF157
        exact ⟨(), ⟨rfl, rfl, rfl, rfl, rfl, rfl, rfl, trivial⟩, H.sel [1, 2, 0] rfl⟩
      · clear H e
        rintro T160 _ w159 (H : Cx w0 fp0 S0 w159 [EX (List Int) m56 [(h59).v] rows_ rows_h, Bx b3 [(.int .i64 o__0), (.int .i64 o__1), (.int .i64 o__2), (.int .i64 o__3)], E (List Int) r125 h59])
        refine boolE (z := false) geLen ?_
        refine sq ?_
        obtain ⟨a163, e, hF164⟩ := bindS hF126; clear hF126
        replace H := H.sel [2, 0, 1] rfl
        replace H := H.put c52 e; clear e
        cases hF164
        exact ⟨_, _, rfl, ⟨rfl, rfl⟩, (H.sel [0] rfl).close ⟨cloE, trivial⟩⟩
  · have hF165 := condT hF6; clear hF6
    refine heldX H [17, 19, 18, 3, 4, 5] (.pure 3 (.pure 4 (.pure 5 (.fst 0 (.fst 1 (.fst 6 (.fst 7 (.fst 11 (.fst 12 (.fst 2 (.fst 8 (.fst 9 (.fst 10 (.fst 13 (.fst 14 (.fst 15 (.fst 16 (.act 17 (.act 18 (.act 19 .done)))))))))))))))))))) mixed [((Addr.add ⟨b3, 0, none⟩ 2), (.int .i64 o__2))] ⟨H.bx 0 rfl (j := 2) rfl, trivial⟩ (by kernel_rfl) ?_
    clear H; intro w166 H
    have hX : Ext w166 w166 := Upd.refl _ _
    have H0 := H
    refine anyH (fun _ => fld gok rfl rfl rfl rfl ⟨rfl, rfl⟩) ?_
    refine load1W 0 rfl ?_
    refine anyH (fun _ => fld gok rfl rfl rfl rfl ⟨rfl, rfl⟩) ?_
    refine anyH (fun _ => fld gok rfl rfl rfl rfl ⟨rfl, rfl⟩) ?_
    refine anyH (fun _ => fld gok rfl rfl rfl rfl ⟨rfl, rfl⟩) ?_
    refine load1X (H.bx 0 rfl (j := 1) rfl) ?_
    refine load1X (H.bx 0 rfl (j := 2) rfl) ?_
    obtain ⟨a173, e, hF174⟩ := bindS hF165; clear hF165
    replace H := H.sel [1, 0] rfl
    replace H := H.toEH (α := List Int)
    have HH := H; clear H; obtain ⟨p171, m172, h175, c167, c168, c169, c170, H⟩ := HH.peekL e; clear HH
    clear e
    refine idxE c167 c168 c169 ?_
    refine load1X c170 ?_; clear c170
    refine load1X (H.bx 1 rfl (j := 1) rfl) ?_
    obtain ⟨a182, e, hF183⟩ := bindS hF174; clear hF174
    have HH := H; clear H; obtain ⟨p180, m181, h184, c176, c177, c178, c179, H⟩ := HH.peekL e; clear HH
    clear e
    refine idxE c176 c177 c178 ?_
    refine load1X c179 ?_; clear c179
    refine idxE c176 c177 c178 ?_
    refine stZ1 (ki := 0) (kj := 1) H rfl rfl c176 ?_; clear H; intro w191 H
    replace H : Cx w0 fp0 S0 w191 [EZ (List Int) m181 m172 a182 a173 h184 h175 rows_ rows_h, Bx b3 [(.int .i64 o__0), (.int .i64 o__1), (.int .i64 o__2), (.int .i64 o__3)]] := H
    refine hold ⟨H.bx 1 rfl (j := 2) rfl, trivial⟩ ?_
    refine idxE c167 c168 c169 ?_
    refine hold ⟨H.bx 1 rfl (j := 2) rfl, trivial⟩ ?_
    obtain ⟨a199, e, hF200⟩ := bindS hF183; clear hF183
    refine stZ2 H c177 c168 c167 e ?_; clear H e; intro w198 H
    refine hold ⟨H.bx 1 rfl (j := 2) rfl, trivial⟩ ?_
    cases hF200
    exact ⟨_, _, rfl, ⟨rfl, rfl⟩, (H.sel [0] rfl).close ⟨cloE, trivial⟩⟩

theorem impl_reduction_1_c (o__0 : Int) (o__1 : Int) (o__2 : Int) (o__3 : Int) (c0_b : Nat) (c0_ : Int) (c1_b : Nat) (c1_ : List (List Int)) (c1_h : Hd) (c2_b : Nat) (c2_ : List (List Int)) (c2_h : Hd) (y0 : List (List Int)) (y1 : List (List Int)) (hF : F_impl_reduction_1 (o__0, o__1, o__2, o__3) c0_ c1_ c2_ = some (y0, y1)) :
    ConF Tryd.prog 163 #[(.agg #[(.int .i64 o__0), (.int .i64 o__1), (.int .i64 o__2), (.int .i64 o__3)]), (.pointer (some ⟨c0_b, 0, none⟩)), (.pointer (some ⟨c1_b, 0, none⟩)), (.pointer (some ⟨c2_b, 0, none⟩))] [] [Bx c0_b [(.int .i64 c0_)], Bx c1_b [(c1_h).v], E (List (List Int)) c1_ c1_h, Bx c2_b [(c2_h).v], E (List (List Int)) c2_ c2_h] (fun v Γ' => v = (.tuple #[]) ∧ Γ' = [Bx c0_b [(.int .i64 c0_)], Bx c1_b [(c1_h).v], E (List (List Int)) y0 c1_h, Bx c2_b [(c2_h).v], E (List (List Int)) y1 c2_h]) := by
  intro w0 S0 fp0 hI hS
  have H : Cx w0 fp0 S0 w0 [Bx c0_b [(.int .i64 c0_)], Bx c1_b [(c1_h).v], E (List (List Int)) c1_ c1_h, Bx c2_b [(c2_h).v], E (List (List Int)) c2_ c2_h] := Cx.start hI hS
  clear hI hS
  refine enterC (args := [_, _, _, _]) gok Tryd.func163 rfl _ rfl rfl rfl ?_
  refine box_ H ?_; clear H; intro b7 w6 hx H
  clear hx
  replace H : Cx w0 fp0 S0 w6 [Bx b7 [(.int .i64 o__0), (.int .i64 o__1), (.int .i64 o__2), (.int .i64 o__3)], Bx c0_b [(.int .i64 c0_)], Bx c1_b [(c1_h).v], E (List (List Int)) c1_ c1_h, Bx c2_b [(c2_h).v], E (List (List Int)) c2_ c2_h] := H
  refine sq ?_
  refine loadN [(.int .i64 o__0), (.int .i64 o__1), (.int .i64 o__2), (.int .i64 o__3)] rfl (fun j u hj => H.bx 0 rfl hj) ?_
  refine fld gok rfl rfl rfl rfl ?_
  refine load1 (H.bx 0 rfl (j := 1) rfl) ?_
  refine fld gok rfl rfl rfl rfl ?_
  refine load1 (H.bx 0 rfl (j := 1) rfl) ?_
  refine build_ (cs := #[(.int .i64 0), (.int .i64 o__1), (.int .i64 o__1), (.int .i64 0)]) gok rfl rfl rfl ?_
  obtain ⟨a9, e, hF10⟩ := bindS hF; clear hF
  refine eqA gok rfl Tryd.underlying141 (by kernel_rfl) (by kernel_rfl) (by kernel_rfl) (by refine ⟨rfl, ⟨_, _, rfl⟩, rfl, ⟨_, _, rfl⟩, rfl, ⟨_, _, rfl⟩, rfl, ⟨_, _, rfl⟩, trivial⟩) (ls := [o__0, o__1, o__2, o__3]) (bs := [0, o__1, o__1, 0]) rfl rfl rfl rfl e ?_; clear e
  cases a9
  · have hF11 := condF hF10; clear hF10
    refine loadN [(.int .i64 o__0), (.int .i64 o__1), (.int .i64 o__2), (.int .i64 o__3)] rfl (fun j u hj => H.bx 0 rfl hj) ?_
    refine load1 (H.bx0 1 rfl) ?_
    refine load1 (H.bx0 2 rfl) ?_
    obtain ⟨y12, e, hF13⟩ := bindS hF11; clear hF11
    have ey12 := e; clear e
    replace H := H.sel [3, 0, 1, 2, 4, 5] rfl
    refine callF (impl_rowOperation_apply_c o__0 o__1 o__2 o__3 c0_ c1_ c1_h y12 ey12) (Γi := [E (List (List Int)) c1_ c1_h]) H trivial ?_; clear H ey12
    rintro _ _ w14 ⟨rfl, rfl⟩ (H : Cx w0 fp0 S0 w14 [E (List (List Int)) y12 c1_h, Bx b7 [(.int .i64 o__0), (.int .i64 o__1), (.int .i64 o__2), (.int .i64 o__3)], Bx c0_b [(.int .i64 c0_)], Bx c1_b [(c1_h).v], Bx c2_b [(c2_h).v], E (List (List Int)) c2_ c2_h])
    refine loadN [(.int .i64 o__0), (.int .i64 o__1), (.int .i64 o__2), (.int .i64 o__3)] rfl (fun j u hj => H.bx 1 rfl hj) ?_
    refine load1 (H.bx0 2 rfl) ?_
    refine load1 (H.bx0 4 rfl) ?_
    obtain ⟨y15, e, hF16⟩ := bindS hF13; clear hF13
    have ey15 := e; clear e
    replace H := H.sel [5, 0, 1, 2, 3, 4] rfl
    refine callF (impl_rowOperation_apply_c o__0 o__1 o__2 o__3 c0_ c2_ c2_h y15 ey15) (Γi := [E (List (List Int)) c2_ c2_h]) H trivial ?_; clear H ey15
    rintro _ _ w17 ⟨rfl, rfl⟩ (H : Cx w0 fp0 S0 w17 [E (List (List Int)) y15 c2_h, E (List (List Int)) y12 c1_h, Bx b7 [(.int .i64 o__0), (.int .i64 o__1), (.int .i64 o__2), (.int .i64 o__3)], Bx c0_b [(.int .i64 c0_)], Bx c1_b [(c1_h).v], Bx c2_b [(c2_h).v]])
    cases hF16
    exact ⟨_, _, rfl, ⟨rfl, rfl⟩, (H.sel [3, 4, 1, 5, 0] rfl).close ⟨cloB, cloB, cloE, cloB, cloE, trivial⟩⟩
  · have hF18 := condT hF10; clear hF10
    cases hF18
    exact ⟨_, _, rfl, ⟨rfl, rfl⟩, (H.sel [1, 2, 3, 4, 5] rfl).close ⟨cloB, cloB, cloE, cloB, cloE, trivial⟩⟩

theorem impl_reduction_c (p_ : Int) (rows_ : List (List Int)) (rows_h : Hd) (n_ : Int) (also_ : List (List Int)) (also_h : Hd) (y0 : List (List Int)) (y1 : List (List Int)) (y2 : Int) (hF : F_impl_reduction p_ rows_ n_ also_ = some (y0, y1, y2)) :
    ConF Tryd.prog 126 #[(.int .i64 p_), (rows_h).v, (.int .i64 n_), (also_h).v] [] [E (List (List Int)) rows_ rows_h, E (List (List Int)) also_ also_h] (fun v Γ' => v = (.int .i64 y2) ∧ Γ' = [E (List (List Int)) y0 rows_h, E (List (List Int)) y1 also_h]) := by
  intro w0 S0 fp0 hI hS
  have H : Cx w0 fp0 S0 w0 [E (List (List Int)) rows_ rows_h, E (List (List Int)) also_ also_h] := Cx.start hI hS
  clear hI hS
  refine enterC (args := [_, _, _, _]) gok Tryd.func126 rfl _ rfl rfl rfl ?_
  refine box_ H ?_; clear H; intro b4 w3 hx H
  clear hx
  replace H : Cx w0 fp0 S0 w3 [Bx b4 [(.int .i64 p_)], E (List (List Int)) rows_ rows_h, E (List (List Int)) also_ also_h] := H
  refine box_ H ?_; clear H; intro b7 w6 hx H
  clear hx
  replace H : Cx w0 fp0 S0 w6 [Bx b7 [(rows_h).v], Bx b4 [(.int .i64 p_)], E (List (List Int)) rows_ rows_h, E (List (List Int)) also_ also_h] := H
  refine box_ H ?_; clear H; intro b10 w9 hx H
  clear hx
  replace H : Cx w0 fp0 S0 w9 [Bx b10 [(also_h).v], Bx b7 [(rows_h).v], Bx b4 [(.int .i64 p_)], E (List (List Int)) rows_ rows_h, E (List (List Int)) also_ also_h] := H
  obtain ⟨r4078, hF4080, hF4079⟩ := bindS hF; clear hF
  refine cut (fun (q4081 : List (List Int) × List (List Int) × Int) => [(9, (.int .i64 q4081.2.2))]) (fun (q4081 : List (List Int) × List (List Int) × Int) w' => (q4081.1, q4081.2.1, q4081.2.2) = r4078 ∧ Cx w0 fp0 S0 w' [E (List (List Int)) q4081.1 rows_h, E (List (List Int)) q4081.2.1 also_h]) ?_ ?_
  · skip
    refine loopW _ (fun (s6786 : List (List Int) × List (List Int) × Int × Int) (_ : Unit) => [(2, (.int .i64 n_)), (5, (.pointer (some ⟨b7, 0, none⟩))), (9, (.int .i64 s6786.2.2.2)), (10, (.func (.func 163) #[] #[(.pointer (some ⟨b4, 0, none⟩)), (.pointer (some ⟨b7, 0, none⟩)), (.pointer (some ⟨b10, 0, none⟩))])), (11, (.int .i64 s6786.2.2.1))]) (fun (s6786 : List (List Int) × List (List Int) × Int × Int) (_ : Unit) w' => Cx w0 fp0 S0 w' [Bx b7 [(rows_h).v], E (List (List Int)) s6786.1 rows_h, Bx b4 [(.int .i64 p_)], Bx b10 [(also_h).v], E (List (List Int)) s6786.2.1 also_h]) (rows_, also_, 0, 0) () hF4080 ⟨rfl, rfl, rfl, rfl, rfl, trivial⟩ (H.sel [1, 3, 2, 0, 4] rfl) ?_
    · clear H
      rintro T6792 ⟨s6786_0, s6786_1, s6786_2, s6786_3⟩ _ w6791 o6793 (H : Cx w0 fp0 S0 w6791 [Bx b7 [(rows_h).v], E (List (List Int)) s6786_0 rows_h, Bx b4 [(.int .i64 p_)], Bx b10 [(also_h).v], E (List (List Int)) s6786_1 also_h]) hrt hF6794
      refine sq ?_
      obtain ⟨r6803, hF6805, hF6804⟩ := bindS hF6794; clear hF6794
      refine cut (fun (q6806 : Bool) => [(2, (.int .i64 n_)), (5, (.pointer (some ⟨b7, 0, none⟩))), (9, (.int .i64 s6786_3)), (10, (.func (.func 163) #[] #[(.pointer (some ⟨b4, 0, none⟩)), (.pointer (some ⟨b7, 0, none⟩)), (.pointer (some ⟨b10, 0, none⟩))])), (11, (.int .i64 s6786_2)), (23, (.bool q6806))]) (fun (q6806 : Bool) w' => q6806 = r6803 ∧ Cx w0 fp0 S0 w' [Bx b7 [(rows_h).v], E (List (List Int)) s6786_0 rows_h, Bx b4 [(.int .i64 p_)], Bx b10 [(also_h).v], E (List (List Int)) s6786_1 also_h]) ?_ ?_
      · skip
        obtain ⟨a6807, e, hF6808⟩ := bindS hF6805; clear hF6805
        refine boolO e ?_; clear e
        cases a6807
        · have hF6809 := condF hF6808; clear hF6808
          exact ⟨false, ⟨rfl, rfl, rfl, rfl, rfl, rfl, trivial⟩, Option.some.inj hF6809, H.sel [0, 1, 2, 3, 4] rfl⟩
        · have hF6810 := condT hF6808; clear hF6808
          refine load1 (H.bx0 0 rfl) ?_
          refine lenE (H.ro (α := List (List Int)) 1 rfl).len ?_
          obtain ⟨a6811, e, hF6812⟩ := bindS hF6810; clear hF6810
          refine boolO e ?_; clear e
          exact ⟨a6811, ⟨rfl, rfl, rfl, rfl, rfl, rfl, trivial⟩, Option.some.inj hF6812, H.sel [0, 1, 2, 3, 4] rfl⟩
      · clear hF6805 H
        rintro T6814 s6801 w6813 ⟨hr, (H : Cx w0 fp0 S0 w6813 [Bx b7 [(rows_h).v], E (List (List Int)) s6786_0 rows_h, Bx b4 [(.int .i64 p_)], Bx b10 [(also_h).v], E (List (List Int)) s6786_1 also_h])⟩
        subst hr
        cases s6801
        · have hF6815 := condF hF6804; clear hF6804
          have hs := Option.some.inj hF6815; subst hs; clear hF6815
          have hF6816 : some _ = some _ := congrArg some (hrt _ rfl).symm
          exact ⟨(s6786_0, s6786_1, s6786_3), ⟨rfl, trivial⟩, Option.some.inj hF6816, H.sel [1, 4] rfl⟩
        · have hF6817 := condT hF6804; clear hF6804
          obtain ⟨r7479, hF7481, hF7480⟩ := bindS hF6817; clear hF6817
          refine cut (fun (q7482 : List (List Int) × List (List Int) × Int) => [(2, (.int .i64 n_)), (5, (.pointer (some ⟨b7, 0, none⟩))), (9, (.int .i64 q7482.2.2)), (10, (.func (.func 163) #[] #[(.pointer (some ⟨b4, 0, none⟩)), (.pointer (some ⟨b7, 0, none⟩)), (.pointer (some ⟨b10, 0, none⟩))])), (11, (.int .i64 s6786_2))]) (fun (q7482 : List (List Int) × List (List Int) × Int) w' => (q7482.1, q7482.2.1, q7482.2.2) = r7479 ∧ Cx w0 fp0 S0 w' [Bx b7 [(rows_h).v], E (List (List Int)) q7482.1 rows_h, Bx b4 [(.int .i64 p_)], Bx b10 [(also_h).v], E (List (List Int)) q7482.2.1 also_h]) ?_ ?_
          · skip
            obtain ⟨r7673, hF7675, hF7674⟩ := bindS hF7481; clear hF7481
            refine cut (fun (q7676 : Int) => [(2, (.int .i64 n_)), (5, (.pointer (some ⟨b7, 0, none⟩))), (9, (.int .i64 s6786_3)), (10, (.func (.func 163) #[] #[(.pointer (some ⟨b4, 0, none⟩)), (.pointer (some ⟨b7, 0, none⟩)), (.pointer (some ⟨b10, 0, none⟩))])), (11, (.int .i64 s6786_2)), (12, (.int .i64 q7676))]) (fun (q7676 : Int) w' => q7676 = r7673 ∧ Cx w0 fp0 S0 w' [Bx b7 [(rows_h).v], E (List (List Int)) s6786_0 rows_h, Bx b4 [(.int .i64 p_)], Bx b10 [(also_h).v], E (List (List Int)) s6786_1 also_h]) ?_ ?_
            · skip
              refine loopW _ (fun (s7797 : Int) (_ : Unit) => [(2, (.int .i64 n_)), (5, (.pointer (some ⟨b7, 0, none⟩))), (9, (.int .i64 s6786_3)), (10, (.func (.func 163) #[] #[(.pointer (some ⟨b4, 0, none⟩)), (.pointer (some ⟨b7, 0, none⟩)), (.pointer (some ⟨b10, 0, none⟩))])), (11, (.int .i64 s6786_2)), (12, (.int .i64 s7797))]) (fun (s7797 : Int) (_ : Unit) w' => Cx w0 fp0 S0 w' [Bx b7 [(rows_h).v], E (List (List Int)) s6786_0 rows_h, Bx b4 [(.int .i64 p_)], Bx b10 [(also_h).v], E (List (List Int)) s6786_1 also_h]) s6786_3 () hF7675 ⟨rfl, rfl, rfl, rfl, rfl, rfl, trivial⟩ (H.sel [0, 1, 2, 3, 4] rfl) ?_
              · clear H
                rintro T7803 s7797 _ w7802 o7804 (H : Cx w0 fp0 S0 w7802 [Bx b7 [(rows_h).v], E (List (List Int)) s6786_0 rows_h, Bx b4 [(.int .i64 p_)], Bx b10 [(also_h).v], E (List (List Int)) s6786_1 also_h]) hrt hF7805
                refine sq ?_
                obtain ⟨r7831, hF7833, hF7832⟩ := bindS hF7805; clear hF7805
                refine cut (fun (q7834 : Bool) => [(2, (.int .i64 n_)), (5, (.pointer (some ⟨b7, 0, none⟩))), (9, (.int .i64 s6786_3)), (10, (.func (.func 163) #[] #[(.pointer (some ⟨b4, 0, none⟩)), (.pointer (some ⟨b7, 0, none⟩)), (.pointer (some ⟨b10, 0, none⟩))])), (11, (.int .i64 s6786_2)), (12, (.int .i64 s7797)), (40, (.bool q7834))]) (fun (q7834 : Bool) w' => q7834 = r7831 ∧ Cx w0 fp0 S0 w' [Bx b7 [(rows_h).v], E (List (List Int)) s6786_0 rows_h, Bx b4 [(.int .i64 p_)], Bx b10 [(also_h).v], E (List (List Int)) s6786_1 also_h]) ?_ ?_
                · skip
                  refine load1 (H.bx0 0 rfl) ?_
                  refine lenE (H.ro (α := List (List Int)) 1 rfl).len ?_
                  obtain ⟨a7835, e, hF7836⟩ := bindS hF7833; clear hF7833
                  refine boolO e ?_; clear e
                  cases a7835
                  · have hF7837 := condF hF7836; clear hF7836
                    exact ⟨false, ⟨rfl, rfl, rfl, rfl, rfl, rfl, rfl, trivial⟩, Option.some.inj hF7837, H.sel [0, 1, 2, 3, 4] rfl⟩
                  · have hF7838 := condT hF7836; clear hF7836
                    refine load1 (H.bx0 0 rfl) ?_
                    obtain ⟨a7845, e, hF7846⟩ := bindS hF7838; clear hF7838
                    replace H := H.sel [1, 0, 2, 3, 4] rfl
                    replace H := H.toEH (α := List Int)
                    have HH := H; clear H; obtain ⟨p7843, m7844, h7847, c7839, c7840, c7841, c7842, H⟩ := HH.peekL e; clear HH
                    clear e
                    refine idxE c7839 c7840 c7841 ?_
                    refine load1 c7842 ?_; clear c7842
                    obtain ⟨a7854, e, hF7855⟩ := bindS hF7846; clear hF7846
                    obtain ⟨p7852, m7853, c7848, c7849, c7850, c7851⟩ := (H.rh (α := List Int) 0 rfl 0 rfl).at1 e; clear e
                    refine idxE c7848 c7849 c7850 ?_; clear c7848 c7849 c7850
                    refine load1 c7851 ?_; clear c7851
                    obtain ⟨a7856, e, hF7857⟩ := bindS hF7855; clear hF7855
                    refine boolO e ?_; clear e
                    replace H := H.ofEH
                    exact ⟨a7856, ⟨rfl, rfl, rfl, rfl, rfl, rfl, rfl, trivial⟩, Option.some.inj hF7857, H.sel [1, 0, 2, 3, 4] rfl⟩
                · clear hF7833 H
                  rintro T7859 s7829 w7858 ⟨hr, (H : Cx w0 fp0 S0 w7858 [Bx b7 [(rows_h).v], E (List (List Int)) s6786_0 rows_h, Bx b4 [(.int .i64 p_)], Bx b10 [(also_h).v], E (List (List Int)) s6786_1 also_h])⟩
                  subst hr
                  cases s7829
                  · have hF7860 := condF hF7832; clear hF7832
                    have hs := Option.some.inj hF7860; subst hs; clear hF7860
                    have hF7861 : some _ = some _ := congrArg some (hrt _ rfl).symm
                    exact ⟨s7797, ⟨rfl, rfl, rfl, rfl, rfl, rfl, trivial⟩, Option.some.inj hF7861, H.sel [0, 1, 2, 3, 4] rfl⟩
                  · have hF7862 := condT hF7832; clear hF7832
                    obtain ⟨a7863, e, hF7864⟩ := bindS hF7862; clear hF7862
                    refine arO e ?_; clear e
                    have hs := Option.some.inj hF7864; subst hs; clear hF7864
                    exact ⟨a7863, (), rfl, ⟨rfl, rfl, rfl, rfl, rfl, rfl, trivial⟩, H.sel [0, 1, 2, 3, 4] rfl⟩
            · clear hF7675 H
              rintro T7866 s7671 w7865 ⟨hr, (H : Cx w0 fp0 S0 w7865 [Bx b7 [(rows_h).v], E (List (List Int)) s6786_0 rows_h, Bx b4 [(.int .i64 p_)], Bx b10 [(also_h).v], E (List (List Int)) s6786_1 also_h])⟩
              subst hr
              refine sq ?_
              refine load1 (H.bx0 0 rfl) ?_
              refine lenE (H.ro (α := List (List Int)) 1 rfl).len ?_
              obtain ⟨a7867, e, hF7868⟩ := bindS hF7674; clear hF7674
              refine boolO e ?_; clear e
              cases a7867
              · have hF7869 := condF hF7868; clear hF7868
                refine build_ (cs := #[(.int .i64 0), (.int .i64 s6786_3), (.int .i64 s7671), (.int .i64 0)]) gok rfl rfl rfl ?_
                obtain ⟨y7870, e, hF7871⟩ := bindS hF7869; clear hF7869
                obtain ⟨y7870_0, y7870_1⟩ := y7870
                have ey7870 := e; clear e
                replace H := H.sel [2, 0, 1, 3, 4] rfl
                refine callF (impl_reduction_1_c 0 s6786_3 s7671 0 b4 p_ b7 s6786_0 rows_h b10 s6786_1 also_h y7870_0 y7870_1 ey7870) (Γi := [Bx b4 [(.int .i64 p_)], Bx b7 [(rows_h).v], E (List (List Int)) s6786_0 rows_h, Bx b10 [(also_h).v], E (List (List Int)) s6786_1 also_h]) H trivial ?_; clear H ey7870
                rintro _ _ w7872 ⟨rfl, rfl⟩ (H : Cx w0 fp0 S0 w7872 [Bx b4 [(.int .i64 p_)], Bx b7 [(rows_h).v], E (List (List Int)) y7870_0 rows_h, Bx b10 [(also_h).v], E (List (List Int)) y7870_1 also_h])
                refine load1 (H.bx0 1 rfl) ?_
                obtain ⟨a7879, e, hF7880⟩ := bindS hF7871; clear hF7871
                replace H := H.sel [2, 0, 1, 3, 4] rfl
                replace H := H.toEH (α := List Int)
                have HH := H; clear H; obtain ⟨p7877, m7878, h7881, c7873, c7874, c7875, c7876, H⟩ := HH.peekL e; clear HH
                clear e
                refine idxE c7873 c7874 c7875 ?_
                refine load1 c7876 ?_; clear c7876
                obtain ⟨a7888, e, hF7889⟩ := bindS hF7880; clear hF7880
                obtain ⟨p7886, m7887, c7882, c7883, c7884, c7885⟩ := (H.rh (α := List Int) 0 rfl 0 rfl).at1 e; clear e
                refine idxE c7882 c7883 c7884 ?_; clear c7882 c7883 c7884
                refine load1 c7885 ?_; clear c7885
                refine build_ (cs := #[(.int .i64 1), (.int .i64 s6786_3), (.int .i64 0), (.int .i64 a7888)]) gok rfl rfl rfl ?_
                replace H := H.ofEH
                obtain ⟨y7890, e, hF7891⟩ := bindS hF7889; clear hF7889
                obtain ⟨y7890_0, y7890_1⟩ := y7890
                have ey7890 := e; clear e
                replace H := H.sel [1, 2, 0, 3, 4] rfl
                refine callF (impl_reduction_1_c 1 s6786_3 0 a7888 b4 p_ b7 y7870_0 rows_h b10 y7870_1 also_h y7890_0 y7890_1 ey7890) (Γi := [Bx b4 [(.int .i64 p_)], Bx b7 [(rows_h).v], E (List (List Int)) y7870_0 rows_h, Bx b10 [(also_h).v], E (List (List Int)) y7870_1 also_h]) H trivial ?_; clear H ey7890
                rintro _ _ w7892 ⟨rfl, rfl⟩ (H : Cx w0 fp0 S0 w7892 [Bx b4 [(.int .i64 p_)], Bx b7 [(rows_h).v], E (List (List Int)) y7890_0 rows_h, Bx b10 [(also_h).v], E (List (List Int)) y7890_1 also_h])
                refine sq ?_
                refine load1 (H.bx0 1 rfl) ?_
                refine lenE (H.ro (α := List (List Int)) 2 rfl).len ?_
                have hmx8052 := (H.ro (α := List (List Int)) 2 rfl).max
                obtain ⟨r8053, e, hF8054⟩ := bindS hF7891; clear hF7891
                refine loopS _ y7890_0.length (fun (k7893 : Nat) (s8050 : List (List Int) × List (List Int)) (_ : Unit) => [(2, (.int .i64 n_)), (5, (.pointer (some ⟨b7, 0, none⟩))), (9, (.int .i64 s6786_3)), (10, (.func (.func 163) #[] #[(.pointer (some ⟨b4, 0, none⟩)), (.pointer (some ⟨b7, 0, none⟩)), (.pointer (some ⟨b10, 0, none⟩))])), (11, (.int .i64 s6786_2)), (64, (.int .i64 ((y7890_0.length : Nat) : Int))), (65, (.int .i64 ((k7893 : Nat) : Int)))]) (fun _ (s8050 : List (List Int) × List (List Int)) (_ : Unit) w' => Cx w0 fp0 S0 w' [Bx b7 [(rows_h).v], E (List (List Int)) s8050.1 rows_h, Bx b4 [(.int .i64 p_)], Bx b10 [(also_h).v], E (List (List Int)) s8050.2 also_h]) (y7890_0, y7890_1) () e ⟨rfl, rfl, rfl, rfl, rfl, rfl, rfl, trivial⟩ (H.sel [1, 2, 0, 3, 4] rfl) ?_ ?_
                · clear H e
                  rintro T8056 k7893 ⟨s8050_0, s8050_1⟩ _ w8055 o8057 hk (H : Cx w0 fp0 S0 w8055 [Bx b7 [(rows_h).v], E (List (List Int)) s8050_0 rows_h, Bx b4 [(.int .i64 p_)], Bx b10 [(also_h).v], E (List (List Int)) s8050_1 also_h]) hF8058
                  refine boolE (z := true) (ltLen hk) ?_
                  refine sq ?_
                  refine sq ?_
                  obtain ⟨r8084, hF8086, hF8085⟩ := bindS hF8058; clear hF8058
                  refine cut (fun (q8087 : Bool) => [(2, (.int .i64 n_)), (5, (.pointer (some ⟨b7, 0, none⟩))), (9, (.int .i64 s6786_3)), (10, (.func (.func 163) #[] #[(.pointer (some ⟨b4, 0, none⟩)), (.pointer (some ⟨b7, 0, none⟩)), (.pointer (some ⟨b10, 0, none⟩))])), (11, (.int .i64 s6786_2)), (13, (.int .i64 ((k7893 : Nat) : Int))), (64, (.int .i64 ((y7890_0.length : Nat) : Int))), (65, (.int .i64 ((k7893 : Nat) : Int))), (80, (.bool q8087))]) (fun (q8087 : Bool) w' => q8087 = r8084 ∧ Cx w0 fp0 S0 w' [Bx b7 [(rows_h).v], E (List (List Int)) s8050_0 rows_h, Bx b4 [(.int .i64 p_)], Bx b10 [(also_h).v], E (List (List Int)) s8050_1 also_h]) ?_ ?_
                  · skip
                    obtain ⟨a8088, e, hF8089⟩ := bindS hF8086; clear hF8086
                    refine boolO e ?_; clear e
                    cases a8088
                    · have hF8090 := condF hF8089; clear hF8089
                      exact ⟨false, ⟨rfl, rfl, rfl, rfl, rfl, rfl, rfl, rfl, rfl, trivial⟩, Option.some.inj hF8090, H.sel [0, 1, 2, 3, 4] rfl⟩
                    · have hF8091 := condT hF8089; clear hF8089
                      refine load1 (H.bx0 0 rfl) ?_
                      obtain ⟨a8098, e, hF8099⟩ := bindS hF8091; clear hF8091
                      replace H := H.sel [1, 0, 2, 3, 4] rfl
                      replace H := H.toEH (α := List Int)
                      have HH := H; clear H; obtain ⟨p8096, m8097, h8100, c8092, c8093, c8094, c8095, H⟩ := HH.peekL e; clear HH
                      clear e
                      refine idxE c8092 c8093 c8094 ?_
                      refine load1 c8095 ?_; clear c8095
                      obtain ⟨a8107, e, hF8108⟩ := bindS hF8099; clear hF8099
                      obtain ⟨p8105, m8106, c8101, c8102, c8103, c8104⟩ := (H.rh (α := List Int) 0 rfl 0 rfl).at1 e; clear e
                      refine idxE c8101 c8102 c8103 ?_; clear c8101 c8102 c8103
                      refine load1 c8104 ?_; clear c8104
                      obtain ⟨a8109, e, hF8110⟩ := bindS hF8108; clear hF8108
                      refine boolO e ?_; clear e
                      replace H := H.ofEH
                      exact ⟨a8109, ⟨rfl, rfl, rfl, rfl, rfl, rfl, rfl, rfl, rfl, trivial⟩, Option.some.inj hF8110, H.sel [1, 0, 2, 3, 4] rfl⟩
                  · clear hF8086 H
                    rintro T8112 s8082 w8111 ⟨hr, (H : Cx w0 fp0 S0 w8111 [Bx b7 [(rows_h).v], E (List (List Int)) s8050_0 rows_h, Bx b4 [(.int .i64 p_)], Bx b10 [(also_h).v], E (List (List Int)) s8050_1 also_h])⟩
                    subst hr
                    cases s8082
                    · have hF8113 := condF hF8085; clear hF8085
                      refine arK hk hmx8052 ?_
                      have hs := Option.some.inj hF8113; subst hs; clear hF8113
                      exact ⟨(), ⟨rfl, rfl, rfl, rfl, rfl, rfl, rfl, trivial⟩, H.sel [0, 1, 2, 3, 4] rfl⟩
                    · have hF8114 := condT hF8085; clear hF8085
                      refine load1 (H.bx0 0 rfl) ?_
                      obtain ⟨a8121, e, hF8122⟩ := bindS hF8114; clear hF8114
                      replace H := H.sel [1, 0, 2, 3, 4] rfl
                      replace H := H.toEH (α := List Int)
                      have HH := H; clear H; obtain ⟨p8119, m8120, h8123, c8115, c8116, c8117, c8118, H⟩ := HH.peekL e; clear HH
                      clear e
                      refine idxE c8115 c8116 c8117 ?_
                      refine load1 c8118 ?_; clear c8118
                      obtain ⟨a8130, e, hF8131⟩ := bindS hF8122; clear hF8122
                      obtain ⟨p8128, m8129, c8124, c8125, c8126, c8127⟩ := (H.rh (α := List Int) 0 rfl 0 rfl).at1 e; clear e
                      refine idxE c8124 c8125 c8126 ?_; clear c8124 c8125 c8126
                      refine load1 c8127 ?_; clear c8127
                      refine build_ (cs := #[(.int .i64 2), (.int .i64 ((k7893 : Nat) : Int)), (.int .i64 s6786_3), (.int .i64 a8130)]) gok rfl rfl rfl ?_
                      replace H := H.ofEH
                      obtain ⟨y8132, e, hF8133⟩ := bindS hF8131; clear hF8131
                      obtain ⟨y8132_0, y8132_1⟩ := y8132
                      have ey8132 := e; clear e
                      replace H := H.sel [2, 1, 0, 3, 4] rfl
                      refine callF (impl_reduction_1_c 2 ((k7893 : Nat) : Int) s6786_3 a8130 b4 p_ b7 s8050_0 rows_h b10 s8050_1 also_h y8132_0 y8132_1 ey8132) (Γi := [Bx b4 [(.int .i64 p_)], Bx b7 [(rows_h).v], E (List (List Int)) s8050_0 rows_h, Bx b10 [(also_h).v], E (List (List Int)) s8050_1 also_h]) H trivial ?_; clear H ey8132
                      rintro _ _ w8134 ⟨rfl, rfl⟩ (H : Cx w0 fp0 S0 w8134 [Bx b4 [(.int .i64 p_)], Bx b7 [(rows_h).v], E (List (List Int)) y8132_0 rows_h, Bx b10 [(also_h).v], E (List (List Int)) y8132_1 also_h])
                      refine arK hk hmx8052 ?_
                      have hs := Option.some.inj hF8133; subst hs; clear hF8133
                      exact ⟨(), ⟨rfl, rfl, rfl, rfl, rfl, rfl, rfl, trivial⟩, H.sel [1, 2, 0, 3, 4] rfl⟩
                · clear H e
                  obtain ⟨s8137_0, s8137_1⟩ := r8053
                  rintro T8136 _ w8135 (H : Cx w0 fp0 S0 w8135 [Bx b7 [(rows_h).v], E (List (List Int)) s8137_0 rows_h, Bx b4 [(.int .i64 p_)], Bx b10 [(also_h).v], E (List (List Int)) s8137_1 also_h])
                  refine boolE (z := false) geLen ?_
                  refine sq ?_
                  obtain ⟨a8139, e, hF8140⟩ := bindS hF8054; clear hF8054
                  refine arO e ?_; clear e
                  exact ⟨(s8137_0, s8137_1, a8139), ⟨rfl, rfl, rfl, rfl, rfl, trivial⟩, Option.some.inj hF8140, H.sel [0, 1, 2, 3, 4] rfl⟩
              · have hF8141 := condT hF7868; clear hF7868
                exact ⟨(s6786_0, s6786_1, s6786_3), ⟨rfl, rfl, rfl, rfl, rfl, trivial⟩, Option.some.inj hF8141, H.sel [0, 1, 2, 3, 4] rfl⟩
          · clear hF7481 H
            rintro T8143 ⟨s7477_0, s7477_1, s7477_2⟩ w8142 ⟨hr, (H : Cx w0 fp0 S0 w8142 [Bx b7 [(rows_h).v], E (List (List Int)) s7477_0 rows_h, Bx b4 [(.int .i64 p_)], Bx b10 [(also_h).v], E (List (List Int)) s7477_1 also_h])⟩
            subst hr
            obtain ⟨a8144, e, hF8145⟩ := bindS hF7480; clear hF7480
            refine arO e ?_; clear e
            have hs := Option.some.inj hF8145; subst hs; clear hF8145
            exact ⟨(s7477_0, s7477_1, a8144, s7477_2), (), rfl, ⟨rfl, rfl, rfl, rfl, rfl, trivial⟩, H.sel [0, 1, 2, 3, 4] rfl⟩
  · clear hF4080 H
    rintro T8147 ⟨s4076_0, s4076_1, s4076_2⟩ w8146 ⟨hr, (H : Cx w0 fp0 S0 w8146 [E (List (List Int)) s4076_0 rows_h, E (List (List Int)) s4076_1 also_h])⟩
    subst hr
    cases hF4079
    exact ⟨_, _, rfl, ⟨rfl, rfl⟩, (H.sel [0, 1] rfl).close ⟨cloE, cloE, trivial⟩⟩

theorem impl_reduced_c (p_ : Int) (rows_ : List (List Int)) (rows_h : Hd) (n_ : Int) (y : List (List Int)) (hF : F_impl_reduced p_ rows_ n_ = some y) :
    ConF Tryd.prog 100 #[(.int .i64 p_), (rows_h).v, (.int .i64 n_)] [Es (List (List Int)) rows_ rows_h] [] (fun v Γ' => ∃ z0 : Hd, v = (z0).v ∧ Γ' = [E (List (List Int)) y z0]) := by
  intro w0 S0 fp0 hI hS
  have H : Cx w0 fp0 S0 w0 [Es (List (List Int)) rows_ rows_h] := Cx.start hI hS
  clear hI hS
  refine enterC (args := [_, _, _]) gok Tryd.func100 rfl _ rfl rfl rfl ?_
  obtain ⟨y2, e, hF3⟩ := bindS hF; clear hF
  have ey2 := e; clear e
  refine callF (impl_clones_c rows_ rows_h y2 ey2) (Γi := []) H ⟨Vw.sh 0 rfl, trivial⟩ ?_; clear H ey2
  rintro _ _ w4 ⟨h5, rfl, rfl⟩ (H : Cx w0 fp0 S0 w4 [E (List (List Int)) y2 h5, Es (List (List Int)) rows_ rows_h])
  refine lenE (H.ro (α := List (List Int)) 0 rfl).len ?_
  obtain ⟨a7, e, hF8⟩ := bindS hF3; clear hF3
  refine make_ (α := List Int) gok rfl rfl rfl rfl (makeCO_of e) H ?_; clear e H; intro h10 w9 hx H
  clear hx
  obtain ⟨y12, e, hF13⟩ := bindS hF8; clear hF8
  obtain ⟨y12_0, y12_1, y12_2⟩ := y12
  have ey12 := e; clear e
  replace H := H.sel [1, 0, 2] rfl
  refine callF (impl_reduction_c p_ y2 h5 n_ a7 h10 y12_0 y12_1 y12_2 ey12) (Γi := [E (List (List Int)) y2 h5, E (List (List Int)) a7 h10]) H trivial ?_; clear H ey12
  rintro _ _ w14 ⟨rfl, rfl⟩ (H : Cx w0 fp0 S0 w14 [E (List (List Int)) y12_0 h5, E (List (List Int)) y12_1 h10, Es (List (List Int)) rows_ rows_h])
  obtain ⟨a15, e, hF16⟩ := bindS hF13; clear hF13
  refine slO3 (α := List Int) gok rfl rfl H e ?_; clear e H; intro h17 H
  cases hF16
  exact ⟨_, _, rfl, ⟨h17, rfl, rfl⟩, (H.sel [0] rfl).close ⟨cloE, trivial⟩⟩

theorem impl_isReduced_c (p_ : Int) (rows_ : List (List Int)) (rows_h : Hd) (n_ : Int) (y : Bool) (hF : F_impl_isReduced p_ rows_ n_ = some y) :
    ConF Tryd.prog 179 #[(.int .i64 p_), (rows_h).v, (.int .i64 n_)] [Es (List (List Int)) rows_ rows_h] [] (fun v Γ' => v = (.bool y) ∧ Γ' = []) := by
  intro w0 S0 fp0 hI hS
  have H : Cx w0 fp0 S0 w0 [Es (List (List Int)) rows_ rows_h] := Cx.start hI hS
  clear hI hS
  refine enterC (args := [_, _, _]) gok Tryd.func179 rfl _ rfl rfl rfl ?_
  refine sq ?_
  obtain ⟨r13, hF15, hF14⟩ := bindS hF; clear hF
  refine cut (fun (q16 : Bool) => [(0, (.int .i64 p_)), (1, (rows_h).v), (2, (.int .i64 n_)), (19, (.bool q16))]) (fun (q16 : Bool) w' => q16 = r13 ∧ Cx w0 fp0 S0 w' [Es (List (List Int)) rows_ rows_h]) ?_ ?_
  · skip
    refine lenE (H.rs (α := List (List Int)) 0 rfl).len ?_
    obtain ⟨a17, e, hF18⟩ := bindS hF15; clear hF15
    refine boolO e ?_; clear e
    cases a17
    · have hF19 := condF hF18; clear hF18
      obtain ⟨y20, e, hF21⟩ := bindS hF19; clear hF19
      have ey20 := e; clear e
      refine callF (impl_areVectors_c p_ rows_ rows_h n_ y20 ey20) (Γi := []) H ⟨Vw.sh 0 rfl, trivial⟩ ?_; clear H ey20
      rintro _ _ w22 ⟨rfl, rfl⟩ (H : Cx w0 fp0 S0 w22 [Es (List (List Int)) rows_ rows_h])
      obtain ⟨a23, e, hF24⟩ := bindS hF21; clear hF21
      refine boolO e ?_; clear e
      exact ⟨a23, ⟨rfl, rfl, rfl, rfl, trivial⟩, Option.some.inj hF24, H.sel [0] rfl⟩
    · have hF25 := condT hF18; clear hF18
      exact ⟨true, ⟨rfl, rfl, rfl, rfl, trivial⟩, Option.some.inj hF25, H.sel [0] rfl⟩
  · clear hF15 H
    rintro T27 s11 w26 ⟨hr, (H : Cx w0 fp0 S0 w26 [Es (List (List Int)) rows_ rows_h])⟩
    subst hr
    cases s11
    · have hF28 := condF hF14; clear hF14
      refine sq ?_
      obtain ⟨y29, e, hF30⟩ := bindS hF28; clear hF28
      have ey29 := e; clear e
      refine callF (impl_reduced_c p_ rows_ rows_h n_ y29 ey29) (Γi := []) H ⟨Vw.sh 0 rfl, trivial⟩ ?_; clear H ey29
      rintro _ _ w31 ⟨h32, rfl, rfl⟩ (H : Cx w0 fp0 S0 w31 [E (List (List Int)) y29 h32, Es (List (List Int)) rows_ rows_h])
      refine lenE (H.ro (α := List (List Int)) 0 rfl).len ?_
      replace H := H.frz
      have hmx103 := (H.rs (α := List (List Int)) 0 rfl).max
      obtain ⟨r104, e, hF105⟩ := bindS hF30; clear hF30
      refine loopO _ y29.length (fun (k34 : Nat) (_ : Unit) (_ : Unit) => [(0, (.int .i64 p_)), (1, (rows_h).v), (2, (.int .i64 n_)), (23, (h32).v), (24, (.int .i64 ((y29.length : Nat) : Int))), (25, (.int .i64 ((k34 : Nat) : Int)))]) (fun _ (_ : Unit) (_ : Unit) w' => Cx w0 fp0 S0 w' [Es (List (List Int)) rows_ rows_h, Es (List (List Int)) y29 h32]) () () e ⟨rfl, rfl, rfl, rfl, rfl, rfl, trivial⟩ (H.sel [1, 0] rfl) ?_ ?_
      · clear H e
        rintro T107 k34 _ _ w106 o108 hk (H : Cx w0 fp0 S0 w106 [Es (List (List Int)) rows_ rows_h, Es (List (List Int)) y29 h32]) hrt hF109
        refine boolE (z := true) (ltLen hk) ?_
        refine sq ?_
        refine sq ?_
        obtain ⟨a116, e, hF117⟩ := bindS hF109; clear hF109
        have HH := H; clear H; obtain ⟨p114, m115, h118, c110, c111, c112, c113, H⟩ := HH.elL 1 rfl e; clear HH
        clear e
        refine idxE c110 c111 c112 ?_; clear c110 c111 c112
        refine load1 c113 ?_; clear c113
        refine heldX H [] (.fst 0 (.fst 2 (.fst 3 (.fst 4 (.fst 5 (.act 1 (.act 6 (.act 7 .done)))))))) mixed [] trivial (by kernel_rfl) ?_
        clear H; intro w120 H
        have hX : Ext w120 w120 := Upd.refl _ _
        have H0 := H
        obtain ⟨a127, e, hF128⟩ := bindS hF117; clear hF117
        have HH := H; clear H; obtain ⟨p125, m126, h129, c121, c122, c123, c124, H⟩ := HH.elL 1 rfl e; clear HH
        clear e
        refine idxE c121 c122 c123 ?_; clear c121 c122 c123
        refine load1X c124 ?_; clear c124
        obtain ⟨y131, e, hF132⟩ := bindS hF128; clear hF128
        have ey131 := e; clear e
        refine callFx (impl_pad_c a116 h118 y131 ey131) H ⟨Vw.sh 1 rfl, trivial⟩ ?_; clear H ey131
        rintro _ _ w133 ⟨rfl, rfl⟩ hx (H : Cx w0 fp0 S0 w133 [Es (List Int) a127 h129, Es (List Int) a116 h118, Es (List (List Int)) rows_ rows_h, Es (List (List Int)) y29 h32])
        replace hX := hX.trans0 hx; clear hx
        refine hold hX ?_
        obtain ⟨y134, e, hF135⟩ := bindS hF132; clear hF132
        have ey134 := e; clear e
        refine callFx (impl_pad_c a127 h129 y134 ey134) H ⟨Vw.sh 0 rfl, trivial⟩ ?_; clear H ey134
        rintro _ _ w136 ⟨rfl, rfl⟩ hx (H : Cx w0 fp0 S0 w136 [Es (List Int) a127 h129, Es (List Int) a116 h118, Es (List (List Int)) rows_ rows_h, Es (List (List Int)) y29 h32])
        replace hX := hX.trans0 hx; clear hx
        refine hold hX ?_
        obtain ⟨a137, e, hF138⟩ := bindS hF135; clear hF135
        refine neqAr (t := 169) (n := 48) (e := 3) gok rfl rfl (by kernel_rfl) (by kernel_rfl) e ?_; clear e
        refine hold hX ?_
        cases a137
        · have hF139 := condF hF138; clear hF138
          refine arK hk hmx103 ?_
          have hs := Option.some.inj hF139; subst hs; clear hF139
          exact ⟨(), (), rfl, ⟨rfl, rfl, rfl, rfl, rfl, rfl, trivial⟩, H.sel [2, 3] rfl⟩
        · have hF140 := condT hF138; clear hF138
          have hs := Option.some.inj hF140; subst hs; clear hF140
          have hr := hrt _ rfl; subst hr
          have hF141 : some _ = some _ := hF105
          cases hF141
          exact ⟨_, _, rfl, ⟨rfl, rfl⟩, (H.sel [] rfl).close trivial⟩
      · clear H e
        rintro T143 _ _ w142 hr (H : Cx w0 fp0 S0 w142 [Es (List (List Int)) rows_ rows_h, Es (List (List Int)) y29 h32])
        subst hr
        refine boolE (z := false) geLen ?_
        refine sq ?_
        obtain ⟨y146, e, hF147⟩ := bindS hF105; clear hF105
        have ey146 := e; clear e
        refine callF (impl_reduced_c p_ rows_ rows_h n_ y146 ey146) (Γi := []) H ⟨Vw.sh 0 rfl, trivial⟩ ?_; clear H ey146
        rintro _ _ w148 ⟨h149, rfl, rfl⟩ (H : Cx w0 fp0 S0 w148 [E (List (List Int)) y146 h149, Es (List (List Int)) rows_ rows_h, Es (List (List Int)) y29 h32])
        refine lenE (H.ro (α := List (List Int)) 0 rfl).len ?_
        refine lenE (H.rs (α := List (List Int)) 1 rfl).len ?_
        obtain ⟨a151, e, hF152⟩ := bindS hF147; clear hF147
        refine boolO e ?_; clear e
        cases hF152
        exact ⟨_, _, rfl, ⟨rfl, rfl⟩, (H.sel [] rfl).close trivial⟩
    · have hF153 := condT hF14; clear hF14
      cases hF153
      exact ⟨_, _, rfl, ⟨rfl, rfl⟩, (H.sel [] rfl).close trivial⟩

theorem impl_isRelation_c (p_ : Int) (r__0 : Int) (r__1 : Int) (r__2 : List (List Int)) (r__2h : Hd) (y : Bool) (hF : F_impl_isRelation p_ (r__0, r__1, r__2) = some y) :
    ConF Tryd.prog 153 #[(.int .i64 p_), (.agg #[(.int .i64 r__0), (.int .i64 r__1), (r__2h).v])] [Es (List (List Int)) r__2 r__2h, Gl 0 [.int .i64 2, .int .i64 3, .int .i64 5, .int .i64 7]] [] (fun v Γ' => v = (.bool y) ∧ Γ' = []) := by
  intro w0 S0 fp0 hI hS
  have H : Cx w0 fp0 S0 w0 [Es (List (List Int)) r__2 r__2h, Gl 0 [.int .i64 2, .int .i64 3, .int .i64 5, .int .i64 7]] := Cx.start hI hS
  clear hI hS
  refine enterC (args := [_, _]) gok Tryd.func153 rfl _ rfl rfl rfl ?_
  refine box_ H ?_; clear H; intro b4 w3 hx H
  clear hx
  replace H : Cx w0 fp0 S0 w3 [Bx b4 [(.int .i64 r__0), (.int .i64 r__1), (r__2h).v], Es (List (List Int)) r__2 r__2h, Gl 0 [.int .i64 2, .int .i64 3, .int .i64 5, .int .i64 7]] := H
  obtain ⟨r23, hF25, hF24⟩ := bindS hF; clear hF
  refine cut (fun (q26 : Bool) => [(4, (.bool q26))]) (fun (q26 : Bool) w' => q26 = r23 ∧ Cx w0 fp0 S0 w' [Gl 0 [.int .i64 2, .int .i64 3, .int .i64 5, .int .i64 7]]) ?_ ?_
  · skip
    obtain ⟨y27, e, hF28⟩ := bindS hF25; clear hF25
    have ey27 := e; clear e
    refine callF (impl_isField_c p_ y27 ey27) (Γi := []) H ⟨Vw.gl 2 rfl, trivial⟩ ?_; clear H ey27
    rintro _ _ w29 ⟨rfl, rfl⟩ (H : Cx w0 fp0 S0 w29 [Bx b4 [(.int .i64 r__0), (.int .i64 r__1), (r__2h).v], Es (List (List Int)) r__2 r__2h, Gl 0 [.int .i64 2, .int .i64 3, .int .i64 5, .int .i64 7]])
    cases y27
    · have hF30 := condF hF28; clear hF28
      exact ⟨false, ⟨rfl, trivial⟩, Option.some.inj hF30, H.sel [2] rfl⟩
    · have hF31 := condT hF28; clear hF28
      refine fld gok rfl rfl rfl rfl ?_
      refine load1 (H.bx 0 rfl (j := 0) rfl) ?_
      refine fld gok rfl rfl rfl rfl ?_
      refine load1 (H.bx 0 rfl (j := 1) rfl) ?_
      obtain ⟨y32, e, hF33⟩ := bindS hF31; clear hF31
      have ey32 := e; clear e
      refine callF (impl_fits_c r__0 r__1 y32 ey32) (Γi := []) H trivial ?_; clear H ey32
      rintro _ _ w34 ⟨rfl, rfl⟩ (H : Cx w0 fp0 S0 w34 [Bx b4 [(.int .i64 r__0), (.int .i64 r__1), (r__2h).v], Es (List (List Int)) r__2 r__2h, Gl 0 [.int .i64 2, .int .i64 3, .int .i64 5, .int .i64 7]])
      cases y32
      · have hF35 := condF hF33; clear hF33
        exact ⟨false, ⟨rfl, trivial⟩, Option.some.inj hF35, H.sel [2] rfl⟩
      · have hF36 := condT hF33; clear hF33
        refine fld gok rfl rfl rfl rfl ?_
        refine load1 (H.bx 0 rfl (j := 2) rfl) ?_
        refine fld gok rfl rfl rfl rfl ?_
        refine load1 (H.bx 0 rfl (j := 0) rfl) ?_
        refine fld gok rfl rfl rfl rfl ?_
        refine load1 (H.bx 0 rfl (j := 1) rfl) ?_
        obtain ⟨a37, e, hF38⟩ := bindS hF36; clear hF36
        refine arO e ?_; clear e
        obtain ⟨y39, e, hF40⟩ := bindS hF38; clear hF38
        have ey39 := e; clear e
        refine callF (impl_isReduced_c p_ r__2 r__2h a37 y39 ey39) (Γi := []) H ⟨Vw.sh 1 rfl, trivial⟩ ?_; clear H ey39
        rintro _ _ w41 ⟨rfl, rfl⟩ (H : Cx w0 fp0 S0 w41 [Bx b4 [(.int .i64 r__0), (.int .i64 r__1), (r__2h).v], Es (List (List Int)) r__2 r__2h, Gl 0 [.int .i64 2, .int .i64 3, .int .i64 5, .int .i64 7]])
        exact ⟨y39, ⟨rfl, trivial⟩, Option.some.inj hF40, H.sel [2] rfl⟩
  · clear hF25 H
    rintro T43 s21 w42 ⟨hr, (H : Cx w0 fp0 S0 w42 [Gl 0 [.int .i64 2, .int .i64 3, .int .i64 5, .int .i64 7]])⟩
    subst hr
    cases hF24
    exact ⟨_, _, rfl, ⟨rfl, rfl⟩, (H.sel [] rfl).close trivial⟩

theorem impl_Relation_size_c (r__0 : Int) (r__1 : Int) (r__2 : List (List Int)) (r__2h : Hd) (y : Int) (hF : F_impl_Relation_size (r__0, r__1, r__2) = some y) :
    ConF Tryd.prog 99 #[(.agg #[(.int .i64 r__0), (.int .i64 r__1), (r__2h).v])] [Es (List (List Int)) r__2 r__2h] [] (fun v Γ' => v = (.int .i64 y) ∧ Γ' = []) := by
  intro w0 S0 fp0 hI hS
  have H : Cx w0 fp0 S0 w0 [Es (List (List Int)) r__2 r__2h] := Cx.start hI hS
  clear hI hS
  refine enterC (args := [_]) gok Tryd.func99 rfl _ rfl rfl rfl ?_
  refine box_ H ?_; clear H; intro b3 w2 hx H
  clear hx
  replace H : Cx w0 fp0 S0 w2 [Bx b3 [(.int .i64 r__0), (.int .i64 r__1), (r__2h).v], Es (List (List Int)) r__2 r__2h] := H
  refine fld gok rfl rfl rfl rfl ?_
  refine load1 (H.bx 0 rfl (j := 0) rfl) ?_
  refine fld gok rfl rfl rfl rfl ?_
  refine load1 (H.bx 0 rfl (j := 1) rfl) ?_
  obtain ⟨a5, e, hF6⟩ := bindS hF; clear hF
  refine arO e ?_; clear e
  cases hF6
  exact ⟨_, _, rfl, ⟨rfl, rfl⟩, (H.sel [] rfl).close trivial⟩

theorem impl_isPortList_c (ports_ : List Int) (ports_h : Hd) (n_ : Int) (y : Bool) (hF : F_impl_isPortList ports_ n_ = some y) :
    ConF Tryd.prog 87 #[(ports_h).v, (.int .i64 n_)] [Es (List Int) ports_ ports_h] [] (fun v Γ' => v = (.bool y) ∧ Γ' = []) := by
  intro w0 S0 fp0 hI hS
  have H : Cx w0 fp0 S0 w0 [Es (List Int) ports_ ports_h] := Cx.start hI hS
  clear hI hS
  refine enterC (args := [_, _]) gok Tryd.func87 rfl _ rfl rfl rfl ?_
  refine sq ?_
  refine lenE (H.rs (α := List Int) 0 rfl).len ?_
  have hmx75 := (H.rs (α := List Int) 0 rfl).max
  obtain ⟨r76, e, hF77⟩ := bindS hF; clear hF
  refine loopO _ ports_.length (fun (k2 : Nat) (_ : Unit) (_ : Unit) => [(0, (ports_h).v), (1, (.int .i64 n_)), (7, (ports_h).v), (8, (.int .i64 ((ports_.length : Nat) : Int))), (9, (.int .i64 ((k2 : Nat) : Int)))]) (fun _ (_ : Unit) (_ : Unit) w' => Cx w0 fp0 S0 w' [Es (List Int) ports_ ports_h]) () () e ⟨rfl, rfl, rfl, rfl, rfl, trivial⟩ (H.sel [0] rfl) ?_ ?_
  · clear H e
    rintro T79 k2 _ _ w78 o80 hk (H : Cx w0 fp0 S0 w78 [Es (List Int) ports_ ports_h]) hrt hF81
    refine boolE (z := true) (ltLen hk) ?_
    refine sq ?_
    refine sq ?_
    obtain ⟨a88, e, hF89⟩ := bindS hF81; clear hF81
    obtain ⟨p86, m87, c82, c83, c84, c85⟩ := (H.rs (α := List Int) 0 rfl).at1 e; clear e
    refine idxE c82 c83 c84 ?_; clear c82 c83 c84
    refine load1 c85 ?_; clear c85
    obtain ⟨r117, hF119, hF118⟩ := bindS hF89; clear hF89
    refine cut (fun (q120 : Bool) => [(0, (ports_h).v), (1, (.int .i64 n_)), (7, (ports_h).v), (8, (.int .i64 ((ports_.length : Nat) : Int))), (9, (.int .i64 ((k2 : Nat) : Int))), (31, (.bool q120))]) (fun (q120 : Bool) w' => q120 = r117 ∧ Cx w0 fp0 S0 w' [Es (List Int) ports_ ports_h]) ?_ ?_
    · skip
      obtain ⟨a121, e, hF122⟩ := bindS hF119; clear hF119
      refine arO e ?_; clear e
      obtain ⟨y123, e, hF124⟩ := bindS hF122; clear hF122
      have ey123 := e; clear e
      refine callF (impl_within_c a88 0 a121 y123 ey123) (Γi := []) H trivial ?_; clear H ey123
      rintro _ _ w125 ⟨rfl, rfl⟩ (H : Cx w0 fp0 S0 w125 [Es (List Int) ports_ ports_h])
      obtain ⟨a126, e, hF127⟩ := bindS hF124; clear hF124
      refine boolO e ?_; clear e
      cases a126
      · have hF128 := condF hF127; clear hF127
        obtain ⟨a129, e, hF130⟩ := bindS hF128; clear hF128
        refine boolO e ?_; clear e
        cases a129
        · have hF131 := condF hF130; clear hF130
          exact ⟨false, ⟨rfl, rfl, rfl, rfl, rfl, rfl, trivial⟩, Option.some.inj hF131, H.sel [0] rfl⟩
        · have hF132 := condT hF130; clear hF130
          obtain ⟨a133, e, hF134⟩ := bindS hF132; clear hF132
          refine arO e ?_; clear e
          obtain ⟨a141, e, hF142⟩ := bindS hF134; clear hF134
          obtain ⟨p139, m140, c135, c136, c137, c138⟩ := (H.rs (α := List Int) 0 rfl).at1 e; clear e
          refine idxE c135 c136 c137 ?_; clear c135 c136 c137
          refine load1 c138 ?_; clear c138
          obtain ⟨a143, e, hF144⟩ := bindS hF142; clear hF142
          refine boolO e ?_; clear e
          exact ⟨a143, ⟨rfl, rfl, rfl, rfl, rfl, rfl, trivial⟩, Option.some.inj hF144, H.sel [0] rfl⟩
      · have hF145 := condT hF127; clear hF127
        exact ⟨true, ⟨rfl, rfl, rfl, rfl, rfl, rfl, trivial⟩, Option.some.inj hF145, H.sel [0] rfl⟩
    · clear hF119 H
      rintro T147 s115 w146 ⟨hr, (H : Cx w0 fp0 S0 w146 [Es (List Int) ports_ ports_h])⟩
      subst hr
      cases s115
      · have hF148 := condF hF118; clear hF118
        refine arK hk hmx75 ?_
        have hs := Option.some.inj hF148; subst hs; clear hF148
        exact ⟨(), (), rfl, ⟨rfl, rfl, rfl, rfl, rfl, trivial⟩, H.sel [0] rfl⟩
      · have hF149 := condT hF118; clear hF118
        have hs := Option.some.inj hF149; subst hs; clear hF149
        have hr := hrt _ rfl; subst hr
        have hF150 : some _ = some _ := hF77
        cases hF150
        exact ⟨_, _, rfl, ⟨rfl, rfl⟩, (H.sel [] rfl).close trivial⟩
  · clear H e
    rintro T152 _ _ w151 hr (H : Cx w0 fp0 S0 w151 [Es (List Int) ports_ ports_h])
    subst hr
    refine boolE (z := false) geLen ?_
    refine sq ?_
    cases hF77
    exact ⟨_, _, rfl, ⟨rfl, rfl⟩, (H.sel [] rfl).close trivial⟩

theorem impl_isAsked_c (p_ : Int) (r__0 : Int) (r__1 : Int) (r__2 : List (List Int)) (r__2h : Hd) (ports_ : List Int) (ports_h : Hd) (y : Bool) (hF : F_impl_isAsked p_ (r__0, r__1, r__2) ports_ = some y) :
    ConF Tryd.prog 104 #[(.int .i64 p_), (.agg #[(.int .i64 r__0), (.int .i64 r__1), (r__2h).v]), (ports_h).v] [Es (List (List Int)) r__2 r__2h, Es (List Int) ports_ ports_h, Gl 0 [.int .i64 2, .int .i64 3, .int .i64 5, .int .i64 7]] [] (fun v Γ' => v = (.bool y) ∧ Γ' = []) := by
  intro w0 S0 fp0 hI hS
  have H : Cx w0 fp0 S0 w0 [Es (List (List Int)) r__2 r__2h, Es (List Int) ports_ ports_h, Gl 0 [.int .i64 2, .int .i64 3, .int .i64 5, .int .i64 7]] := Cx.start hI hS
  clear hI hS
  refine enterC (args := [_, _, _]) gok Tryd.func104 rfl _ rfl rfl rfl ?_
  refine box_ H ?_; clear H; intro b5 w4 hx H
  clear hx
  replace H : Cx w0 fp0 S0 w4 [Bx b5 [(.int .i64 r__0), (.int .i64 r__1), (r__2h).v], Es (List (List Int)) r__2 r__2h, Es (List Int) ports_ ports_h, Gl 0 [.int .i64 2, .int .i64 3, .int .i64 5, .int .i64 7]] := H
  obtain ⟨r20, hF22, hF21⟩ := bindS hF; clear hF
  refine cut (fun (q23 : Bool) => [(6, (.bool q23))]) (fun (q23 : Bool) w' => q23 = r20 ∧ Cx w0 fp0 S0 w' [Gl 0 [.int .i64 2, .int .i64 3, .int .i64 5, .int .i64 7]]) ?_ ?_
  · skip
    refine loadN [(.int .i64 r__0), (.int .i64 r__1), (r__2h).v] rfl (fun j u hj => H.bx 0 rfl hj) ?_
    obtain ⟨y24, e, hF25⟩ := bindS hF22; clear hF22
    have ey24 := e; clear e
    refine callF (impl_isRelation_c p_ r__0 r__1 r__2 r__2h y24 ey24) (Γi := []) H ⟨Vw.sh 1 rfl, Vw.gl 3 rfl, trivial⟩ ?_; clear H ey24
    rintro _ _ w26 ⟨rfl, rfl⟩ (H : Cx w0 fp0 S0 w26 [Bx b5 [(.int .i64 r__0), (.int .i64 r__1), (r__2h).v], Es (List (List Int)) r__2 r__2h, Es (List Int) ports_ ports_h, Gl 0 [.int .i64 2, .int .i64 3, .int .i64 5, .int .i64 7]])
    cases y24
    · have hF27 := condF hF25; clear hF25
      exact ⟨false, ⟨rfl, trivial⟩, Option.some.inj hF27, H.sel [3] rfl⟩
    · have hF28 := condT hF25; clear hF25
      refine loadN [(.int .i64 r__0), (.int .i64 r__1), (r__2h).v] rfl (fun j u hj => H.bx 0 rfl hj) ?_
      obtain ⟨y29, e, hF30⟩ := bindS hF28; clear hF28
      have ey29 := e; clear e
      refine callF (impl_Relation_size_c r__0 r__1 r__2 r__2h y29 ey29) (Γi := []) H ⟨Vw.sh 1 rfl, trivial⟩ ?_; clear H ey29
      rintro _ _ w31 ⟨rfl, rfl⟩ (H : Cx w0 fp0 S0 w31 [Bx b5 [(.int .i64 r__0), (.int .i64 r__1), (r__2h).v], Es (List (List Int)) r__2 r__2h, Es (List Int) ports_ ports_h, Gl 0 [.int .i64 2, .int .i64 3, .int .i64 5, .int .i64 7]])
      obtain ⟨y32, e, hF33⟩ := bindS hF30; clear hF30
      have ey32 := e; clear e
      refine callF (impl_isPortList_c ports_ ports_h y29 y32 ey32) (Γi := []) H ⟨Vw.sh 2 rfl, trivial⟩ ?_; clear H ey32
      rintro _ _ w34 ⟨rfl, rfl⟩ (H : Cx w0 fp0 S0 w34 [Bx b5 [(.int .i64 r__0), (.int .i64 r__1), (r__2h).v], Es (List (List Int)) r__2 r__2h, Es (List Int) ports_ ports_h, Gl 0 [.int .i64 2, .int .i64 3, .int .i64 5, .int .i64 7]])
      exact ⟨y32, ⟨rfl, trivial⟩, Option.some.inj hF33, H.sel [3] rfl⟩
  · clear hF22 H
    rintro T36 s18 w35 ⟨hr, (H : Cx w0 fp0 S0 w35 [Gl 0 [.int .i64 2, .int .i64 3, .int .i64 5, .int .i64 7]])⟩
    subst hr
    cases hF21
    exact ⟨_, _, rfl, ⟨rfl, rfl⟩, (H.sel [] rfl).close trivial⟩

theorem impl_chosen_c (v_ : List Int) (v_h : Hd) (at_ : List Int) (at_h : Hd) (y : List Int) (hF : F_impl_chosen v_ at_ = some y) :
    ConF Tryd.prog 154 #[(v_h).v, (at_h).v] [Es (List Int) v_ v_h, Es (List Int) at_ at_h] [] (fun v Γ' => ∃ z0 : Hd, v = (z0).v ∧ Γ' = [E (List Int) y z0]) := by
  intro w0 S0 fp0 hI hS
  have H : Cx w0 fp0 S0 w0 [Es (List Int) v_ v_h, Es (List Int) at_ at_h] := Cx.start hI hS
  clear hI hS
  refine enterC (args := [_, _]) gok Tryd.func154 rfl _ rfl rfl rfl ?_
  refine lenE (H.rs (α := List Int) 1 rfl).len ?_
  obtain ⟨a3, e, hF4⟩ := bindS hF; clear hF
  refine make_ (α := Int) gok rfl rfl rfl rfl e H ?_; clear e H; intro h6 w5 hx H
  clear hx
  refine sq ?_
  refine lenE (H.rs (α := List Int) 2 rfl).len ?_
  have hmx65 := (H.rs (α := List Int) 2 rfl).max
  obtain ⟨r66, e, hF67⟩ := bindS hF4; clear hF4
  refine loopS _ at_.length (fun (k8 : Nat) (s62 : List Int) (g63 : Hd) => [(0, (v_h).v), (5, (g63).v), (11, (at_h).v), (12, (.int .i64 ((at_.length : Nat) : Int))), (13, (.int .i64 ((k8 : Nat) : Int)))]) (fun _ (s62 : List Int) (g63 : Hd) w' => Cx w0 fp0 S0 w' [Es (List Int) v_ v_h, E (List Int) s62 g63, Es (List Int) at_ at_h]) a3 h6 e ⟨rfl, rfl, rfl, rfl, rfl, trivial⟩ (H.sel [1, 0, 2] rfl) ?_ ?_
  · clear H e
    rintro T69 k8 s62 g63 w68 o70 hk (H : Cx w0 fp0 S0 w68 [Es (List Int) v_ v_h, E (List Int) s62 g63, Es (List Int) at_ at_h]) hF71
    refine boolE (z := true) (ltLen hk) ?_
    refine sq ?_
    refine sq ?_
    obtain ⟨a78, e, hF79⟩ := bindS hF71; clear hF71
    obtain ⟨p76, m77, c72, c73, c74, c75⟩ := (H.rs (α := List Int) 2 rfl).at1 e; clear e
    refine idxE c72 c73 c74 ?_; clear c72 c73 c74
    refine load1 c75 ?_; clear c75
    obtain ⟨a86, e, hF87⟩ := bindS hF79; clear hF79
    obtain ⟨p84, m85, c80, c81, c82, c83⟩ := (H.rs (α := List Int) 0 rfl).at1 e; clear e
    refine idxE c80 c81 c82 ?_; clear c80 c81 c82
    refine load1 c83 ?_; clear c83
    refine lit1S (α := Int) gok rfl rfl rfl rfl H ?_; clear H; intro h89 w88 hx H
    clear hx
    obtain ⟨a91, e, hF92⟩ := bindS hF87; clear hF87
    replace H := H.sel [2, 0, 1, 3] rfl
    refine append_ (α := Int) gok rfl rfl rfl rfl H e ?_; clear e H; intro h94 w93 H
    refine arK hk hmx65 ?_
    have hs := Option.some.inj hF92; subst hs; clear hF92
    exact ⟨h94, ⟨rfl, rfl, rfl, rfl, rfl, trivial⟩, H.sel [1, 0, 2] rfl⟩
  · clear H e
    rintro T97 g99 w96 (H : Cx w0 fp0 S0 w96 [Es (List Int) v_ v_h, E (List Int) r66 g99, Es (List Int) at_ at_h])
    refine boolE (z := false) geLen ?_
    refine sq ?_
    cases hF67
    exact ⟨_, _, rfl, ⟨g99, rfl, rfl⟩, (H.sel [1] rfl).close ⟨cloE, trivial⟩⟩

theorem impl_chosenAll_c (rows_ : List (List Int)) (rows_h : Hd) (at_ : List Int) (at_h : Hd) (y : List (List Int)) (hF : F_impl_chosenAll rows_ at_ = some y) :
    ConF Tryd.prog 101 #[(rows_h).v, (at_h).v] [Es (List (List Int)) rows_ rows_h, Es (List Int) at_ at_h] [] (fun v Γ' => ∃ z0 : Hd, v = (z0).v ∧ Γ' = [E (List (List Int)) y z0]) := by
  intro w0 S0 fp0 hI hS
  have H : Cx w0 fp0 S0 w0 [Es (List (List Int)) rows_ rows_h, Es (List Int) at_ at_h] := Cx.start hI hS
  clear hI hS
  refine enterC (args := [_, _]) gok Tryd.func101 rfl _ rfl rfl rfl ?_
  refine lit0 (α := List Int) gok rfl rfl H ?_; clear H; intro h4 w3 hx H
  clear hx
  refine sq ?_
  refine lenE (H.rs (α := List (List Int)) 1 rfl).len ?_
  have hmx61 := (H.rs (α := List (List Int)) 1 rfl).max
  obtain ⟨r62, e, hF63⟩ := bindS hF; clear hF
  refine loopS _ rows_.length (fun (k6 : Nat) (s58 : List (List Int)) (g59 : Hd) => [(1, (at_h).v), (5, (g59).v), (9, (rows_h).v), (10, (.int .i64 ((rows_.length : Nat) : Int))), (11, (.int .i64 ((k6 : Nat) : Int)))]) (fun _ (s58 : List (List Int)) (g59 : Hd) w' => Cx w0 fp0 S0 w' [Es (List Int) at_ at_h, E (List (List Int)) s58 g59, Es (List (List Int)) rows_ rows_h]) ([] : List (List Int)) h4 e ⟨rfl, rfl, rfl, rfl, rfl, trivial⟩ (H.sel [2, 0, 1] rfl) ?_ ?_
  · clear H e
    rintro T65 k6 s58 g59 w64 o66 hk (H : Cx w0 fp0 S0 w64 [Es (List Int) at_ at_h, E (List (List Int)) s58 g59, Es (List (List Int)) rows_ rows_h]) hF67
    refine boolE (z := true) (ltLen hk) ?_
    refine sq ?_
    refine sq ?_
    obtain ⟨a74, e, hF75⟩ := bindS hF67; clear hF67
    have HH := H; clear H; obtain ⟨p72, m73, h76, c68, c69, c70, c71, H⟩ := HH.elL 2 rfl e; clear HH
    clear e
    refine idxE c68 c69 c70 ?_; clear c68 c69 c70
    refine load1 c71 ?_; clear c71
    obtain ⟨y78, e, hF79⟩ := bindS hF75; clear hF75
    have ey78 := e; clear e
    refine callF (impl_chosen_c a74 h76 at_ at_h y78 ey78) (Γi := []) H ⟨Vw.sh 0 rfl, Vw.sh 1 rfl, trivial⟩ ?_; clear H ey78
    rintro _ _ w80 ⟨h81, rfl, rfl⟩ (H : Cx w0 fp0 S0 w80 [E (List Int) y78 h81, Es (List Int) a74 h76, Es (List Int) at_ at_h, E (List (List Int)) s58 g59, Es (List (List Int)) rows_ rows_h])
    refine lit1 (α := List Int) (g := h81) gok rfl rfl rfl rfl rfl H ?_; clear H; intro h84 w83 hx H
    clear hx
    obtain ⟨a86, e, hF87⟩ := bindS hF79; clear hF79
    replace H := H.sel [3, 0, 1, 2, 4] rfl
    refine append_ (α := List Int) gok rfl rfl rfl rfl H e ?_; clear e H; intro h89 w88 H
    refine arK hk hmx61 ?_
    have hs := Option.some.inj hF87; subst hs; clear hF87
    exact ⟨h89, ⟨rfl, rfl, rfl, rfl, rfl, trivial⟩, H.sel [2, 0, 3] rfl⟩
  · clear H e
    rintro T92 g94 w91 (H : Cx w0 fp0 S0 w91 [Es (List Int) at_ at_h, E (List (List Int)) r62 g94, Es (List (List Int)) rows_ rows_h])
    refine boolE (z := false) geLen ?_
    refine sq ?_
    cases hF63
    exact ⟨_, _, rfl, ⟨g94, rfl, rfl⟩, (H.sel [1] rfl).close ⟨cloE, trivial⟩⟩

theorem impl_zeros_c (n_ : Int) (y : List Int) (hF : F_impl_zeros n_ = some y) :
    ConF Tryd.prog 148 #[(.int .i64 n_)] [] [] (fun v Γ' => ∃ z0 : Hd, v = (z0).v ∧ Γ' = [E (List Int) y z0]) := by
  intro w0 S0 fp0 hI hS
  have H : Cx w0 fp0 S0 w0 [] := Cx.start hI hS
  clear hI hS
  refine enterC (args := [_]) gok Tryd.func148 rfl _ rfl rfl rfl ?_
  obtain ⟨a1, e, hF2⟩ := bindS hF; clear hF
  refine make_ (α := Int) gok rfl rfl rfl rfl (makeCO_of e) H ?_; clear e H; intro h4 w3 hx H
  clear hx
  cases hF2
  exact ⟨_, _, rfl, ⟨h4, rfl, rfl⟩, (H.sel [0] rfl).close ⟨cloE, trivial⟩⟩

theorem impl_upTo_c (n_ : Int) (y : List Int) (hF : F_impl_upTo n_ = some y) :
    ConF Tryd.prog 90 #[(.int .i64 n_)] [] [] (fun v Γ' => ∃ z0 : Hd, v = (z0).v ∧ Γ' = [E (List Int) y z0]) := by
  intro w0 S0 fp0 hI hS
  have H : Cx w0 fp0 S0 w0 [] := Cx.start hI hS
  clear hI hS
  refine enterC (args := [_]) gok Tryd.func90 rfl _ rfl rfl rfl ?_
  obtain ⟨y1, e, hF2⟩ := bindS hF; clear hF
  have ey1 := e; clear e
  refine callF (impl_zeros_c n_ y1 ey1) (Γi := []) H trivial ?_; clear H ey1
  rintro _ _ w3 ⟨h4, rfl, rfl⟩ (H : Cx w0 fp0 S0 w3 [E (List Int) y1 h4])
  refine sq ?_
  refine lenE (H.ro (α := List Int) 0 rfl).len ?_
  have hmx31 := (H.ro (α := List Int) 0 rfl).max
  obtain ⟨r32, e, hF33⟩ := bindS hF2; clear hF2
  refine loopS _ y1.length (fun (k6 : Nat) (s29 : List Int) (_ : Unit) => [(3, (h4).v), (8, (.int .i64 ((y1.length : Nat) : Int))), (9, (.int .i64 ((k6 : Nat) : Int)))]) (fun _ (s29 : List Int) (_ : Unit) w' => Cx w0 fp0 S0 w' [E (List Int) s29 h4]) y1 () e ⟨rfl, rfl, rfl, trivial⟩ (H.sel [0] rfl) ?_ ?_
  · clear H e
    rintro T35 k6 s29 _ w34 o36 hk (H : Cx w0 fp0 S0 w34 [E (List Int) s29 h4]) hF37
    refine boolE (z := true) (ltLen hk) ?_
    refine sq ?_
    refine sq ?_
    obtain ⟨a44, e, hF45⟩ := bindS hF37; clear hF37
    have ea44 := e; clear e
    obtain ⟨p42, m43, c38, c39, c40⟩ := (H.ro (α := List Int) 0 rfl).setp ea44
    refine idxE c38 c39 c40 ?_
    refine setS (α := Int) H c38 c39 ea44 ?_; clear H c38 c39 c40 ea44; intro w46 H
    refine arK hk hmx31 ?_
    have hs := Option.some.inj hF45; subst hs; clear hF45
    exact ⟨(), ⟨rfl, rfl, rfl, trivial⟩, H.sel [0] rfl⟩
  · clear H e
    rintro T48 _ w47 (H : Cx w0 fp0 S0 w47 [E (List Int) r32 h4])
    refine boolE (z := false) geLen ?_
    refine sq ?_
    cases hF33
    exact ⟨_, _, rfl, ⟨h4, rfl, rfl⟩, (H.sel [0] rfl).close ⟨cloE, trivial⟩⟩

theorem slices_Index_int_int_c (s_ : List Int) (s_h : Hd) (v_ : Int) (y : Int) (hF : F_slices_Index_int_int s_ v_ = some y) :
    ConF Tryd.prog 113 #[(s_h).v, (.int .i64 v_)] [Es (List Int) s_ s_h] [] (fun v Γ' => v = (.int .i64 y) ∧ Γ' = []) := by
  intro w0 S0 fp0 hI hS
  have H : Cx w0 fp0 S0 w0 [Es (List Int) s_ s_h] := Cx.start hI hS
  clear hI hS
  refine enterC (args := [_, _]) gok Tryd.func113 rfl _ rfl rfl rfl ?_
  refine sq ?_
  refine lenE (H.rs (α := List Int) 0 rfl).len ?_
  have hmx19 := (H.rs (α := List Int) 0 rfl).max
  obtain ⟨r20, e, hF21⟩ := bindS hF; clear hF
  refine loopO _ s_.length (fun (k2 : Nat) (_ : Unit) (_ : Unit) => [(0, (s_h).v), (1, (.int .i64 v_)), (7, (.int .i64 ((s_.length : Nat) : Int))), (8, (.int .i64 ((k2 : Nat) : Int)))]) (fun _ (_ : Unit) (_ : Unit) w' => Cx w0 fp0 S0 w' [Es (List Int) s_ s_h]) () () e ⟨rfl, rfl, rfl, rfl, trivial⟩ (H.sel [0] rfl) ?_ ?_
  · clear H e
    rintro T23 k2 _ _ w22 o24 hk (H : Cx w0 fp0 S0 w22 [Es (List Int) s_ s_h]) hrt hF25
    refine boolE (z := true) (ltLen hk) ?_
    refine sq ?_
    refine sq ?_
    obtain ⟨a32, e, hF33⟩ := bindS hF25; clear hF25
    obtain ⟨p30, m31, c26, c27, c28, c29⟩ := (H.rs (α := List Int) 0 rfl).at1 e; clear e
    refine idxE c26 c27 c28 ?_; clear c26 c27 c28
    refine load1 c29 ?_; clear c29
    obtain ⟨a34, e, hF35⟩ := bindS hF33; clear hF33
    refine boolO e ?_; clear e
    cases a34
    · have hF36 := condF hF35; clear hF35
      refine arK hk hmx19 ?_
      have hs := Option.some.inj hF36; subst hs; clear hF36
      exact ⟨(), (), rfl, ⟨rfl, rfl, rfl, rfl, trivial⟩, H.sel [0] rfl⟩
    · have hF37 := condT hF35; clear hF35
      have hs := Option.some.inj hF37; subst hs; clear hF37
      have hr := hrt _ rfl; subst hr
      have hF38 : some _ = some _ := hF21
      cases hF38
      exact ⟨_, _, rfl, ⟨rfl, rfl⟩, (H.sel [] rfl).close trivial⟩
  · clear H e
    rintro T40 _ _ w39 hr (H : Cx w0 fp0 S0 w39 [Es (List Int) s_ s_h])
    subst hr
    refine boolE (z := false) geLen ?_
    refine sq ?_
    cases hF21
    exact ⟨_, _, rfl, ⟨rfl, rfl⟩, (H.sel [] rfl).close trivial⟩

theorem slices_Contains_int_int_c (s_ : List Int) (s_h : Hd) (v_ : Int) (y : Bool) (hF : F_slices_Contains_int_int s_ v_ = some y) :
    ConF Tryd.prog 112 #[(s_h).v, (.int .i64 v_)] [Es (List Int) s_ s_h] [] (fun v Γ' => v = (.bool y) ∧ Γ' = []) := by
  intro w0 S0 fp0 hI hS
  have H : Cx w0 fp0 S0 w0 [Es (List Int) s_ s_h] := Cx.start hI hS
  clear hI hS
  refine enterC (args := [_, _]) gok Tryd.func112 rfl _ rfl rfl rfl ?_
  obtain ⟨y2, e, hF3⟩ := bindS hF; clear hF
  have ey2 := e; clear e
  refine callF (slices_Index_int_int_c s_ s_h v_ y2 ey2) (Γi := []) H ⟨Vw.sh 0 rfl, trivial⟩ ?_; clear H ey2
  rintro _ _ w4 ⟨rfl, rfl⟩ (H : Cx w0 fp0 S0 w4 [Es (List Int) s_ s_h])
  obtain ⟨a5, e, hF6⟩ := bindS hF3; clear hF3
  refine boolO e ?_; clear e
  cases hF6
  exact ⟨_, _, rfl, ⟨rfl, rfl⟩, (H.sel [] rfl).close trivial⟩

theorem impl_others_c (list_ : List Int) (list_h : Hd) (without_ : List Int) (without_h : Hd) (y : List Int) (hF : F_impl_others list_ without_ = some y) :
    ConF Tryd.prog 89 #[(list_h).v, (without_h).v] [Es (List Int) list_ list_h, Es (List Int) without_ without_h] [] (fun v Γ' => ∃ z0 : Hd, v = (z0).v ∧ Γ' = [E (List Int) y z0]) := by
  intro w0 S0 fp0 hI hS
  have H : Cx w0 fp0 S0 w0 [Es (List Int) list_ list_h, Es (List Int) without_ without_h] := Cx.start hI hS
  clear hI hS
  refine enterC (args := [_, _]) gok Tryd.func89 rfl _ rfl rfl rfl ?_
  refine lit0 (α := Int) gok rfl rfl H ?_; clear H; intro h4 w3 hx H
  clear hx
  refine sq ?_
  refine lenE (H.rs (α := List Int) 1 rfl).len ?_
  have hmx61 := (H.rs (α := List Int) 1 rfl).max
  obtain ⟨r62, e, hF63⟩ := bindS hF; clear hF
  refine loopS _ list_.length (fun (k6 : Nat) (s58 : List Int) (g59 : Hd) => [(1, (without_h).v), (5, (g59).v), (9, (list_h).v), (10, (.int .i64 ((list_.length : Nat) : Int))), (11, (.int .i64 ((k6 : Nat) : Int)))]) (fun _ (s58 : List Int) (g59 : Hd) w' => Cx w0 fp0 S0 w' [Es (List Int) without_ without_h, E (List Int) s58 g59, Es (List Int) list_ list_h]) ([] : List Int) h4 e ⟨rfl, rfl, rfl, rfl, rfl, trivial⟩ (H.sel [2, 0, 1] rfl) ?_ ?_
  · clear H e
    rintro T65 k6 s58 g59 w64 o66 hk (H : Cx w0 fp0 S0 w64 [Es (List Int) without_ without_h, E (List Int) s58 g59, Es (List Int) list_ list_h]) hF67
    refine boolE (z := true) (ltLen hk) ?_
    refine sq ?_
    refine sq ?_
    obtain ⟨a74, e, hF75⟩ := bindS hF67; clear hF67
    obtain ⟨p72, m73, c68, c69, c70, c71⟩ := (H.rs (α := List Int) 2 rfl).at1 e; clear e
    refine idxE c68 c69 c70 ?_; clear c68 c69 c70
    refine load1 c71 ?_; clear c71
    obtain ⟨y76, e, hF77⟩ := bindS hF75; clear hF75
    have ey76 := e; clear e
    refine callF (slices_Contains_int_int_c without_ without_h a74 y76 ey76) (Γi := []) H ⟨Vw.sh 0 rfl, trivial⟩ ?_; clear H ey76
    rintro _ _ w78 ⟨rfl, rfl⟩ (H : Cx w0 fp0 S0 w78 [Es (List Int) without_ without_h, E (List Int) s58 g59, Es (List Int) list_ list_h])
    obtain ⟨a79, e, hF80⟩ := bindS hF77; clear hF77
    refine boolO e ?_; clear e
    cases a79
    · have hF81 := condF hF80; clear hF80
      refine arK hk hmx61 ?_
      have hs := Option.some.inj hF81; subst hs; clear hF81
      exact ⟨g59, ⟨rfl, rfl, rfl, rfl, rfl, trivial⟩, H.sel [0, 1, 2] rfl⟩
    · have hF82 := condT hF80; clear hF80
      refine lit1S (α := Int) gok rfl rfl rfl rfl H ?_; clear H; intro h84 w83 hx H
      clear hx
      obtain ⟨a86, e, hF87⟩ := bindS hF82; clear hF82
      replace H := H.sel [2, 0, 1, 3] rfl
      refine append_ (α := Int) gok rfl rfl rfl rfl H e ?_; clear e H; intro h89 w88 H
      refine arK hk hmx61 ?_
      have hs := Option.some.inj hF87; subst hs; clear hF87
      exact ⟨h89, ⟨rfl, rfl, rfl, rfl, rfl, trivial⟩, H.sel [1, 0, 2] rfl⟩
  · clear H e
    rintro T92 g94 w91 (H : Cx w0 fp0 S0 w91 [Es (List Int) without_ without_h, E (List Int) r62 g94, Es (List Int) list_ list_h])
    refine boolE (z := false) geLen ?_
    refine sq ?_
    cases hF63
    exact ⟨_, _, rfl, ⟨g94, rfl, rfl⟩, (H.sel [1] rfl).close ⟨cloE, trivial⟩⟩

theorem impl_choiceFunction_c (p_ : Int) (basis_ : List (List Int)) (basis_h : Hd) (n_ : Int) (ports_ : List Int) (ports_h : Hd) (y0 : List (List Int)) (y1 : Bool) (hF : F_impl_choiceFunction p_ basis_ n_ ports_ = some (y0, y1)) :
    ConF Tryd.prog 105 #[(.int .i64 p_), (basis_h).v, (.int .i64 n_), (ports_h).v] [Es (List (List Int)) basis_ basis_h, Es (List Int) ports_ ports_h] [] (fun v Γ' => ∃ z0 : Hd, v = (.tuple #[(z0).v, (.bool y1)]) ∧ Γ' = [E (List (List Int)) y0 z0]) := by
  intro w0 S0 fp0 hI hS
  have H : Cx w0 fp0 S0 w0 [Es (List (List Int)) basis_ basis_h, Es (List Int) ports_ ports_h] := Cx.start hI hS
  clear hI hS
  refine enterC (args := [_, _, _, _]) gok Tryd.func105 rfl _ rfl rfl rfl ?_
  refine sq ?_
  refine lenE (H.rs (α := List Int) 1 rfl).len ?_
  refine lenE (H.rs (α := List (List Int)) 0 rfl).len ?_
  obtain ⟨a3, e, hF4⟩ := bindS hF; clear hF
  refine boolO e ?_; clear e
  cases a3
  · have hF5 := condF hF4; clear hF4
    obtain ⟨y6, e, hF7⟩ := bindS hF5; clear hF5
    have ey6 := e; clear e
    refine callF (impl_chosenAll_c basis_ basis_h ports_ ports_h y6 ey6) (Γi := []) H ⟨Vw.sh 0 rfl, Vw.sh 1 rfl, trivial⟩ ?_; clear H ey6
    rintro _ _ w8 ⟨h9, rfl, rfl⟩ (H : Cx w0 fp0 S0 w8 [E (List (List Int)) y6 h9, Es (List (List Int)) basis_ basis_h, Es (List Int) ports_ ports_h])
    obtain ⟨y11, e, hF12⟩ := bindS hF7; clear hF7
    have ey11 := e; clear e
    refine callF (impl_upTo_c n_ y11 ey11) (Γi := []) H trivial ?_; clear H ey11
    rintro _ _ w13 ⟨h14, rfl, rfl⟩ (H : Cx w0 fp0 S0 w13 [E (List Int) y11 h14, E (List (List Int)) y6 h9, Es (List (List Int)) basis_ basis_h, Es (List Int) ports_ ports_h])
    obtain ⟨y16, e, hF17⟩ := bindS hF12; clear hF12
    have ey16 := e; clear e
    refine callF (impl_others_c y11 h14 ports_ ports_h y16 ey16) (Γi := []) H ⟨Vw.own 0 rfl, Vw.sh 3 rfl, trivial⟩ ?_; clear H ey16
    rintro _ _ w18 ⟨h19, rfl, rfl⟩ (H : Cx w0 fp0 S0 w18 [E (List Int) y16 h19, E (List Int) y11 h14, E (List (List Int)) y6 h9, Es (List (List Int)) basis_ basis_h, Es (List Int) ports_ ports_h])
    obtain ⟨y21, e, hF22⟩ := bindS hF17; clear hF17
    have ey21 := e; clear e
    refine callF (impl_chosenAll_c basis_ basis_h y16 h19 y21 ey21) (Γi := []) H ⟨Vw.sh 3 rfl, Vw.own 0 rfl, trivial⟩ ?_; clear H ey21
    rintro _ _ w23 ⟨h24, rfl, rfl⟩ (H : Cx w0 fp0 S0 w23 [E (List (List Int)) y21 h24, E (List Int) y16 h19, E (List Int) y11 h14, E (List (List Int)) y6 h9, Es (List (List Int)) basis_ basis_h, Es (List Int) ports_ ports_h])
    refine sq ?_
    refine lenE (H.rs (α := List Int) 5 rfl).len ?_
    obtain ⟨y26, e, hF27⟩ := bindS hF22; clear hF22
    obtain ⟨y26_0, y26_1, y26_2⟩ := y26
    have ey26 := e; clear e
    replace H := H.sel [3, 0, 1, 2, 4, 5] rfl
    refine callF (impl_reduction_c p_ y6 h9 ((ports_.length : Nat) : Int) y21 h24 y26_0 y26_1 y26_2 ey26) (Γi := [E (List (List Int)) y6 h9, E (List (List Int)) y21 h24]) H trivial ?_; clear H ey26
    rintro _ _ w28 ⟨rfl, rfl⟩ (H : Cx w0 fp0 S0 w28 [E (List (List Int)) y26_0 h9, E (List (List Int)) y26_1 h24, E (List Int) y16 h19, E (List Int) y11 h14, Es (List (List Int)) basis_ basis_h, Es (List Int) ports_ ports_h])
    refine lenE (H.rs (α := List Int) 5 rfl).len ?_
    obtain ⟨a29, e, hF30⟩ := bindS hF27; clear hF27
    refine boolO e ?_; clear e
    cases a29
    · have hF31 := condF hF30; clear hF30
      cases hF31
      exact ⟨_, _, rfl, ⟨h24, rfl, rfl⟩, (H.sel [1] rfl).close ⟨cloE, trivial⟩⟩
    · have hF32 := condT hF30; clear hF30
      replace H := H.nil (α := List Int)
      cases hF32
      exact ⟨_, _, rfl, ⟨nilH, rfl, rfl⟩, (H.sel [0] rfl).close ⟨cloE, trivial⟩⟩
  · have hF34 := condT hF4; clear hF4
    replace H := H.nil (α := List Int)
    cases hF34
    exact ⟨_, _, rfl, ⟨nilH, rfl, rfl⟩, (H.sel [0] rfl).close ⟨cloE, trivial⟩⟩

theorem impl_ChoiceFunction_c (p_ : Int) (r__0 : Int) (r__1 : Int) (r__2 : List (List Int)) (r__2h : Hd) (ports_ : List Int) (ports_h : Hd) (y0_0 : Int) (y0_1 : List (List Int)) (y1 : Bool) (hF : F_impl_ChoiceFunction p_ (r__0, r__1, r__2) ports_ = some ((y0_0, y0_1), y1)) :
    ConF Tryd.prog 110 #[(.int .i64 p_), (.agg #[(.int .i64 r__0), (.int .i64 r__1), (r__2h).v]), (ports_h).v] [Es (List (List Int)) r__2 r__2h, Es (List Int) ports_ ports_h, Gl 0 [.int .i64 2, .int .i64 3, .int .i64 5, .int .i64 7]] [] (fun v Γ' => ∃ z0 : Hd, v = (.tuple #[(.agg #[(.int .i64 y0_0), (z0).v]), (.bool y1)]) ∧ Γ' = [E (List (List Int)) y0_1 z0]) := by
  intro w0 S0 fp0 hI hS
  have H : Cx w0 fp0 S0 w0 [Es (List (List Int)) r__2 r__2h, Es (List Int) ports_ ports_h, Gl 0 [.int .i64 2, .int .i64 3, .int .i64 5, .int .i64 7]] := Cx.start hI hS
  clear hI hS
  refine enterC (args := [_, _, _]) gok Tryd.func110 rfl _ rfl rfl rfl ?_
  refine box_ H ?_; clear H; intro b5 w4 hx H
  clear hx
  replace H : Cx w0 fp0 S0 w4 [Bx b5 [(.int .i64 r__0), (.int .i64 r__1), (r__2h).v], Es (List (List Int)) r__2 r__2h, Es (List Int) ports_ ports_h, Gl 0 [.int .i64 2, .int .i64 3, .int .i64 5, .int .i64 7]] := H
  refine alloc_ gok rfl H ?_; clear H; intro b8 w7 hx H
  clear hx
  replace H : Cx w0 fp0 S0 w7 [Bx b8 [(.int .i64 0), (.slice none 0 0)], Bx b5 [(.int .i64 r__0), (.int .i64 r__1), (r__2h).v], Es (List (List Int)) r__2 r__2h, Es (List Int) ports_ ports_h, Gl 0 [.int .i64 2, .int .i64 3, .int .i64 5, .int .i64 7]] := H
  refine sq ?_
  refine loadN [(.int .i64 r__0), (.int .i64 r__1), (r__2h).v] rfl (fun j u hj => H.bx 1 rfl hj) ?_
  obtain ⟨y10, e, hF11⟩ := bindS hF; clear hF
  have ey10 := e; clear e
  refine callF (impl_isAsked_c p_ r__0 r__1 r__2 r__2h ports_ ports_h y10 ey10) (Γi := []) H ⟨Vw.sh 2 rfl, Vw.sh 3 rfl, Vw.gl 4 rfl, trivial⟩ ?_; clear H ey10
  rintro _ _ w12 ⟨rfl, rfl⟩ (H : Cx w0 fp0 S0 w12 [Bx b8 [(.int .i64 0), (.slice none 0 0)], Bx b5 [(.int .i64 r__0), (.int .i64 r__1), (r__2h).v], Es (List (List Int)) r__2 r__2h, Es (List Int) ports_ ports_h, Gl 0 [.int .i64 2, .int .i64 3, .int .i64 5, .int .i64 7]])
  obtain ⟨a13, e, hF14⟩ := bindS hF11; clear hF11
  refine boolO e ?_; clear e
  cases a13
  · have hF15 := condF hF14; clear hF14
    refine heldX H [] (.fst 0 (.fst 1 (.fst 5 (.fst 2 (.fst 3 (.act 4 (.act 6 (.fst 7 (.fst 8 (.fst 9 (.fst 10 (.fst 11 .done)))))))))))) mixed [] trivial (by kernel_rfl) ?_
    clear H; intro w16 H
    have hX : Ext w16 w16 := Upd.refl _ _
    have H0 := H
    refine anyH (fun _ => fld gok rfl rfl rfl rfl ⟨rfl, rfl⟩) ?_
    refine load1X (H.bx 1 rfl (j := 2) rfl) ?_
    refine loadNX [(.int .i64 r__0), (.int .i64 r__1), (r__2h).v] rfl (fun j u hj => H.bx 1 rfl hj) ?_
    obtain ⟨y17, e, hF18⟩ := bindS hF15; clear hF15
    have ey17 := e; clear e
    refine callFx (impl_Relation_size_c r__0 r__1 r__2 r__2h y17 ey17) H ⟨Vw.sh 2 rfl, trivial⟩ ?_; clear H ey17
    rintro _ _ w19 ⟨rfl, rfl⟩ hx (H : Cx w0 fp0 S0 w19 [Bx b8 [(.int .i64 0), (.slice none 0 0)], Bx b5 [(.int .i64 r__0), (.int .i64 r__1), (r__2h).v], Es (List (List Int)) r__2 r__2h, Es (List Int) ports_ ports_h, Gl 0 [.int .i64 2, .int .i64 3, .int .i64 5, .int .i64 7]])
    replace hX := hX.trans0 hx; clear hx
    refine hold hX ?_
    obtain ⟨y20, e, hF21⟩ := bindS hF18; clear hF18
    obtain ⟨y20_0, y20_1⟩ := y20
    have ey20 := e; clear e
    refine callFx (impl_choiceFunction_c p_ r__2 r__2h y17 ports_ ports_h y20_0 y20_1 ey20) H ⟨Vw.sh 2 rfl, Vw.sh 3 rfl, trivial⟩ ?_; clear H ey20
    rintro _ _ w22 ⟨h23, rfl, rfl⟩ hx (H : Cx w0 fp0 S0 w22 [E (List (List Int)) y20_0 h23, Bx b8 [(.int .i64 0), (.slice none 0 0)], Bx b5 [(.int .i64 r__0), (.int .i64 r__1), (r__2h).v], Es (List (List Int)) r__2 r__2h, Es (List Int) ports_ ports_h, Gl 0 [.int .i64 2, .int .i64 3, .int .i64 5, .int .i64 7]])
    replace hX := hX.trans0 hx; clear hx
    refine hold hX ?_
    refine sq ?_
    obtain ⟨a25, e, hF26⟩ := bindS hF21; clear hF21
    refine boolO e ?_; clear e
    cases a25
    · have hF27 := condF hF26; clear hF26
      refine loadN [(.int .i64 r__0), (.int .i64 r__1), (r__2h).v] rfl (fun j u hj => H.bx 2 rfl hj) ?_
      obtain ⟨y28, e, hF29⟩ := bindS hF27; clear hF27
      have ey28 := e; clear e
      refine callF (impl_Relation_size_c r__0 r__1 r__2 r__2h y28 ey28) (Γi := []) H ⟨Vw.sh 3 rfl, trivial⟩ ?_; clear H ey28
      rintro _ _ w30 ⟨rfl, rfl⟩ (H : Cx w0 fp0 S0 w30 [E (List (List Int)) y20_0 h23, Bx b8 [(.int .i64 0), (.slice none 0 0)], Bx b5 [(.int .i64 r__0), (.int .i64 r__1), (r__2h).v], Es (List (List Int)) r__2 r__2h, Es (List Int) ports_ ports_h, Gl 0 [.int .i64 2, .int .i64 3, .int .i64 5, .int .i64 7]])
      refine lenE (H.rs (α := List Int) 4 rfl).len ?_
      obtain ⟨a31, e, hF32⟩ := bindS hF29; clear hF29
      refine arO e ?_; clear e
      refine build_ (cs := #[(.int .i64 a31), (h23).v]) gok rfl rfl rfl ?_
      replace H := H.sel [1, 0, 2, 3, 4, 5] rfl
      refine stA gok [(.int .i64 a31), (h23).v] rfl H rfl rfl rfl ?_; clear H; intro w33 H
      replace H : Cx w0 fp0 S0 w33 [Bx b8 [(.int .i64 a31), (h23).v], E (List (List Int)) y20_0 h23, Bx b5 [(.int .i64 r__0), (.int .i64 r__1), (r__2h).v], Es (List (List Int)) r__2 r__2h, Es (List Int) ports_ ports_h, Gl 0 [.int .i64 2, .int .i64 3, .int .i64 5, .int .i64 7]] := H
      refine loadN [(.int .i64 a31), (h23).v] rfl (fun j u hj => H.bx 0 rfl hj) ?_
      cases hF32
      exact ⟨_, _, rfl, ⟨h23, rfl, rfl⟩, (H.sel [1] rfl).close ⟨cloE, trivial⟩⟩
    · have hF34 := condT hF26; clear hF26
      refine build_ (cs := #[(.int .i64 0), (.slice none 0 0)]) gok rfl rfl rfl ?_
      replace H := H.sel [1, 0, 2, 3, 4, 5] rfl
      refine stA gok [(.int .i64 0), (.slice none 0 0)] rfl H rfl rfl rfl ?_; clear H; intro w35 H
      replace H : Cx w0 fp0 S0 w35 [Bx b8 [(.int .i64 0), (.slice none 0 0)], E (List (List Int)) y20_0 h23, Bx b5 [(.int .i64 r__0), (.int .i64 r__1), (r__2h).v], Es (List (List Int)) r__2 r__2h, Es (List Int) ports_ ports_h, Gl 0 [.int .i64 2, .int .i64 3, .int .i64 5, .int .i64 7]] := H
      refine loadN [(.int .i64 0), (.slice none 0 0)] rfl (fun j u hj => H.bx 0 rfl hj) ?_
      replace H := H.nil (α := List Int)
      cases hF34
      exact ⟨_, _, rfl, ⟨nilH, rfl, rfl⟩, (H.sel [0] rfl).close ⟨cloE, trivial⟩⟩
  · have hF37 := condT hF14; clear hF14
    refine build_ (cs := #[(.int .i64 0), (.slice none 0 0)]) gok rfl rfl rfl ?_
    refine stA gok [(.int .i64 0), (.slice none 0 0)] rfl H rfl rfl rfl ?_; clear H; intro w38 H
    replace H : Cx w0 fp0 S0 w38 [Bx b8 [(.int .i64 0), (.slice none 0 0)], Bx b5 [(.int .i64 r__0), (.int .i64 r__1), (r__2h).v], Es (List (List Int)) r__2 r__2h, Es (List Int) ports_ ports_h, Gl 0 [.int .i64 2, .int .i64 3, .int .i64 5, .int .i64 7]] := H
    refine loadN [(.int .i64 0), (.slice none 0 0)] rfl (fun j u hj => H.bx 0 rfl hj) ?_
    replace H := H.nil (α := List Int)
    cases hF37
    exact ⟨_, _, rfl, ⟨nilH, rfl, rfl⟩, (H.sel [0] rfl).close ⟨cloE, trivial⟩⟩

theorem impl_ReplaceablePorts_c (p_ : Int) (r__0 : Int) (r__1 : Int) (r__2 : List (List Int)) (r__2h : Hd) (ports_ : List Int) (ports_h : Hd) (q_ : Int) (y0 : List Int) (y1 : Bool) (hF : F_impl_ReplaceablePorts p_ (r__0, r__1, r__2) ports_ q_ = some (y0, y1)) :
    ConF Tryd.prog 51 #[(.int .i64 p_), (.agg #[(.int .i64 r__0), (.int .i64 r__1), (r__2h).v]), (ports_h).v, (.int .i64 q_)] [Es (List (List Int)) r__2 r__2h, Es (List Int) ports_ ports_h, Gl 0 [.int .i64 2, .int .i64 3, .int .i64 5, .int .i64 7]] [] (fun v Γ' => ∃ z0 : Hd, v = (.tuple #[(z0).v, (.bool y1)]) ∧ Γ' = [E (List Int) y0 z0]) := by
  intro w0 S0 fp0 hI hS
  have H : Cx w0 fp0 S0 w0 [Es (List (List Int)) r__2 r__2h, Es (List Int) ports_ ports_h, Gl 0 [.int .i64 2, .int .i64 3, .int .i64 5, .int .i64 7]] := Cx.start hI hS
  clear hI hS
  refine enterC (args := [_, _, _, _]) gok Tryd.func51 rfl _ rfl rfl rfl ?_
  refine box_ H ?_; clear H; intro b5 w4 hx H
  clear hx
  replace H : Cx w0 fp0 S0 w4 [Bx b5 [(.int .i64 r__0), (.int .i64 r__1), (r__2h).v], Es (List (List Int)) r__2 r__2h, Es (List Int) ports_ ports_h, Gl 0 [.int .i64 2, .int .i64 3, .int .i64 5, .int .i64 7]] := H
  refine loadN [(.int .i64 r__0), (.int .i64 r__1), (r__2h).v] rfl (fun j u hj => H.bx 0 rfl hj) ?_
  obtain ⟨y7, e, hF8⟩ := bindS hF; clear hF
  obtain ⟨⟨y7_0_0, y7_0_1⟩, y7_1⟩ := y7
  have ey7 := e; clear e
  refine callF (impl_ChoiceFunction_c p_ r__0 r__1 r__2 r__2h ports_ ports_h y7_0_0 y7_0_1 y7_1 ey7) (Γi := []) H ⟨Vw.sh 1 rfl, Vw.sh 2 rfl, Vw.gl 3 rfl, trivial⟩ ?_; clear H ey7
  rintro _ _ w9 ⟨h10, rfl, rfl⟩ (H : Cx w0 fp0 S0 w9 [E (List (List Int)) y7_0_1 h10, Bx b5 [(.int .i64 r__0), (.int .i64 r__1), (r__2h).v], Es (List (List Int)) r__2 r__2h, Es (List Int) ports_ ports_h, Gl 0 [.int .i64 2, .int .i64 3, .int .i64 5, .int .i64 7]])
  refine alloc_ gok rfl H ?_; clear H; intro b13 w12 hx H
  clear hx
  replace H : Cx w0 fp0 S0 w12 [Bx b13 [(.int .i64 0), (.slice none 0 0)], E (List (List Int)) y7_0_1 h10, Bx b5 [(.int .i64 r__0), (.int .i64 r__1), (r__2h).v], Es (List (List Int)) r__2 r__2h, Es (List Int) ports_ ports_h, Gl 0 [.int .i64 2, .int .i64 3, .int .i64 5, .int .i64 7]] := H
  refine stA gok [(.int .i64 y7_0_0), (h10).v] rfl H rfl rfl rfl ?_; clear H; intro w15 H
  replace H : Cx w0 fp0 S0 w15 [Bx b13 [(.int .i64 y7_0_0), (h10).v], E (List (List Int)) y7_0_1 h10, Bx b5 [(.int .i64 r__0), (.int .i64 r__1), (r__2h).v], Es (List (List Int)) r__2 r__2h, Es (List Int) ports_ ports_h, Gl 0 [.int .i64 2, .int .i64 3, .int .i64 5, .int .i64 7]] := H
  refine sq ?_
  obtain ⟨r37, hF39, hF38⟩ := bindS hF8; clear hF8
  refine cut (fun (q40 : Bool) => [(2, (ports_h).v), (3, (.int .i64 q_)), (5, (.pointer (some ⟨b5, 0, none⟩))), (10, (.pointer (some ⟨b13, 0, none⟩))), (37, (.bool q40))]) (fun (q40 : Bool) w' => q40 = r37 ∧ Cx w0 fp0 S0 w' [Es (List Int) ports_ ports_h, Bx b5 [(.int .i64 r__0), (.int .i64 r__1), (r__2h).v], Es (List (List Int)) r__2 r__2h, Bx b13 [(.int .i64 y7_0_0), (h10).v], E (List (List Int)) y7_0_1 h10, Gl 0 [.int .i64 2, .int .i64 3, .int .i64 5, .int .i64 7]]) ?_ ?_
  · skip
    obtain ⟨a41, e, hF42⟩ := bindS hF39; clear hF39
    refine boolO e ?_; clear e
    cases a41
    · have hF43 := condF hF42; clear hF42
      refine loadN [(.int .i64 r__0), (.int .i64 r__1), (r__2h).v] rfl (fun j u hj => H.bx 2 rfl hj) ?_
      obtain ⟨y44, e, hF45⟩ := bindS hF43; clear hF43
      have ey44 := e; clear e
      refine callF (impl_Relation_size_c r__0 r__1 r__2 r__2h y44 ey44) (Γi := []) H ⟨Vw.sh 3 rfl, trivial⟩ ?_; clear H ey44
      rintro _ _ w46 ⟨rfl, rfl⟩ (H : Cx w0 fp0 S0 w46 [Bx b13 [(.int .i64 y7_0_0), (h10).v], E (List (List Int)) y7_0_1 h10, Bx b5 [(.int .i64 r__0), (.int .i64 r__1), (r__2h).v], Es (List (List Int)) r__2 r__2h, Es (List Int) ports_ ports_h, Gl 0 [.int .i64 2, .int .i64 3, .int .i64 5, .int .i64 7]])
      obtain ⟨a47, e, hF48⟩ := bindS hF45; clear hF45
      refine arO e ?_; clear e
      obtain ⟨y49, e, hF50⟩ := bindS hF48; clear hF48
      have ey49 := e; clear e
      refine callF (impl_within_c q_ 0 a47 y49 ey49) (Γi := []) H trivial ?_; clear H ey49
      rintro _ _ w51 ⟨rfl, rfl⟩ (H : Cx w0 fp0 S0 w51 [Bx b13 [(.int .i64 y7_0_0), (h10).v], E (List (List Int)) y7_0_1 h10, Bx b5 [(.int .i64 r__0), (.int .i64 r__1), (r__2h).v], Es (List (List Int)) r__2 r__2h, Es (List Int) ports_ ports_h, Gl 0 [.int .i64 2, .int .i64 3, .int .i64 5, .int .i64 7]])
      obtain ⟨a52, e, hF53⟩ := bindS hF50; clear hF50
      refine boolO e ?_; clear e
      cases a52
      · have hF54 := condF hF53; clear hF53
        obtain ⟨y55, e, hF56⟩ := bindS hF54; clear hF54
        have ey55 := e; clear e
        refine callF (slices_Contains_int_int_c ports_ ports_h q_ y55 ey55) (Γi := []) H ⟨Vw.sh 4 rfl, trivial⟩ ?_; clear H ey55
        rintro _ _ w57 ⟨rfl, rfl⟩ (H : Cx w0 fp0 S0 w57 [Bx b13 [(.int .i64 y7_0_0), (h10).v], E (List (List Int)) y7_0_1 h10, Bx b5 [(.int .i64 r__0), (.int .i64 r__1), (r__2h).v], Es (List (List Int)) r__2 r__2h, Es (List Int) ports_ ports_h, Gl 0 [.int .i64 2, .int .i64 3, .int .i64 5, .int .i64 7]])
        exact ⟨y55, ⟨rfl, rfl, rfl, rfl, rfl, trivial⟩, Option.some.inj hF56, H.sel [4, 2, 3, 0, 1, 5] rfl⟩
      · have hF58 := condT hF53; clear hF53
        exact ⟨true, ⟨rfl, rfl, rfl, rfl, rfl, trivial⟩, Option.some.inj hF58, H.sel [4, 2, 3, 0, 1, 5] rfl⟩
    · have hF59 := condT hF42; clear hF42
      exact ⟨true, ⟨rfl, rfl, rfl, rfl, rfl, trivial⟩, Option.some.inj hF59, H.sel [4, 2, 3, 0, 1, 5] rfl⟩
  · clear hF39 H
    rintro T61 s35 w60 ⟨hr, (H : Cx w0 fp0 S0 w60 [Es (List Int) ports_ ports_h, Bx b5 [(.int .i64 r__0), (.int .i64 r__1), (r__2h).v], Es (List (List Int)) r__2 r__2h, Bx b13 [(.int .i64 y7_0_0), (h10).v], E (List (List Int)) y7_0_1 h10, Gl 0 [.int .i64 2, .int .i64 3, .int .i64 5, .int .i64 7]])⟩
    subst hr
    cases s35
    · have hF62 := condF hF38; clear hF38
      refine loadN [(.int .i64 r__0), (.int .i64 r__1), (r__2h).v] rfl (fun j u hj => H.bx 1 rfl hj) ?_
      obtain ⟨y63, e, hF64⟩ := bindS hF62; clear hF62
      have ey63 := e; clear e
      refine callF (impl_Relation_size_c r__0 r__1 r__2 r__2h y63 ey63) (Γi := []) H ⟨Vw.sh 2 rfl, trivial⟩ ?_; clear H ey63
      rintro _ _ w65 ⟨rfl, rfl⟩ (H : Cx w0 fp0 S0 w65 [Es (List Int) ports_ ports_h, Bx b5 [(.int .i64 r__0), (.int .i64 r__1), (r__2h).v], Es (List (List Int)) r__2 r__2h, Bx b13 [(.int .i64 y7_0_0), (h10).v], E (List (List Int)) y7_0_1 h10, Gl 0 [.int .i64 2, .int .i64 3, .int .i64 5, .int .i64 7]])
      obtain ⟨y66, e, hF67⟩ := bindS hF64; clear hF64
      have ey66 := e; clear e
      refine callF (impl_upTo_c y63 y66 ey66) (Γi := []) H trivial ?_; clear H ey66
      rintro _ _ w68 ⟨h69, rfl, rfl⟩ (H : Cx w0 fp0 S0 w68 [E (List Int) y66 h69, Es (List Int) ports_ ports_h, Bx b5 [(.int .i64 r__0), (.int .i64 r__1), (r__2h).v], Es (List (List Int)) r__2 r__2h, Bx b13 [(.int .i64 y7_0_0), (h10).v], E (List (List Int)) y7_0_1 h10, Gl 0 [.int .i64 2, .int .i64 3, .int .i64 5, .int .i64 7]])
      obtain ⟨y71, e, hF72⟩ := bindS hF67; clear hF67
      have ey71 := e; clear e
      refine callF (impl_others_c y66 h69 ports_ ports_h y71 ey71) (Γi := []) H ⟨Vw.own 0 rfl, Vw.sh 1 rfl, trivial⟩ ?_; clear H ey71
      rintro _ _ w73 ⟨h74, rfl, rfl⟩ (H : Cx w0 fp0 S0 w73 [E (List Int) y71 h74, E (List Int) y66 h69, Es (List Int) ports_ ports_h, Bx b5 [(.int .i64 r__0), (.int .i64 r__1), (r__2h).v], Es (List (List Int)) r__2 r__2h, Bx b13 [(.int .i64 y7_0_0), (h10).v], E (List (List Int)) y7_0_1 h10, Gl 0 [.int .i64 2, .int .i64 3, .int .i64 5, .int .i64 7]])
      obtain ⟨y76, e, hF77⟩ := bindS hF72; clear hF72
      have ey76 := e; clear e
      refine callF (slices_Index_int_int_c y71 h74 q_ y76 ey76) (Γi := []) H ⟨Vw.own 0 rfl, trivial⟩ ?_; clear H ey76
      rintro _ _ w78 ⟨rfl, rfl⟩ (H : Cx w0 fp0 S0 w78 [E (List Int) y71 h74, E (List Int) y66 h69, Es (List Int) ports_ ports_h, Bx b5 [(.int .i64 r__0), (.int .i64 r__1), (r__2h).v], Es (List (List Int)) r__2 r__2h, Bx b13 [(.int .i64 y7_0_0), (h10).v], E (List (List Int)) y7_0_1 h10, Gl 0 [.int .i64 2, .int .i64 3, .int .i64 5, .int .i64 7]])
      refine lit0 (α := Int) gok rfl rfl H ?_; clear H; intro h80 w79 hx H
      clear hx
      refine sq ?_
      refine fld gok rfl rfl rfl rfl ?_
      refine load1 (H.bx 6 rfl (j := 1) rfl) ?_
      refine lenE (H.ro (α := List (List Int)) 7 rfl).len ?_
      replace H := H.sel [7, 0, 1, 2, 3, 4, 5, 6, 8] rfl
      replace H := H.frz
      have hmx207 := (H.rs (α := List (List Int)) 0 rfl).max
      obtain ⟨r208, e, hF209⟩ := bindS hF77; clear hF77
      refine loopS _ y7_0_1.length (fun (k82 : Nat) (s204 : List Int) (g205 : Hd) => [(2, (ports_h).v), (12, (.int .i64 y76)), (13, (g205).v), (47, (h10).v), (48, (.int .i64 ((y7_0_1.length : Nat) : Int))), (49, (.int .i64 ((k82 : Nat) : Int)))]) (fun _ (s204 : List Int) (g205 : Hd) w' => Cx w0 fp0 S0 w' [Es (List Int) ports_ ports_h, E (List Int) s204 g205, Es (List (List Int)) y7_0_1 h10, Gl 0 [.int .i64 2, .int .i64 3, .int .i64 5, .int .i64 7]]) ([] : List Int) h80 e ⟨rfl, rfl, rfl, rfl, rfl, rfl, trivial⟩ (H.sel [4, 1, 0, 8] rfl) ?_ ?_
      · clear H e
        rintro T211 k82 s204 g205 w210 o212 hk (H : Cx w0 fp0 S0 w210 [Es (List Int) ports_ ports_h, E (List Int) s204 g205, Es (List (List Int)) y7_0_1 h10, Gl 0 [.int .i64 2, .int .i64 3, .int .i64 5, .int .i64 7]]) hF213
        refine boolE (z := true) (ltLen hk) ?_
        refine sq ?_
        refine sq ?_
        obtain ⟨a220, e, hF221⟩ := bindS hF213; clear hF213
        have HH := H; clear H; obtain ⟨p218, m219, h222, c214, c215, c216, c217, H⟩ := HH.elL 2 rfl e; clear HH
        clear e
        refine idxE c214 c215 c216 ?_; clear c214 c215 c216
        refine load1 c217 ?_; clear c217
        obtain ⟨a230, e, hF231⟩ := bindS hF221; clear hF221
        obtain ⟨p228, m229, c224, c225, c226, c227⟩ := (H.rs (α := List Int) 0 rfl).at1 e; clear e
        refine idxE c224 c225 c226 ?_; clear c224 c225 c226
        refine load1 c227 ?_; clear c227
        obtain ⟨a232, e, hF233⟩ := bindS hF231; clear hF231
        refine boolO e ?_; clear e
        cases a232
        · have hF234 := condF hF233; clear hF233
          refine arK hk hmx207 ?_
          have hs := Option.some.inj hF234; subst hs; clear hF234
          exact ⟨g205, ⟨rfl, rfl, rfl, rfl, rfl, rfl, trivial⟩, H.sel [1, 2, 3, 4] rfl⟩
        · have hF235 := condT hF233; clear hF233
          obtain ⟨a242, e, hF243⟩ := bindS hF235; clear hF235
          obtain ⟨p240, m241, c236, c237, c238, c239⟩ := (H.rs (α := List Int) 1 rfl).at1 e; clear e
          refine idxE c236 c237 c238 ?_; clear c236 c237 c238
          refine load1 c239 ?_; clear c239
          refine lit1S (α := Int) gok rfl rfl rfl rfl H ?_; clear H; intro h245 w244 hx H
          clear hx
          obtain ⟨a247, e, hF248⟩ := bindS hF243; clear hF243
          replace H := H.sel [3, 0, 1, 2, 4, 5] rfl
          refine append_ (α := Int) gok rfl rfl rfl rfl H e ?_; clear e H; intro h250 w249 H
          refine arK hk hmx207 ?_
          have hs := Option.some.inj hF248; subst hs; clear hF248
          exact ⟨h250, ⟨rfl, rfl, rfl, rfl, rfl, rfl, trivial⟩, H.sel [2, 0, 3, 4] rfl⟩
      · clear H e
        rintro T253 g255 w252 (H : Cx w0 fp0 S0 w252 [Es (List Int) ports_ ports_h, E (List Int) r208 g255, Es (List (List Int)) y7_0_1 h10, Gl 0 [.int .i64 2, .int .i64 3, .int .i64 5, .int .i64 7]])
        refine boolE (z := false) geLen ?_
        refine sq ?_
        cases hF209
        exact ⟨_, _, rfl, ⟨g255, rfl, rfl⟩, (H.sel [1] rfl).close ⟨cloE, trivial⟩⟩
    · have hF257 := condT hF38; clear hF38
      replace H := H.nil (α := Int)
      cases hF257
      exact ⟨_, _, rfl, ⟨nilH, rfl, rfl⟩, (H.sel [0] rfl).close ⟨cloE, trivial⟩⟩

theorem laws_eqIntS_c (a_ : List Int) (a_h : Hd) (b_ : List Int) (b_h : Hd) (y : Bool) (hF : F_laws_eqIntS a_ b_ = some y) :
    ConF Tryd.prog 35 #[(a_h).v, (b_h).v] [Es (List Int) a_ a_h, Es (List Int) b_ b_h] [] (fun v Γ' => v = (.bool y) ∧ Γ' = []) := by
  intro w0 S0 fp0 hI hS
  have H : Cx w0 fp0 S0 w0 [Es (List Int) a_ a_h, Es (List Int) b_ b_h] := Cx.start hI hS
  clear hI hS
  refine enterC (args := [_, _]) gok Tryd.func35 rfl _ rfl rfl rfl ?_
  refine sq ?_
  refine lenE (H.rs (α := List Int) 0 rfl).len ?_
  refine lenE (H.rs (α := List Int) 1 rfl).len ?_
  obtain ⟨a3, e, hF4⟩ := bindS hF; clear hF
  refine boolO e ?_; clear e
  cases a3
  · have hF5 := condF hF4; clear hF4
    obtain ⟨r104, hF106, hF105⟩ := bindS hF5; clear hF5
    refine cut (fun (q107 : Unit) => []) (fun (q107 : Unit) w' => .inl () = r104 ∧ Cx w0 fp0 S0 w' []) ?_ ?_
    · skip
      refine loopW _ (fun (s166 : Int) (_ : Unit) => [(0, (a_h).v), (1, (b_h).v), (5, (.int .i64 s166))]) (fun (s166 : Int) (_ : Unit) w' => Cx w0 fp0 S0 w' [Es (List Int) a_ a_h, Es (List Int) b_ b_h]) 0 () hF106 ⟨rfl, rfl, rfl, trivial⟩ (H.sel [0, 1] rfl) ?_
      · clear H
        rintro T172 s166 _ w171 o173 (H : Cx w0 fp0 S0 w171 [Es (List Int) a_ a_h, Es (List Int) b_ b_h]) hrt hF174
        refine sq ?_
        refine lenE (H.rs (α := List Int) 0 rfl).len ?_
        obtain ⟨a175, e, hF176⟩ := bindS hF174; clear hF174
        refine boolO e ?_; clear e
        cases a175
        · have hF177 := condF hF176; clear hF176
          have hs := Option.some.inj hF177; subst hs; clear hF177
          have hF178 : some _ = some _ := congrArg some (hrt _ rfl).symm
          exact ⟨(), trivial, Option.some.inj hF178, H.sel [] rfl⟩
        · have hF179 := condT hF176; clear hF176
          refine sq ?_
          refine heldX H [] (.fst 0 (.fst 1 (.fst 2 (.fst 4 (.fst 5 (.fst 6 (.fst 3 (.fst 7 (.fst 8 .done))))))))) mixed [] trivial (by kernel_rfl) ?_
          clear H; intro w180 H
          have hX : Ext w180 w180 := Upd.refl _ _
          have H0 := H
          obtain ⟨a187, e, hF188⟩ := bindS hF179; clear hF179
          obtain ⟨p185, m186, c181, c182, c183, c184⟩ := (H.rs (α := List Int) 0 rfl).at1 e; clear e
          refine idxE c181 c182 c183 ?_; clear c181 c182 c183
          obtain ⟨a195, e, hF196⟩ := bindS hF188; clear hF188
          obtain ⟨p193, m194, c189, c190, c191, c192⟩ := (H.rs (α := List Int) 1 rfl).at1 e; clear e
          refine idxE c189 c190 c191 ?_; clear c189 c190 c191
          refine load1X c184 ?_; clear c184
          refine load1X c192 ?_; clear c192
          obtain ⟨a197, e, hF198⟩ := bindS hF196; clear hF196
          refine boolO e ?_; clear e
          cases a197
          · have hF199 := condF hF198; clear hF198
            obtain ⟨a200, e, hF201⟩ := bindS hF199; clear hF199
            refine arO e ?_; clear e
            have hs := Option.some.inj hF201; subst hs; clear hF201
            exact ⟨a200, (), rfl, ⟨rfl, rfl, rfl, trivial⟩, H.sel [0, 1] rfl⟩
          · have hF202 := condT hF198; clear hF198
            have hs := Option.some.inj hF202; subst hs; clear hF202
            have hF203 : some _ = some _ := congrArg some (hrt _ rfl).symm
            have hs := Option.some.inj hF203; subst hs; clear hF203
            have hF204 : some _ = some _ := hF105; clear hF105
            cases hF204
            exact ⟨_, _, rfl, ⟨rfl, rfl⟩, (H.sel [] rfl).close trivial⟩
    · clear hF106 H
      rintro T206 _ w205 ⟨hr, (H : Cx w0 fp0 S0 w205 [])⟩
      subst hr
      cases hF105
      exact ⟨_, _, rfl, ⟨rfl, rfl⟩, (H.sel [] rfl).close trivial⟩
  · have hF207 := condT hF4; clear hF4
    cases hF207
    exact ⟨_, _, rfl, ⟨rfl, rfl⟩, (H.sel [] rfl).close trivial⟩
end Go.Proofs.YteikcdofblclhaaDoor
