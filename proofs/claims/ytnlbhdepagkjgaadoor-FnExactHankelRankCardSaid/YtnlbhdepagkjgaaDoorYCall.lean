/-
  Contracts, printed by a program (wip/y/gen.py): each function of Go computes its partial function. Condition of each: its partial function yields a value.
-/
import Derived.Test.YtnlbhdepagkjgaaDoorYEng
import Derived.Test.YtnlbhdepagkjgaaDoorYFn
namespace Go.Proofs.YtnlbhdepagkjgaaDoor
open Go Go.Proofs.YtnlbhdepagkjgaaDoor.RW
set_option maxRecDepth 100000
set_option linter.unusedVariables false

theorem laws_szIntS_c (a_ : List Int) (a_h : Hd) (left_ : Int) (y : Int) (hF : F_laws_szIntS a_ left_ = some y) :
    ConF Tryd.prog 113 #[(a_h).v, (.int .i64 left_)] [Es (List Int) a_ a_h] [] (fun v Γ' => v = (.int .i64 y) ∧ Γ' = []) := by
  intro w0 S0 fp0 hI hS
  have H : Cx w0 fp0 S0 w0 [Es (List Int) a_ a_h] := Cx.start hI hS
  clear hI hS
  refine enterC (args := [_, _]) gok Tryd.func113 rfl _ rfl rfl rfl ?_
  refine lenE (H.rs (α := List Int) 0 rfl).len ?_
  obtain ⟨a2, e, hF3⟩ := bindS hF; clear hF
  refine arO e ?_; clear e
  refine sq ?_
  obtain ⟨a4, e, hF5⟩ := bindS hF3; clear hF3
  refine boolO e ?_; clear e
  cases a4
  · have hF6 := condF hF5; clear hF5
    cases hF6
    exact ⟨_, _, rfl, ⟨rfl, rfl⟩, (H.sel [] rfl).close trivial⟩
  · have hF7 := condT hF5; clear hF5
    cases hF7
    exact ⟨_, _, rfl, ⟨rfl, rfl⟩, (H.sel [] rfl).close trivial⟩

theorem laws_szIntSS_c (a_ : List (List Int)) (a_h : Hd) (left_ : Int) (y : Int) (hF : F_laws_szIntSS a_ left_ = some y) :
    ConF Tryd.prog 61 #[(a_h).v, (.int .i64 left_)] [Es (List (List Int)) a_ a_h] [] (fun v Γ' => v = (.int .i64 y) ∧ Γ' = []) := by
  intro w0 S0 fp0 hI hS
  have H : Cx w0 fp0 S0 w0 [Es (List (List Int)) a_ a_h] := Cx.start hI hS
  clear hI hS
  refine enterC (args := [_, _]) gok Tryd.func61 rfl _ rfl rfl rfl ?_
  refine lenE (H.rs (α := List (List Int)) 0 rfl).len ?_
  obtain ⟨a2, e, hF3⟩ := bindS hF; clear hF
  refine arO e ?_; clear e
  refine sq ?_
  obtain ⟨a4, e, hF5⟩ := bindS hF3; clear hF3
  refine boolO e ?_; clear e
  cases a4
  · have hF6 := condF hF5; clear hF5
    obtain ⟨r93, hF95, hF94⟩ := bindS hF6; clear hF6
    refine cut (fun (q96 : Int) => [(1, (.int .i64 q96))]) (fun (q96 : Int) w' => .inl q96 = r93 ∧ Cx w0 fp0 S0 w' []) ?_ ?_
    · skip
      refine loopW _ (fun (s147 : Int × Int) (_ : Unit) => [(0, (a_h).v), (1, (.int .i64 s147.1)), (5, (.int .i64 s147.2))]) (fun (s147 : Int × Int) (_ : Unit) w' => Cx w0 fp0 S0 w' [Es (List (List Int)) a_ a_h]) (a2, 0) () hF95 ⟨rfl, rfl, rfl, trivial⟩ (H.sel [0] rfl) ?_
      · clear H
        rintro T153 ⟨s147_0, s147_1⟩ _ w152 o154 (H : Cx w0 fp0 S0 w152 [Es (List (List Int)) a_ a_h]) hrt hF155
        refine sq ?_
        refine lenE (H.rs (α := List (List Int)) 0 rfl).len ?_
        obtain ⟨a156, e, hF157⟩ := bindS hF155; clear hF155
        refine boolO e ?_; clear e
        cases a156
        · have hF158 := condF hF157; clear hF157
          have hs := Option.some.inj hF158; subst hs; clear hF158
          have hF159 : some _ = some _ := congrArg some (hrt _ rfl).symm
          exact ⟨s147_0, ⟨rfl, trivial⟩, Option.some.inj hF159, H.sel [] rfl⟩
        · have hF160 := condT hF157; clear hF157
          refine sq ?_
          obtain ⟨a167, e, hF168⟩ := bindS hF160; clear hF160
          have HH := H; clear H; obtain ⟨p165, m166, h169, c161, c162, c163, c164, H⟩ := HH.elL 0 rfl e; clear HH
          clear e
          refine idxE c161 c162 c163 ?_; clear c161 c162 c163
          refine load1 c164 ?_; clear c164
          obtain ⟨y171, e, hF172⟩ := bindS hF168; clear hF168
          have ey171 := e; clear e
          refine callF (laws_szIntS_c a167 h169 s147_0 y171 ey171) (Γi := []) H ⟨Vw.sh 0 rfl, trivial⟩ ?_; clear H ey171
          rintro _ _ w173 ⟨rfl, rfl⟩ (H : Cx w0 fp0 S0 w173 [Es (List Int) a167 h169, Es (List (List Int)) a_ a_h])
          obtain ⟨a174, e, hF175⟩ := bindS hF172; clear hF172
          refine boolO e ?_; clear e
          cases a174
          · have hF176 := condF hF175; clear hF175
            obtain ⟨a177, e, hF178⟩ := bindS hF176; clear hF176
            refine arO e ?_; clear e
            have hs := Option.some.inj hF178; subst hs; clear hF178
            exact ⟨(y171, a177), (), rfl, ⟨rfl, rfl, rfl, trivial⟩, H.sel [1] rfl⟩
          · have hF179 := condT hF175; clear hF175
            have hs := Option.some.inj hF179; subst hs; clear hF179
            have hF180 : some _ = some _ := congrArg some (hrt _ rfl).symm
            have hs := Option.some.inj hF180; subst hs; clear hF180
            have hF181 : some _ = some _ := hF94; clear hF94
            cases hF181
            exact ⟨_, _, rfl, ⟨rfl, rfl⟩, (H.sel [] rfl).close trivial⟩
    · clear hF95 H
      rintro T183 s91 w182 ⟨hr, (H : Cx w0 fp0 S0 w182 [])⟩
      subst hr
      cases hF94
      exact ⟨_, _, rfl, ⟨rfl, rfl⟩, (H.sel [] rfl).close trivial⟩
  · have hF184 := condT hF5; clear hF5
    cases hF184
    exact ⟨_, _, rfl, ⟨rfl, rfl⟩, (H.sel [] rfl).close trivial⟩

theorem laws_szMatrix_c (a__0 : Int) (a__1 : List (List Int)) (a__1h : Hd) (left_ : Int) (y : Int) (hF : F_laws_szMatrix (a__0, a__1) left_ = some y) :
    ConF Tryd.prog 55 #[(.agg #[(.int .i64 a__0), (a__1h).v]), (.int .i64 left_)] [Es (List (List Int)) a__1 a__1h] [] (fun v Γ' => v = (.int .i64 y) ∧ Γ' = []) := by
  intro w0 S0 fp0 hI hS
  have H : Cx w0 fp0 S0 w0 [Es (List (List Int)) a__1 a__1h] := Cx.start hI hS
  clear hI hS
  refine enterC (args := [_, _]) gok Tryd.func55 rfl _ rfl rfl rfl ?_
  refine box_ H ?_; clear H; intro b3 w2 hx H
  clear hx
  replace H : Cx w0 fp0 S0 w2 [Bx b3 [(.int .i64 a__0), (a__1h).v], Es (List (List Int)) a__1 a__1h] := H
  refine fld gok rfl rfl rfl rfl ?_
  refine load1 (H.bx 0 rfl (j := 1) rfl) ?_
  obtain ⟨y5, e, hF6⟩ := bindS hF; clear hF
  have ey5 := e; clear e
  refine callF (laws_szIntSS_c a__1 a__1h left_ y5 ey5) (Γi := []) H ⟨Vw.sh 1 rfl, trivial⟩ ?_; clear H ey5
  rintro _ _ w7 ⟨rfl, rfl⟩ (H : Cx w0 fp0 S0 w7 [Bx b3 [(.int .i64 a__0), (a__1h).v], Es (List (List Int)) a__1 a__1h])
  refine sq ?_
  obtain ⟨a8, e, hF9⟩ := bindS hF6; clear hF6
  refine boolO e ?_; clear e
  cases a8
  · have hF10 := condF hF9; clear hF9
    cases hF10
    exact ⟨_, _, rfl, ⟨rfl, rfl⟩, (H.sel [] rfl).close trivial⟩
  · have hF11 := condT hF9; clear hF9
    cases hF11
    exact ⟨_, _, rfl, ⟨rfl, rfl⟩, (H.sel [] rfl).close trivial⟩

theorem laws_szMatrixS_c (a_ : List (Int × List (List Int))) (a_h : Hd) (left_ : Int) (y : Int) (hF : F_laws_szMatrixS a_ left_ = some y) :
    ConF Tryd.prog 19 #[(a_h).v, (.int .i64 left_)] [Es (List (Int × List (List Int))) a_ a_h] [] (fun v Γ' => v = (.int .i64 y) ∧ Γ' = []) := by
  intro w0 S0 fp0 hI hS
  have H : Cx w0 fp0 S0 w0 [Es (List (Int × List (List Int))) a_ a_h] := Cx.start hI hS
  clear hI hS
  refine enterC (args := [_, _]) gok Tryd.func19 rfl _ rfl rfl rfl ?_
  refine lenE (H.rs (α := List (Int × List (List Int))) 0 rfl).len ?_
  obtain ⟨a2, e, hF3⟩ := bindS hF; clear hF
  refine arO e ?_; clear e
  refine sq ?_
  obtain ⟨a4, e, hF5⟩ := bindS hF3; clear hF3
  refine boolO e ?_; clear e
  cases a4
  · have hF6 := condF hF5; clear hF5
    obtain ⟨r99, hF101, hF100⟩ := bindS hF6; clear hF6
    refine cut (fun (q102 : Int) => [(1, (.int .i64 q102))]) (fun (q102 : Int) w' => .inl q102 = r99 ∧ Cx w0 fp0 S0 w' []) ?_ ?_
    · skip
      refine loopW _ (fun (s157 : Int × Int) (_ : Unit) => [(0, (a_h).v), (1, (.int .i64 s157.1)), (5, (.int .i64 s157.2))]) (fun (s157 : Int × Int) (_ : Unit) w' => Cx w0 fp0 S0 w' [Es (List (Int × List (List Int))) a_ a_h]) (a2, 0) () hF101 ⟨rfl, rfl, rfl, trivial⟩ (H.sel [0] rfl) ?_
      · clear H
        rintro T163 ⟨s157_0, s157_1⟩ _ w162 o164 (H : Cx w0 fp0 S0 w162 [Es (List (Int × List (List Int))) a_ a_h]) hrt hF165
        refine sq ?_
        refine lenE (H.rs (α := List (Int × List (List Int))) 0 rfl).len ?_
        obtain ⟨a166, e, hF167⟩ := bindS hF165; clear hF165
        refine boolO e ?_; clear e
        cases a166
        · have hF168 := condF hF167; clear hF167
          have hs := Option.some.inj hF168; subst hs; clear hF168
          have hF169 : some _ = some _ := congrArg some (hrt _ rfl).symm
          exact ⟨s157_0, ⟨rfl, trivial⟩, Option.some.inj hF169, H.sel [] rfl⟩
        · have hF170 := condT hF167; clear hF167
          refine sq ?_
          obtain ⟨a177, e, hF178⟩ := bindS hF170; clear hF170
          have HH := H; clear H; obtain ⟨p175, m176, g179, c171, c172, c173, c174, H⟩ := HH.el (α := Int × List (List Int)) 0 rfl e; clear HH
          clear e
          obtain ⟨a177_0, a177_1⟩ := a177
          obtain ⟨_, h181⟩ := g179
          replace H := H.part (β := List (List Int)) a177_1 (h181 : Hd) 0 rfl (fun S h => (And.right h))
          replace H := H.sel [0, 2] rfl
          refine idxE c171 c172 c173 ?_; clear c171 c172 c173
          refine loadN [(.int .i64 a177_0), (h181).v] rfl c174 ?_; clear c174
          obtain ⟨y183, e, hF184⟩ := bindS hF178; clear hF178
          have ey183 := e; clear e
          refine callF (laws_szMatrix_c a177_0 a177_1 h181 s157_0 y183 ey183) (Γi := []) H ⟨Vw.sh 0 rfl, trivial⟩ ?_; clear H ey183
          rintro _ _ w185 ⟨rfl, rfl⟩ (H : Cx w0 fp0 S0 w185 [Es (List (List Int)) a177_1 h181, Es (List (Int × List (List Int))) a_ a_h])
          obtain ⟨a186, e, hF187⟩ := bindS hF184; clear hF184
          refine boolO e ?_; clear e
          cases a186
          · have hF188 := condF hF187; clear hF187
            obtain ⟨a189, e, hF190⟩ := bindS hF188; clear hF188
            refine arO e ?_; clear e
            have hs := Option.some.inj hF190; subst hs; clear hF190
            exact ⟨(y183, a189), (), rfl, ⟨rfl, rfl, rfl, trivial⟩, H.sel [1] rfl⟩
          · have hF191 := condT hF187; clear hF187
            have hs := Option.some.inj hF191; subst hs; clear hF191
            have hF192 : some _ = some _ := congrArg some (hrt _ rfl).symm
            have hs := Option.some.inj hF192; subst hs; clear hF192
            have hF193 : some _ = some _ := hF100; clear hF100
            cases hF193
            exact ⟨_, _, rfl, ⟨rfl, rfl⟩, (H.sel [] rfl).close trivial⟩
    · clear hF101 H
      rintro T195 s97 w194 ⟨hr, (H : Cx w0 fp0 S0 w194 [])⟩
      subst hr
      cases hF100
      exact ⟨_, _, rfl, ⟨rfl, rfl⟩, (H.sel [] rfl).close trivial⟩
  · have hF196 := condT hF5; clear hF5
    cases hF196
    exact ⟨_, _, rfl, ⟨rfl, rfl⟩, (H.sel [] rfl).close trivial⟩

theorem laws_toIntS_c (a_ : List Int) (a_h : Hd) (y : List Int) (hF : F_laws_toIntS a_ = some y) :
    ConF Tryd.prog 32 #[(a_h).v] [Es (List Int) a_ a_h] [] (fun v Γ' => ∃ z0 : Hd, v = (z0).v ∧ Γ' = [E (List Int) y z0]) := by
  intro w0 S0 fp0 hI hS
  have H : Cx w0 fp0 S0 w0 [Es (List Int) a_ a_h] := Cx.start hI hS
  clear hI hS
  refine enterC (args := [_]) gok Tryd.func32 rfl _ rfl rfl rfl ?_
  refine lenE (H.rs (α := List Int) 0 rfl).len ?_
  obtain ⟨a2, e, hF3⟩ := bindS hF; clear hF
  refine make_ (α := Int) gok rfl rfl rfl rfl (makeCO_of e) H ?_; clear e H; intro h5 w4 hx H
  clear hx
  obtain ⟨r92, hF94, hF93⟩ := bindS hF3; clear hF3
  refine cut (fun (q95 : List Int) => [(3, (h5).v)]) (fun (q95 : List Int) w' => q95 = r92 ∧ Cx w0 fp0 S0 w' [E (List Int) q95 h5]) ?_ ?_
  · skip
    refine loopW _ (fun (s146 : List Int × Int) (_ : Unit) => [(0, (a_h).v), (3, (h5).v), (4, (.int .i64 s146.2))]) (fun (s146 : List Int × Int) (_ : Unit) w' => Cx w0 fp0 S0 w' [Es (List Int) a_ a_h, E (List Int) s146.1 h5]) (a2, 0) () hF94 ⟨rfl, rfl, rfl, trivial⟩ (H.sel [1, 0] rfl) ?_
    · clear H
      rintro T152 ⟨s146_0, s146_1⟩ _ w151 o153 (H : Cx w0 fp0 S0 w151 [Es (List Int) a_ a_h, E (List Int) s146_0 h5]) hrt hF154
      refine sq ?_
      refine lenE (H.rs (α := List Int) 0 rfl).len ?_
      obtain ⟨a155, e, hF156⟩ := bindS hF154; clear hF154
      refine boolO e ?_; clear e
      cases a155
      · have hF157 := condF hF156; clear hF156
        have hs := Option.some.inj hF157; subst hs; clear hF157
        have hF158 : some _ = some _ := congrArg some (hrt _ rfl).symm
        exact ⟨s146_0, ⟨rfl, trivial⟩, Option.some.inj hF158, H.sel [1] rfl⟩
      · have hF159 := condT hF156; clear hF156
        refine sq ?_
        obtain ⟨a166, e, hF167⟩ := bindS hF159; clear hF159
        obtain ⟨p164, m165, c160, c161, c162, c163⟩ := (H.rs (α := List Int) 0 rfl).at1 e; clear e
        refine idxE c160 c161 c162 ?_; clear c160 c161 c162
        refine load1 c163 ?_; clear c163
        obtain ⟨a174, e, hF175⟩ := bindS hF167; clear hF167
        have ea174 := e; clear e
        obtain ⟨p172, m173, c168, c169, c170⟩ := (H.ro (α := List Int) 1 rfl).setp ea174
        refine idxE c168 c169 c170 ?_
        replace H := H.sel [1, 0] rfl
        refine setS (α := Int) H c168 c169 ea174 ?_; clear H c168 c169 c170 ea174; intro w176 H
        obtain ⟨a177, e, hF178⟩ := bindS hF175; clear hF175
        refine arO e ?_; clear e
        have hs := Option.some.inj hF178; subst hs; clear hF178
        exact ⟨(a174, a177), (), rfl, ⟨rfl, rfl, rfl, trivial⟩, H.sel [1, 0] rfl⟩
  · clear hF94 H
    rintro T180 s90 w179 ⟨hr, (H : Cx w0 fp0 S0 w179 [E (List Int) s90 h5])⟩
    subst hr
    cases hF93
    exact ⟨_, _, rfl, ⟨h5, rfl, rfl⟩, (H.sel [0] rfl).close ⟨cloE, trivial⟩⟩

theorem laws_toIntSS_c (a_ : List (List Int)) (a_h : Hd) (y : List (List Int)) (hF : F_laws_toIntSS a_ = some y) :
    ConF Tryd.prog 64 #[(a_h).v] [Es (List (List Int)) a_ a_h] [] (fun v Γ' => ∃ z0 : Hd, v = (z0).v ∧ Γ' = [E (List (List Int)) y z0]) := by
  intro w0 S0 fp0 hI hS
  have H : Cx w0 fp0 S0 w0 [Es (List (List Int)) a_ a_h] := Cx.start hI hS
  clear hI hS
  refine enterC (args := [_]) gok Tryd.func64 rfl _ rfl rfl rfl ?_
  refine lenE (H.rs (α := List (List Int)) 0 rfl).len ?_
  obtain ⟨a2, e, hF3⟩ := bindS hF; clear hF
  refine make_ (α := List Int) gok rfl rfl rfl rfl (makeCO_of e) H ?_; clear e H; intro h5 w4 hx H
  clear hx
  obtain ⟨r113, hF115, hF114⟩ := bindS hF3; clear hF3
  refine cut (fun (q116 : List (List Int)) => [(3, (h5).v)]) (fun (q116 : List (List Int)) w' => q116 = r113 ∧ Cx w0 fp0 S0 w' [E (List (List Int)) q116 h5]) ?_ ?_
  · skip
    refine loopW _ (fun (s181 : List (List Int) × Int) (_ : Unit) => [(0, (a_h).v), (3, (h5).v), (4, (.int .i64 s181.2))]) (fun (s181 : List (List Int) × Int) (_ : Unit) w' => Cx w0 fp0 S0 w' [Es (List (List Int)) a_ a_h, E (List (List Int)) s181.1 h5]) (a2, 0) () hF115 ⟨rfl, rfl, rfl, trivial⟩ (H.sel [1, 0] rfl) ?_
    · clear H
      rintro T187 ⟨s181_0, s181_1⟩ _ w186 o188 (H : Cx w0 fp0 S0 w186 [Es (List (List Int)) a_ a_h, E (List (List Int)) s181_0 h5]) hrt hF189
      refine sq ?_
      refine lenE (H.rs (α := List (List Int)) 0 rfl).len ?_
      obtain ⟨a190, e, hF191⟩ := bindS hF189; clear hF189
      refine boolO e ?_; clear e
      cases a190
      · have hF192 := condF hF191; clear hF191
        have hs := Option.some.inj hF192; subst hs; clear hF192
        have hF193 : some _ = some _ := congrArg some (hrt _ rfl).symm
        exact ⟨s181_0, ⟨rfl, trivial⟩, Option.some.inj hF193, H.sel [1] rfl⟩
      · have hF194 := condT hF191; clear hF191
        refine sq ?_
        obtain ⟨a201, e, hF202⟩ := bindS hF194; clear hF194
        have HH := H; clear H; obtain ⟨p199, m200, h203, c195, c196, c197, c198, H⟩ := HH.elL 0 rfl e; clear HH
        clear e
        refine idxE c195 c196 c197 ?_; clear c195 c196 c197
        refine load1 c198 ?_; clear c198
        obtain ⟨y205, e, hF206⟩ := bindS hF202; clear hF202
        have ey205 := e; clear e
        refine callF (laws_toIntS_c a201 h203 y205 ey205) (Γi := []) H ⟨Vw.sh 0 rfl, trivial⟩ ?_; clear H ey205
        rintro _ _ w207 ⟨h208, rfl, rfl⟩ (H : Cx w0 fp0 S0 w207 [E (List Int) y205 h208, Es (List Int) a201 h203, Es (List (List Int)) a_ a_h, E (List (List Int)) s181_0 h5])
        obtain ⟨a216, e, hF217⟩ := bindS hF206; clear hF206
        have ea216 := e; clear e
        obtain ⟨p214, m215, c210, c211, c212⟩ := (H.ro (α := List (List Int)) 3 rfl).setp ea216
        refine idxE c210 c211 c212 ?_
        replace H := H.sel [3, 0, 1, 2] rfl
        refine setL H c210 c211 ea216 ?_; clear H c210 c211 c212 ea216; intro w218 H
        obtain ⟨a219, e, hF220⟩ := bindS hF217; clear hF217
        refine arO e ?_; clear e
        have hs := Option.some.inj hF220; subst hs; clear hF220
        exact ⟨(a216, a219), (), rfl, ⟨rfl, rfl, rfl, trivial⟩, H.sel [2, 0] rfl⟩
  · clear hF115 H
    rintro T222 s111 w221 ⟨hr, (H : Cx w0 fp0 S0 w221 [E (List (List Int)) s111 h5])⟩
    subst hr
    cases hF114
    exact ⟨_, _, rfl, ⟨h5, rfl, rfl⟩, (H.sel [0] rfl).close ⟨cloE, trivial⟩⟩

theorem laws_toMatrix_c (a__0 : Int) (a__1 : List (List Int)) (a__1h : Hd) (y_0 : Int) (y_1 : List (List Int)) (hF : F_laws_toMatrix (a__0, a__1) = some (y_0, y_1)) :
    ConF Tryd.prog 57 #[(.agg #[(.int .i64 a__0), (a__1h).v])] [Es (List (List Int)) a__1 a__1h] [] (fun v Γ' => ∃ z0 : Hd, v = (.agg #[(.int .i64 y_0), (z0).v]) ∧ Γ' = [E (List (List Int)) y_1 z0]) := by
  intro w0 S0 fp0 hI hS
  have H : Cx w0 fp0 S0 w0 [Es (List (List Int)) a__1 a__1h] := Cx.start hI hS
  clear hI hS
  refine enterC (args := [_]) gok Tryd.func57 rfl _ rfl rfl rfl ?_
  refine box_ H ?_; clear H; intro b3 w2 hx H
  clear hx
  replace H : Cx w0 fp0 S0 w2 [Bx b3 [(.int .i64 a__0), (a__1h).v], Es (List (List Int)) a__1 a__1h] := H
  refine alloc_ gok rfl H ?_; clear H; intro b6 w5 hx H
  clear hx
  replace H : Cx w0 fp0 S0 w5 [Bx b6 [(.int .i64 0), (.slice none 0 0)], Bx b3 [(.int .i64 a__0), (a__1h).v], Es (List (List Int)) a__1 a__1h] := H
  refine alloc_ gok rfl H ?_; clear H; intro b9 w8 hx H
  clear hx
  replace H : Cx w0 fp0 S0 w8 [Bx b9 [(.int .i64 0), (.slice none 0 0)], Bx b6 [(.int .i64 0), (.slice none 0 0)], Bx b3 [(.int .i64 a__0), (a__1h).v], Es (List (List Int)) a__1 a__1h] := H
  refine fld gok rfl rfl rfl rfl ?_
  refine load1 (H.bx 2 rfl (j := 0) rfl) ?_
  refine fld gok rfl rfl rfl rfl ?_
  refine stB (j := 0) H rfl rfl ?_; clear H; intro w11 H
  replace H : Cx w0 fp0 S0 w11 [Bx b9 [(.int .i64 a__0), (.slice none 0 0)], Bx b6 [(.int .i64 0), (.slice none 0 0)], Bx b3 [(.int .i64 a__0), (a__1h).v], Es (List (List Int)) a__1 a__1h] := H
  refine fld gok rfl rfl rfl rfl ?_
  refine load1 (H.bx 2 rfl (j := 1) rfl) ?_
  obtain ⟨y12, e, hF13⟩ := bindS hF; clear hF
  have ey12 := e; clear e
  refine callF (laws_toIntSS_c a__1 a__1h y12 ey12) (Γi := []) H ⟨Vw.sh 3 rfl, trivial⟩ ?_; clear H ey12
  rintro _ _ w14 ⟨h15, rfl, rfl⟩ (H : Cx w0 fp0 S0 w14 [E (List (List Int)) y12 h15, Bx b9 [(.int .i64 a__0), (.slice none 0 0)], Bx b6 [(.int .i64 0), (.slice none 0 0)], Bx b3 [(.int .i64 a__0), (a__1h).v], Es (List (List Int)) a__1 a__1h])
  refine fld gok rfl rfl rfl rfl ?_
  replace H := H.sel [1, 0, 2, 3, 4] rfl
  refine stB (j := 1) H rfl rfl ?_; clear H; intro w17 H
  replace H : Cx w0 fp0 S0 w17 [Bx b9 [(.int .i64 a__0), (h15).v], E (List (List Int)) y12 h15, Bx b6 [(.int .i64 0), (.slice none 0 0)], Bx b3 [(.int .i64 a__0), (a__1h).v], Es (List (List Int)) a__1 a__1h] := H
  refine loadN [(.int .i64 a__0), (h15).v] rfl (fun j u hj => H.bx 0 rfl hj) ?_
  replace H := H.sel [2, 0, 1, 3, 4] rfl
  refine stA gok [(.int .i64 a__0), (h15).v] rfl H rfl rfl rfl ?_; clear H; intro w18 H
  replace H : Cx w0 fp0 S0 w18 [Bx b6 [(.int .i64 a__0), (h15).v], Bx b9 [(.int .i64 a__0), (h15).v], E (List (List Int)) y12 h15, Bx b3 [(.int .i64 a__0), (a__1h).v], Es (List (List Int)) a__1 a__1h] := H
  refine loadN [(.int .i64 a__0), (h15).v] rfl (fun j u hj => H.bx 0 rfl hj) ?_
  cases hF13
  exact ⟨_, _, rfl, ⟨h15, rfl, rfl⟩, (H.sel [2] rfl).close ⟨cloE, trivial⟩⟩

theorem laws_toMatrixS_c (a_ : List (Int × List (List Int))) (a_h : Hd) (y : List (Int × List (List Int))) (hF : F_laws_toMatrixS a_ = some y) :
    ConF Tryd.prog 21 #[(a_h).v] [Es (List (Int × List (List Int))) a_ a_h] [] (fun v Γ' => ∃ z0 : Hd, v = (z0).v ∧ Γ' = [E (List (Int × List (List Int))) y z0]) := by
  intro w0 S0 fp0 hI hS
  have H : Cx w0 fp0 S0 w0 [Es (List (Int × List (List Int))) a_ a_h] := Cx.start hI hS
  clear hI hS
  refine enterC (args := [_]) gok Tryd.func21 rfl _ rfl rfl rfl ?_
  refine lenE (H.rs (α := List (Int × List (List Int))) 0 rfl).len ?_
  obtain ⟨a2, e, hF3⟩ := bindS hF; clear hF
  refine make_ (α := Int × List (List Int)) gok rfl rfl rfl rfl (makeCO_of e) H ?_; clear e H; intro h5 w4 hx H
  clear hx
  obtain ⟨r125, hF127, hF126⟩ := bindS hF3; clear hF3
  refine cut (fun (q128 : List (Int × List (List Int))) => [(3, (h5).v)]) (fun (q128 : List (Int × List (List Int))) w' => q128 = r125 ∧ Cx w0 fp0 S0 w' [E (List (Int × List (List Int))) q128 h5]) ?_ ?_
  · skip
    refine loopW _ (fun (s201 : (List (Int × List (List Int))) × Int) (_ : Unit) => [(0, (a_h).v), (3, (h5).v), (4, (.int .i64 s201.2))]) (fun (s201 : (List (Int × List (List Int))) × Int) (_ : Unit) w' => Cx w0 fp0 S0 w' [Es (List (Int × List (List Int))) a_ a_h, E (List (Int × List (List Int))) s201.1 h5]) (a2, 0) () hF127 ⟨rfl, rfl, rfl, trivial⟩ (H.sel [1, 0] rfl) ?_
    · clear H
      rintro T207 ⟨s201_0, s201_1⟩ _ w206 o208 (H : Cx w0 fp0 S0 w206 [Es (List (Int × List (List Int))) a_ a_h, E (List (Int × List (List Int))) s201_0 h5]) hrt hF209
      refine sq ?_
      refine lenE (H.rs (α := List (Int × List (List Int))) 0 rfl).len ?_
      obtain ⟨a210, e, hF211⟩ := bindS hF209; clear hF209
      refine boolO e ?_; clear e
      cases a210
      · have hF212 := condF hF211; clear hF211
        have hs := Option.some.inj hF212; subst hs; clear hF212
        have hF213 : some _ = some _ := congrArg some (hrt _ rfl).symm
        exact ⟨s201_0, ⟨rfl, trivial⟩, Option.some.inj hF213, H.sel [1] rfl⟩
      · have hF214 := condT hF211; clear hF211
        refine sq ?_
        obtain ⟨a221, e, hF222⟩ := bindS hF214; clear hF214
        have HH := H; clear H; obtain ⟨p219, m220, g223, c215, c216, c217, c218, H⟩ := HH.el (α := Int × List (List Int)) 0 rfl e; clear HH
        clear e
        obtain ⟨a221_0, a221_1⟩ := a221
        obtain ⟨_, h225⟩ := g223
        replace H := H.part (β := List (List Int)) a221_1 (h225 : Hd) 0 rfl (fun S h => (And.right h))
        replace H := H.sel [0, 2, 3] rfl
        refine idxE c215 c216 c217 ?_; clear c215 c216 c217
        refine loadN [(.int .i64 a221_0), (h225).v] rfl c218 ?_; clear c218
        obtain ⟨y227, e, hF228⟩ := bindS hF222; clear hF222
        obtain ⟨y227_0, y227_1⟩ := y227
        have ey227 := e; clear e
        refine callF (laws_toMatrix_c a221_0 a221_1 h225 y227_0 y227_1 ey227) (Γi := []) H ⟨Vw.sh 0 rfl, trivial⟩ ?_; clear H ey227
        rintro _ _ w229 ⟨h230, rfl, rfl⟩ (H : Cx w0 fp0 S0 w229 [E (List (List Int)) y227_1 h230, Es (List (List Int)) a221_1 h225, Es (List (Int × List (List Int))) a_ a_h, E (List (Int × List (List Int))) s201_0 h5])
        replace H := H.sc (α := Int) y227_0
        replace H := H.join (α := Int) (β := List (List Int))
        obtain ⟨a240, e, hF241⟩ := bindS hF228; clear hF228
        have ea240 := e; clear e
        replace H := H.sel [3, 0, 1, 2] rfl
        have HH := H; clear H; obtain ⟨p236, m237, c235, c232, c233, c234, H⟩ := HH.hole (α := Int × List (List Int)) ea240; clear HH
        refine idxE c232 c233 c234 ?_
        refine stXA (α := Int × List (List Int)) gok [(.int .i64 y227_0), (h230).v] rfl rfl H c232 rfl rfl ?_; clear H; intro w242 H
        replace H := H.sel [1, 0, 2, 3] rfl
        replace H := H.put c233 ea240; clear c232 c233 c234 ea240
        obtain ⟨a243, e, hF244⟩ := bindS hF241; clear hF241
        refine arO e ?_; clear e
        have hs := Option.some.inj hF244; subst hs; clear hF244
        exact ⟨(a240, a243), (), rfl, ⟨rfl, rfl, rfl, trivial⟩, H.sel [2, 0] rfl⟩
  · clear hF127 H
    rintro T246 s123 w245 ⟨hr, (H : Cx w0 fp0 S0 w245 [E (List (Int × List (List Int))) s123 h5])⟩
    subst hr
    cases hF126
    exact ⟨_, _, rfl, ⟨h5, rfl, rfl⟩, (H.sel [0] rfl).close ⟨cloE, trivial⟩⟩

theorem spec_l1In_c (n_ : Int) (lo_ : Int) (hi_ : Int) (y : Bool) (hF : F_spec_l1In n_ lo_ hi_ = some y) :
    ConF Tryd.prog 75 #[(.int .i64 n_), (.int .i64 lo_), (.int .i64 hi_)] [] [] (fun v Γ' => v = (.bool y) ∧ Γ' = []) := by
  intro w0 S0 fp0 hI hS
  have H : Cx w0 fp0 S0 w0 [] := Cx.start hI hS
  clear hI hS
  refine enterC (args := [_, _, _]) gok Tryd.func75 rfl _ rfl rfl rfl ?_
  obtain ⟨r9, hF11, hF10⟩ := bindS hF; clear hF
  refine cut (fun (q12 : Bool) => [(6, (.bool q12))]) (fun (q12 : Bool) w' => q12 = r9 ∧ Cx w0 fp0 S0 w' []) ?_ ?_
  · skip
    obtain ⟨a13, e, hF14⟩ := bindS hF11; clear hF11
    refine boolO e ?_; clear e
    cases a13
    · have hF15 := condF hF14; clear hF14
      exact ⟨false, ⟨rfl, trivial⟩, Option.some.inj hF15, H.sel [] rfl⟩
    · have hF16 := condT hF14; clear hF14
      obtain ⟨a17, e, hF18⟩ := bindS hF16; clear hF16
      refine boolO e ?_; clear e
      exact ⟨a17, ⟨rfl, trivial⟩, Option.some.inj hF18, H.sel [] rfl⟩
  · clear hF11 H
    rintro T20 s7 w19 ⟨hr, (H : Cx w0 fp0 S0 w19 [])⟩
    subst hr
    cases hF10
    exact ⟨_, _, rfl, ⟨rfl, rfl⟩, (H.sel [] rfl).close trivial⟩

theorem spec_fdGood_c (p_ : Int) (y : Bool) (hF : F_spec_fdGood p_ = some y) :
    ConF Tryd.prog 117 #[(.int .i64 p_)] [] [] (fun v Γ' => v = (.bool y) ∧ Γ' = []) := by
  intro w0 S0 fp0 hI hS
  have H : Cx w0 fp0 S0 w0 [] := Cx.start hI hS
  clear hI hS
  refine enterC (args := [_]) gok Tryd.func117 rfl _ rfl rfl rfl ?_
  refine sq ?_
  obtain ⟨y1, e, hF2⟩ := bindS hF; clear hF
  have ey1 := e; clear e
  refine callF (spec_l1In_c p_ 2 97 y1 ey1) (Γi := []) H trivial ?_; clear H ey1
  rintro _ _ w3 ⟨rfl, rfl⟩ (H : Cx w0 fp0 S0 w3 [])
  obtain ⟨a4, e, hF5⟩ := bindS hF2; clear hF2
  refine boolO e ?_; clear e
  cases a4
  · have hF6 := condF hF5; clear hF5
    obtain ⟨r66, hF68, hF67⟩ := bindS hF6; clear hF6
    refine cut (fun (q69 : Unit) => []) (fun (q69 : Unit) w' => .inl () = r66 ∧ Cx w0 fp0 S0 w' []) ?_ ?_
    · skip
      refine loopW _ (fun (s102 : Int) (_ : Unit) => [(0, (.int .i64 p_)), (3, (.int .i64 s102))]) (fun (s102 : Int) (_ : Unit) w' => Cx w0 fp0 S0 w' []) 2 () hF68 ⟨rfl, rfl, trivial⟩ (H.sel [] rfl) ?_
      · clear H
        rintro T108 s102 _ w107 o109 (H : Cx w0 fp0 S0 w107 []) hrt hF110
        refine sq ?_
        obtain ⟨a111, e, hF112⟩ := bindS hF110; clear hF110
        refine arO e ?_; clear e
        obtain ⟨a113, e, hF114⟩ := bindS hF112; clear hF112
        refine boolO e ?_; clear e
        cases a113
        · have hF115 := condF hF114; clear hF114
          have hs := Option.some.inj hF115; subst hs; clear hF115
          have hF116 : some _ = some _ := congrArg some (hrt _ rfl).symm
          exact ⟨(), trivial, Option.some.inj hF116, H.sel [] rfl⟩
        · have hF117 := condT hF114; clear hF114
          refine sq ?_
          obtain ⟨a118, e, hF119⟩ := bindS hF117; clear hF117
          refine remO_ e ?_; clear e
          obtain ⟨a120, e, hF121⟩ := bindS hF119; clear hF119
          refine boolO e ?_; clear e
          cases a120
          · have hF122 := condF hF121; clear hF121
            obtain ⟨a123, e, hF124⟩ := bindS hF122; clear hF122
            refine arO e ?_; clear e
            have hs := Option.some.inj hF124; subst hs; clear hF124
            exact ⟨a123, (), rfl, ⟨rfl, rfl, trivial⟩, H.sel [] rfl⟩
          · have hF125 := condT hF121; clear hF121
            have hs := Option.some.inj hF125; subst hs; clear hF125
            have hF126 : some _ = some _ := congrArg some (hrt _ rfl).symm
            have hs := Option.some.inj hF126; subst hs; clear hF126
            have hF127 : some _ = some _ := hF67; clear hF67
            cases hF127
            exact ⟨_, _, rfl, ⟨rfl, rfl⟩, (H.sel [] rfl).close trivial⟩
    · clear hF68 H
      rintro T129 _ w128 ⟨hr, (H : Cx w0 fp0 S0 w128 [])⟩
      subst hr
      cases hF67
      exact ⟨_, _, rfl, ⟨rfl, rfl⟩, (H.sel [] rfl).close trivial⟩
  · have hF130 := condT hF5; clear hF5
    cases hF130
    exact ⟨_, _, rfl, ⟨rfl, rfl⟩, (H.sel [] rfl).close trivial⟩

theorem spec_l1All_c (l_ : List Int) (l_h : Hd) (lo_ : Int) (hi_ : Int) (y : Bool) (hF : F_spec_l1All l_ lo_ hi_ = some y) :
    ConF Tryd.prog 137 #[(l_h).v, (.int .i64 lo_), (.int .i64 hi_)] [Es (List Int) l_ l_h] [] (fun v Γ' => v = (.bool y) ∧ Γ' = []) := by
  intro w0 S0 fp0 hI hS
  have H : Cx w0 fp0 S0 w0 [Es (List Int) l_ l_h] := Cx.start hI hS
  clear hI hS
  refine enterC (args := [_, _, _]) gok Tryd.func137 rfl _ rfl rfl rfl ?_
  refine sq ?_
  refine lenE (H.rs (α := List Int) 0 rfl).len ?_
  have hmx22 := (H.rs (α := List Int) 0 rfl).max
  obtain ⟨r23, e, hF24⟩ := bindS hF; clear hF
  refine loopO _ l_.length (fun (k2 : Nat) (_ : Unit) (_ : Unit) => [(1, (.int .i64 lo_)), (2, (.int .i64 hi_)), (9, (l_h).v), (10, (.int .i64 ((l_.length : Nat) : Int))), (11, (.int .i64 ((k2 : Nat) : Int)))]) (fun _ (_ : Unit) (_ : Unit) w' => Cx w0 fp0 S0 w' [Es (List Int) l_ l_h]) () () e ⟨rfl, rfl, rfl, rfl, rfl, trivial⟩ (H.sel [0] rfl) ?_ ?_
  · clear H e
    rintro T26 k2 _ _ w25 o27 hk (H : Cx w0 fp0 S0 w25 [Es (List Int) l_ l_h]) hrt hF28
    refine boolE (z := true) (ltLen hk) ?_
    refine sq ?_
    refine sq ?_
    obtain ⟨a35, e, hF36⟩ := bindS hF28; clear hF28
    obtain ⟨p33, m34, c29, c30, c31, c32⟩ := (H.rs (α := List Int) 0 rfl).at1 e; clear e
    refine idxE c29 c30 c31 ?_; clear c29 c30 c31
    refine load1 c32 ?_; clear c32
    obtain ⟨y37, e, hF38⟩ := bindS hF36; clear hF36
    have ey37 := e; clear e
    refine callF (spec_l1In_c a35 lo_ hi_ y37 ey37) (Γi := []) H trivial ?_; clear H ey37
    rintro _ _ w39 ⟨rfl, rfl⟩ (H : Cx w0 fp0 S0 w39 [Es (List Int) l_ l_h])
    obtain ⟨a40, e, hF41⟩ := bindS hF38; clear hF38
    refine boolO e ?_; clear e
    cases a40
    · have hF42 := condF hF41; clear hF41
      refine arK hk hmx22 ?_
      have hs := Option.some.inj hF42; subst hs; clear hF42
      exact ⟨(), (), rfl, ⟨rfl, rfl, rfl, rfl, rfl, trivial⟩, H.sel [0] rfl⟩
    · have hF43 := condT hF41; clear hF41
      have hs := Option.some.inj hF43; subst hs; clear hF43
      have hr := hrt _ rfl; subst hr
      have hF44 : some _ = some _ := hF24
      cases hF44
      exact ⟨_, _, rfl, ⟨rfl, rfl⟩, (H.sel [] rfl).close trivial⟩
  · clear H e
    rintro T46 _ _ w45 hr (H : Cx w0 fp0 S0 w45 [Es (List Int) l_ l_h])
    subst hr
    refine boolE (z := false) geLen ?_
    refine sq ?_
    cases hF24
    exact ⟨_, _, rfl, ⟨rfl, rfl⟩, (H.sel [] rfl).close trivial⟩

theorem spec_fdIn_c (p_ : Int) (l_ : List Int) (l_h : Hd) (y : Bool) (hF : F_spec_fdIn p_ l_ = some y) :
    ConF Tryd.prog 91 #[(.int .i64 p_), (l_h).v] [Es (List Int) l_ l_h] [] (fun v Γ' => v = (.bool y) ∧ Γ' = []) := by
  intro w0 S0 fp0 hI hS
  have H : Cx w0 fp0 S0 w0 [Es (List Int) l_ l_h] := Cx.start hI hS
  clear hI hS
  refine enterC (args := [_, _]) gok Tryd.func91 rfl _ rfl rfl rfl ?_
  obtain ⟨a2, e, hF3⟩ := bindS hF; clear hF
  refine arO e ?_; clear e
  obtain ⟨y4, e, hF5⟩ := bindS hF3; clear hF3
  have ey4 := e; clear e
  refine callF (spec_l1All_c l_ l_h 0 a2 y4 ey4) (Γi := []) H ⟨Vw.sh 0 rfl, trivial⟩ ?_; clear H ey4
  rintro _ _ w6 ⟨rfl, rfl⟩ (H : Cx w0 fp0 S0 w6 [Es (List Int) l_ l_h])
  cases hF5
  exact ⟨_, _, rfl, ⟨rfl, rfl⟩, (H.sel [] rfl).close trivial⟩

theorem spec_mxGood_c (p_ : Int) (m__0 : Int) (m__1 : List (List Int)) (m__1h : Hd) (y : Bool) (hF : F_spec_mxGood p_ (m__0, m__1) = some y) :
    ConF Tryd.prog 106 #[(.int .i64 p_), (.agg #[(.int .i64 m__0), (m__1h).v])] [Es (List (List Int)) m__1 m__1h] [] (fun v Γ' => v = (.bool y) ∧ Γ' = []) := by
  intro w0 S0 fp0 hI hS
  have H : Cx w0 fp0 S0 w0 [Es (List (List Int)) m__1 m__1h] := Cx.start hI hS
  clear hI hS
  refine enterC (args := [_, _]) gok Tryd.func106 rfl _ rfl rfl rfl ?_
  refine box_ H ?_; clear H; intro b3 w2 hx H
  clear hx
  replace H : Cx w0 fp0 S0 w2 [Bx b3 [(.int .i64 m__0), (m__1h).v], Es (List (List Int)) m__1 m__1h] := H
  refine sq ?_
  obtain ⟨r23, hF25, hF24⟩ := bindS hF; clear hF
  refine cut (fun (q26 : Bool) => [(0, (.int .i64 p_)), (3, (.pointer (some ⟨b3, 0, none⟩))), (21, (.bool q26))]) (fun (q26 : Bool) w' => q26 = r23 ∧ Cx w0 fp0 S0 w' [Bx b3 [(.int .i64 m__0), (m__1h).v], Es (List (List Int)) m__1 m__1h]) ?_ ?_
  · skip
    obtain ⟨y27, e, hF28⟩ := bindS hF25; clear hF25
    have ey27 := e; clear e
    refine callF (spec_fdGood_c p_ y27 ey27) (Γi := []) H trivial ?_; clear H ey27
    rintro _ _ w29 ⟨rfl, rfl⟩ (H : Cx w0 fp0 S0 w29 [Bx b3 [(.int .i64 m__0), (m__1h).v], Es (List (List Int)) m__1 m__1h])
    obtain ⟨a30, e, hF31⟩ := bindS hF28; clear hF28
    refine boolO e ?_; clear e
    cases a30
    · have hF32 := condF hF31; clear hF31
      refine fld gok rfl rfl rfl rfl ?_
      refine load1 (H.bx 0 rfl (j := 0) rfl) ?_
      obtain ⟨y33, e, hF34⟩ := bindS hF32; clear hF32
      have ey33 := e; clear e
      refine callF (spec_l1In_c m__0 0 24 y33 ey33) (Γi := []) H trivial ?_; clear H ey33
      rintro _ _ w35 ⟨rfl, rfl⟩ (H : Cx w0 fp0 S0 w35 [Bx b3 [(.int .i64 m__0), (m__1h).v], Es (List (List Int)) m__1 m__1h])
      obtain ⟨a36, e, hF37⟩ := bindS hF34; clear hF34
      refine boolO e ?_; clear e
      cases a36
      · have hF38 := condF hF37; clear hF37
        refine fld gok rfl rfl rfl rfl ?_
        refine load1 (H.bx 0 rfl (j := 1) rfl) ?_
        refine lenE (H.rs (α := List (List Int)) 1 rfl).len ?_
        obtain ⟨a39, e, hF40⟩ := bindS hF38; clear hF38
        refine boolO e ?_; clear e
        exact ⟨a39, ⟨rfl, rfl, rfl, trivial⟩, Option.some.inj hF40, H.sel [0, 1] rfl⟩
      · have hF41 := condT hF37; clear hF37
        exact ⟨true, ⟨rfl, rfl, rfl, trivial⟩, Option.some.inj hF41, H.sel [0, 1] rfl⟩
    · have hF42 := condT hF31; clear hF31
      exact ⟨true, ⟨rfl, rfl, rfl, trivial⟩, Option.some.inj hF42, H.sel [0, 1] rfl⟩
  · clear hF25 H
    rintro T44 s21 w43 ⟨hr, (H : Cx w0 fp0 S0 w43 [Bx b3 [(.int .i64 m__0), (m__1h).v], Es (List (List Int)) m__1 m__1h])⟩
    subst hr
    cases s21
    · have hF45 := condF hF24; clear hF24
      refine sq ?_
      refine fld gok rfl rfl rfl rfl ?_
      refine load1 (H.bx 0 rfl (j := 1) rfl) ?_
      refine lenE (H.rs (α := List (List Int)) 1 rfl).len ?_
      have hmx89 := (H.rs (α := List (List Int)) 1 rfl).max
      obtain ⟨r90, e, hF91⟩ := bindS hF45; clear hF45
      refine loopO _ m__1.length (fun (k46 : Nat) (_ : Unit) (_ : Unit) => [(0, (.int .i64 p_)), (3, (.pointer (some ⟨b3, 0, none⟩))), (23, (m__1h).v), (24, (.int .i64 ((m__1.length : Nat) : Int))), (25, (.int .i64 ((k46 : Nat) : Int)))]) (fun _ (_ : Unit) (_ : Unit) w' => Cx w0 fp0 S0 w' [Bx b3 [(.int .i64 m__0), (m__1h).v], Es (List (List Int)) m__1 m__1h]) () () e ⟨rfl, rfl, rfl, rfl, rfl, trivial⟩ (H.sel [0, 1] rfl) ?_ ?_
      · clear H e
        rintro T93 k46 _ _ w92 o94 hk (H : Cx w0 fp0 S0 w92 [Bx b3 [(.int .i64 m__0), (m__1h).v], Es (List (List Int)) m__1 m__1h]) hrt hF95
        refine boolE (z := true) (ltLen hk) ?_
        refine sq ?_
        refine sq ?_
        obtain ⟨a102, e, hF103⟩ := bindS hF95; clear hF95
        have HH := H; clear H; obtain ⟨p100, m101, h104, c96, c97, c98, c99, H⟩ := HH.elL 1 rfl e; clear HH
        clear e
        refine idxE c96 c97 c98 ?_; clear c96 c97 c98
        refine load1 c99 ?_; clear c99
        obtain ⟨r117, hF119, hF118⟩ := bindS hF103; clear hF103
        refine cut (fun (q120 : Bool) => [(0, (.int .i64 p_)), (3, (.pointer (some ⟨b3, 0, none⟩))), (23, (m__1h).v), (24, (.int .i64 ((m__1.length : Nat) : Int))), (25, (.int .i64 ((k46 : Nat) : Int))), (39, (.bool q120))]) (fun (q120 : Bool) w' => q120 = r117 ∧ Cx w0 fp0 S0 w' [Bx b3 [(.int .i64 m__0), (m__1h).v], Es (List (List Int)) m__1 m__1h]) ?_ ?_
        · skip
          refine lenE (H.rs (α := List Int) 0 rfl).len ?_
          refine fld gok rfl rfl rfl rfl ?_
          refine load1 (H.bx 1 rfl (j := 0) rfl) ?_
          obtain ⟨a121, e, hF122⟩ := bindS hF119; clear hF119
          refine boolO e ?_; clear e
          cases a121
          · have hF123 := condF hF122; clear hF122
            obtain ⟨y124, e, hF125⟩ := bindS hF123; clear hF123
            have ey124 := e; clear e
            refine callF (spec_fdIn_c p_ a102 h104 y124 ey124) (Γi := []) H ⟨Vw.sh 0 rfl, trivial⟩ ?_; clear H ey124
            rintro _ _ w126 ⟨rfl, rfl⟩ (H : Cx w0 fp0 S0 w126 [Es (List Int) a102 h104, Bx b3 [(.int .i64 m__0), (m__1h).v], Es (List (List Int)) m__1 m__1h])
            obtain ⟨a127, e, hF128⟩ := bindS hF125; clear hF125
            refine boolO e ?_; clear e
            exact ⟨a127, ⟨rfl, rfl, rfl, rfl, rfl, rfl, trivial⟩, Option.some.inj hF128, H.sel [1, 2] rfl⟩
          · have hF129 := condT hF122; clear hF122
            exact ⟨true, ⟨rfl, rfl, rfl, rfl, rfl, rfl, trivial⟩, Option.some.inj hF129, H.sel [1, 2] rfl⟩
        · clear hF119 H
          rintro T131 s115 w130 ⟨hr, (H : Cx w0 fp0 S0 w130 [Bx b3 [(.int .i64 m__0), (m__1h).v], Es (List (List Int)) m__1 m__1h])⟩
          subst hr
          cases s115
          · have hF132 := condF hF118; clear hF118
            refine arK hk hmx89 ?_
            have hs := Option.some.inj hF132; subst hs; clear hF132
            exact ⟨(), (), rfl, ⟨rfl, rfl, rfl, rfl, rfl, trivial⟩, H.sel [0, 1] rfl⟩
          · have hF133 := condT hF118; clear hF118
            have hs := Option.some.inj hF133; subst hs; clear hF133
            have hr := hrt _ rfl; subst hr
            have hF134 : some _ = some _ := hF91
            cases hF134
            exact ⟨_, _, rfl, ⟨rfl, rfl⟩, (H.sel [] rfl).close trivial⟩
      · clear H e
        rintro T136 _ _ w135 hr (H : Cx w0 fp0 S0 w135 [Bx b3 [(.int .i64 m__0), (m__1h).v], Es (List (List Int)) m__1 m__1h])
        subst hr
        refine boolE (z := false) geLen ?_
        refine sq ?_
        cases hF91
        exact ⟨_, _, rfl, ⟨rfl, rfl⟩, (H.sel [] rfl).close trivial⟩
    · have hF139 := condT hF24; clear hF24
      cases hF139
      exact ⟨_, _, rfl, ⟨rfl, rfl⟩, (H.sel [] rfl).close trivial⟩

theorem spec_rzResponse_c (p_ : Int) (m_ : List (Int × List (List Int))) (m_h : Hd) (y : Bool) (hF : F_spec_rzResponse p_ m_ = some y) :
    ConF Tryd.prog 68 #[(.int .i64 p_), (m_h).v] [Es (List (Int × List (List Int))) m_ m_h] [] (fun v Γ' => v = (.bool y) ∧ Γ' = []) := by
  intro w0 S0 fp0 hI hS
  have H : Cx w0 fp0 S0 w0 [Es (List (Int × List (List Int))) m_ m_h] := Cx.start hI hS
  clear hI hS
  refine enterC (args := [_, _]) gok Tryd.func68 rfl _ rfl rfl rfl ?_
  refine sq ?_
  obtain ⟨r16, hF18, hF17⟩ := bindS hF; clear hF
  refine cut (fun (q19 : Bool) => [(0, (.int .i64 p_)), (1, (m_h).v), (15, (.bool q19))]) (fun (q19 : Bool) w' => q19 = r16 ∧ Cx w0 fp0 S0 w' [Es (List (Int × List (List Int))) m_ m_h]) ?_ ?_
  · skip
    obtain ⟨y20, e, hF21⟩ := bindS hF18; clear hF18
    have ey20 := e; clear e
    refine callF (spec_fdGood_c p_ y20 ey20) (Γi := []) H trivial ?_; clear H ey20
    rintro _ _ w22 ⟨rfl, rfl⟩ (H : Cx w0 fp0 S0 w22 [Es (List (Int × List (List Int))) m_ m_h])
    obtain ⟨a23, e, hF24⟩ := bindS hF21; clear hF21
    refine boolO e ?_; clear e
    cases a23
    · have hF25 := condF hF24; clear hF24
      refine lenE (H.rs (α := List (Int × List (List Int))) 0 rfl).len ?_
      obtain ⟨y26, e, hF27⟩ := bindS hF25; clear hF25
      have ey26 := e; clear e
      refine callF (spec_l1In_c ((m_.length : Nat) : Int) 1 60 y26 ey26) (Γi := []) H trivial ?_; clear H ey26
      rintro _ _ w28 ⟨rfl, rfl⟩ (H : Cx w0 fp0 S0 w28 [Es (List (Int × List (List Int))) m_ m_h])
      obtain ⟨a29, e, hF30⟩ := bindS hF27; clear hF27
      refine boolO e ?_; clear e
      exact ⟨a29, ⟨rfl, rfl, rfl, trivial⟩, Option.some.inj hF30, H.sel [0] rfl⟩
    · have hF31 := condT hF24; clear hF24
      exact ⟨true, ⟨rfl, rfl, rfl, trivial⟩, Option.some.inj hF31, H.sel [0] rfl⟩
  · clear hF18 H
    rintro T33 s14 w32 ⟨hr, (H : Cx w0 fp0 S0 w32 [Es (List (Int × List (List Int))) m_ m_h])⟩
    subst hr
    cases s14
    · have hF34 := condF hF17; clear hF17
      refine sq ?_
      refine lenE (H.rs (α := List (Int × List (List Int))) 0 rfl).len ?_
      have hmx142 := (H.rs (α := List (Int × List (List Int))) 0 rfl).max
      obtain ⟨r143, e, hF144⟩ := bindS hF34; clear hF34
      refine loopO _ m_.length (fun (k35 : Nat) (_ : Unit) (_ : Unit) => [(0, (.int .i64 p_)), (1, (m_h).v), (16, (m_h).v), (17, (.int .i64 ((m_.length : Nat) : Int))), (18, (.int .i64 ((k35 : Nat) : Int)))]) (fun _ (_ : Unit) (_ : Unit) w' => Cx w0 fp0 S0 w' [Es (List (Int × List (List Int))) m_ m_h]) () () e ⟨rfl, rfl, rfl, rfl, rfl, trivial⟩ (H.sel [0] rfl) ?_ ?_
      · clear H e
        rintro T146 k35 _ _ w145 o147 hk (H : Cx w0 fp0 S0 w145 [Es (List (Int × List (List Int))) m_ m_h]) hrt hF148
        refine boolE (z := true) (ltLen hk) ?_
        refine sq ?_
        refine sq ?_
        obtain ⟨a155, e, hF156⟩ := bindS hF148; clear hF148
        have HH := H; clear H; obtain ⟨p153, m154, g157, c149, c150, c151, c152, H⟩ := HH.el (α := Int × List (List Int)) 0 rfl e; clear HH
        clear e
        obtain ⟨a155_0, a155_1⟩ := a155
        obtain ⟨_, h159⟩ := g157
        replace H := H.part (β := List (List Int)) a155_1 (h159 : Hd) 0 rfl (fun S h => (And.right h))
        replace H := H.sel [0, 2] rfl
        refine idxE c149 c150 c151 ?_; clear c149 c150 c151
        refine loadN [(.int .i64 a155_0), (h159).v] rfl c152 ?_; clear c152
        refine alloc_ gok rfl H ?_; clear H; intro b162 w161 hx H
        clear hx
        replace H : Cx w0 fp0 S0 w161 [Bx b162 [(.int .i64 0), (.slice none 0 0)], Es (List (List Int)) a155_1 h159, Es (List (Int × List (List Int))) m_ m_h] := H
        refine stA gok [(.int .i64 a155_0), (h159).v] rfl H rfl rfl rfl ?_; clear H; intro w164 H
        replace H : Cx w0 fp0 S0 w164 [Bx b162 [(.int .i64 a155_0), (h159).v], Es (List (List Int)) a155_1 h159, Es (List (Int × List (List Int))) m_ m_h] := H
        obtain ⟨r205, hF207, hF206⟩ := bindS hF156; clear hF156
        refine cut (fun (q208 : Bool) => [(0, (.int .i64 p_)), (1, (m_h).v), (16, (m_h).v), (17, (.int .i64 ((m_.length : Nat) : Int))), (18, (.int .i64 ((k35 : Nat) : Int))), (45, (.bool q208))]) (fun (q208 : Bool) w' => q208 = r205 ∧ Cx w0 fp0 S0 w' [Es (List (Int × List (List Int))) m_ m_h]) ?_ ?_
        · skip
          refine heldX H [] (.fst 0 (.fst 1 (.act 2 (.fst 3 (.fst 4 (.fst 5 (.fst 8 (.fst 9 (.fst 10 (.fst 6 (.fst 7 (.fst 11 (.fst 12 (.fst 13 (.fst 14 (.fst 15 (.fst 16 (.fst 18 (.fst 19 (.fst 20 (.fst 17 (.fst 21 (.fst 22 (.fst 23 .done)))))))))))))))))))))))) mixed [] trivial (by kernel_rfl) ?_; clear H; intro w209 H
          have hX : Ext w209 w209 := Upd.refl _ _
          have H0 := H
          refine loadNX [(.int .i64 a155_0), (h159).v] rfl (fun j u hj => H.bx 0 rfl hj) ?_
          obtain ⟨y210, e, hF211⟩ := bindS hF207; clear hF207
          have ey210 := e; clear e
          refine callFx (spec_mxGood_c p_ a155_0 a155_1 h159 y210 ey210) H ⟨Vw.sh 1 rfl, trivial⟩ ?_; clear H ey210
          rintro _ _ w212 ⟨rfl, rfl⟩ hx (H : Cx w0 fp0 S0 w212 [Bx b162 [(.int .i64 a155_0), (h159).v], Es (List (List Int)) a155_1 h159, Es (List (Int × List (List Int))) m_ m_h])
          replace hX := hX.trans0 hx; clear hx
          refine hold hX ?_
          obtain ⟨a213, e, hF214⟩ := bindS hF211; clear hF211
          refine boolO e ?_; clear e
          cases a213
          · have hF215 := condF hF214; clear hF214
            refine anyH (fun _ => fld gok rfl rfl rfl rfl ⟨rfl, rfl⟩) ?_
            obtain ⟨a222, e, hF223⟩ := bindS hF215; clear hF215
            have HH := H; clear H; obtain ⟨p220, m221, g224, c216, c217, c218, c219, H⟩ := HH.el (α := Int × List (List Int)) 2 rfl e; clear HH
            replace c219 := lateN hX (H0.rs (α := List (Int × List (List Int))) 2 rfl) rfl e c216 c219; clear e
            obtain ⟨a222_0, a222_1⟩ := a222
            obtain ⟨_, h226⟩ := g224
            replace H := H.part (β := List (List Int)) a222_1 (h226 : Hd) 0 rfl (fun S h => (And.right h))
            replace H := H.sel [0, 2, 3, 4] rfl
            refine idxE c216 c217 c218 ?_; clear c216 c217 c218
            refine anyH (fun _ => fld gok rfl rfl rfl rfl ⟨rfl, rfl⟩) ?_
            refine load1X (H0.bx 0 rfl (j := 1) rfl) ?_
            refine lenE (H.rs (α := List (List Int)) 2 rfl).len ?_
            refine load1X (c219 1 _ rfl) ?_
            refine lenE (H.rs (α := List (List Int)) 0 rfl).len ?_
            obtain ⟨a228, e, hF229⟩ := bindS hF223; clear hF223
            refine boolO e ?_; clear e
            cases a228
            · have hF230 := condF hF229; clear hF229
              refine anyH (fun _ => fld gok rfl rfl rfl rfl ⟨rfl, rfl⟩) ?_
              obtain ⟨a237, e, hF238⟩ := bindS hF230; clear hF230
              have HH := H; clear H; obtain ⟨p235, m236, g239, c231, c232, c233, c234, H⟩ := HH.el (α := Int × List (List Int)) 3 rfl e; clear HH
              replace c234 := lateN hX (H0.rs (α := List (Int × List (List Int))) 2 rfl) rfl e c231 c234; clear e
              obtain ⟨a237_0, a237_1⟩ := a237
              obtain ⟨_, h241⟩ := g239
              replace H := H.part (β := List (List Int)) a237_1 (h241 : Hd) 0 rfl (fun S h => (And.right h))
              replace H := H.sel [0, 2, 3, 4, 5] rfl
              refine idxE c231 c232 c233 ?_; clear c231 c232 c233
              refine anyH (fun _ => fld gok rfl rfl rfl rfl ⟨rfl, rfl⟩) ?_
              refine load1X (H0.bx 0 rfl (j := 0) rfl) ?_
              refine load1X (c234 0 _ rfl) ?_
              obtain ⟨a243, e, hF244⟩ := bindS hF238; clear hF238
              refine boolO e ?_; clear e
              exact ⟨a243, ⟨rfl, rfl, rfl, rfl, rfl, rfl, trivial⟩, Option.some.inj hF244, H.sel [4] rfl⟩
            · have hF245 := condT hF229; clear hF229
              exact ⟨true, ⟨rfl, rfl, rfl, rfl, rfl, rfl, trivial⟩, Option.some.inj hF245, H.sel [3] rfl⟩
          · have hF246 := condT hF214; clear hF214
            exact ⟨true, ⟨rfl, rfl, rfl, rfl, rfl, rfl, trivial⟩, Option.some.inj hF246, H.sel [2] rfl⟩
        · clear hF207 H
          rintro T248 s203 w247 ⟨hr, (H : Cx w0 fp0 S0 w247 [Es (List (Int × List (List Int))) m_ m_h])⟩
          subst hr
          cases s203
          · have hF249 := condF hF206; clear hF206
            refine arK hk hmx142 ?_
            have hs := Option.some.inj hF249; subst hs; clear hF249
            exact ⟨(), (), rfl, ⟨rfl, rfl, rfl, rfl, rfl, trivial⟩, H.sel [0] rfl⟩
          · have hF250 := condT hF206; clear hF206
            have hs := Option.some.inj hF250; subst hs; clear hF250
            have hr := hrt _ rfl; subst hr
            have hF251 : some _ = some _ := hF144
            cases hF251
            exact ⟨_, _, rfl, ⟨rfl, rfl⟩, (H.sel [] rfl).close trivial⟩
      · clear H e
        rintro T253 _ _ w252 hr (H : Cx w0 fp0 S0 w252 [Es (List (Int × List (List Int))) m_ m_h])
        subst hr
        refine boolE (z := false) geLen ?_
        refine sq ?_
        obtain ⟨r288, hF290, hF289⟩ := bindS hF144; clear hF144
        refine cut (fun (q291 : Bool) => [(4, (.bool q291))]) (fun (q291 : Bool) w' => q291 = r288 ∧ Cx w0 fp0 S0 w' []) ?_ ?_
        · skip
          obtain ⟨a298, e, hF299⟩ := bindS hF290; clear hF290
          have HH := H; clear H; obtain ⟨p296, m297, g300, c292, c293, c294, c295, H⟩ := HH.el (α := Int × List (List Int)) 0 rfl e; clear HH
          clear e
          obtain ⟨a298_0, a298_1⟩ := a298
          obtain ⟨_, h302⟩ := g300
          replace H := H.part (β := List (List Int)) a298_1 (h302 : Hd) 0 rfl (fun S h => (And.right h))
          replace H := H.sel [0, 2] rfl
          refine idxE c292 c293 c294 ?_; clear c292 c293 c294
          refine fld gok rfl rfl rfl rfl ?_
          refine load1 (c295 1 _ rfl) ?_
          refine lenE (H.rs (α := List (List Int)) 0 rfl).len ?_
          obtain ⟨a304, e, hF305⟩ := bindS hF299; clear hF299
          refine boolO e ?_; clear e
          cases a304
          · have hF306 := condF hF305; clear hF305
            exact ⟨false, ⟨rfl, trivial⟩, Option.some.inj hF306, H.sel [] rfl⟩
          · have hF307 := condT hF305; clear hF305
            obtain ⟨a314, e, hF315⟩ := bindS hF307; clear hF307
            have HH := H; clear H; obtain ⟨p312, m313, g316, c308, c309, c310, c311, H⟩ := HH.el (α := Int × List (List Int)) 1 rfl e; clear HH
            clear e
            obtain ⟨a314_0, a314_1⟩ := a314
            obtain ⟨_, h318⟩ := g316
            replace H := H.part (β := List (List Int)) a314_1 (h318 : Hd) 0 rfl (fun S h => (And.right h))
            replace H := H.sel [0, 2, 3] rfl
            refine idxE c308 c309 c310 ?_; clear c308 c309 c310
            refine fld gok rfl rfl rfl rfl ?_
            refine load1 (c311 0 _ rfl) ?_
            obtain ⟨a320, e, hF321⟩ := bindS hF315; clear hF315
            refine boolO e ?_; clear e
            exact ⟨a320, ⟨rfl, trivial⟩, Option.some.inj hF321, H.sel [] rfl⟩
        · clear hF290 H
          rintro T323 s286 w322 ⟨hr, (H : Cx w0 fp0 S0 w322 [])⟩
          subst hr
          cases hF289
          exact ⟨_, _, rfl, ⟨rfl, rfl⟩, (H.sel [] rfl).close trivial⟩
    · have hF324 := condT hF17; clear hF17
      cases hF324
      exact ⟨_, _, rfl, ⟨rfl, rfl⟩, (H.sel [] rfl).close trivial⟩

theorem spec_rzHankel_c (m_ : List (Int × List (List Int))) (m_h : Hd) (rows_ : Int) (cols_ : Int) (y : List (List Int)) (hF : F_spec_rzHankel m_ rows_ cols_ = some y) :
    ConF Tryd.prog 70 #[(m_h).v, (.int .i64 rows_), (.int .i64 cols_)] [Es (List (Int × List (List Int))) m_ m_h] [] (fun v Γ' => ∃ z0 : Hd, v = (z0).v ∧ Γ' = [E (List (List Int)) y z0]) := by
  intro w0 S0 fp0 hI hS
  have H : Cx w0 fp0 S0 w0 [Es (List (Int × List (List Int))) m_ m_h] := Cx.start hI hS
  clear hI hS
  refine enterC (args := [_, _, _]) gok Tryd.func70 rfl _ rfl rfl rfl ?_
  obtain ⟨r2616, hF2618, hF2617⟩ := bindS hF; clear hF
  refine cut (fun (q2619 : List (List Int) × Hd) => [(7, (q2619.2).v)]) (fun (q2619 : List (List Int) × Hd) w' => q2619.1 = r2616 ∧ Cx w0 fp0 S0 w' [E (List (List Int)) q2619.1 q2619.2]) ?_ ?_
  · skip
    replace H := H.nil (α := List Int)
    refine loopW _ (fun (s4355 : List (List Int) × Int) (g4356 : Hd) => [(0, (m_h).v), (1, (.int .i64 rows_)), (2, (.int .i64 cols_)), (7, (g4356).v), (8, (.int .i64 s4355.2))]) (fun (s4355 : List (List Int) × Int) (g4356 : Hd) w' => Cx w0 fp0 S0 w' [Es (List (Int × List (List Int))) m_ m_h, E (List (List Int)) s4355.1 g4356]) ([], 0) nilH hF2618 ⟨rfl, rfl, rfl, rfl, rfl, trivial⟩ (H.sel [1, 0] rfl) ?_
    · clear H
      rintro T4363 ⟨s4355_0, s4355_1⟩ g4356 w4362 o4364 (H : Cx w0 fp0 S0 w4362 [Es (List (Int × List (List Int))) m_ m_h, E (List (List Int)) s4355_0 g4356]) hrt hF4365
      refine sq ?_
      obtain ⟨a4366, e, hF4367⟩ := bindS hF4365; clear hF4365
      refine boolO e ?_; clear e
      cases a4366
      · have hF4368 := condF hF4367; clear hF4367
        have hs := Option.some.inj hF4368; subst hs; clear hF4368
        have hF4369 : some _ = some _ := congrArg some (hrt _ rfl).symm
        exact ⟨(s4355_0, g4356), ⟨rfl, trivial⟩, Option.some.inj hF4369, H.sel [1] rfl⟩
      · have hF4370 := condT hF4367; clear hF4367
        refine sq ?_
        obtain ⟨a4377, e, hF4378⟩ := bindS hF4370; clear hF4370
        have HH := H; clear H; obtain ⟨p4375, m4376, g4379, c4371, c4372, c4373, c4374, H⟩ := HH.el (α := Int × List (List Int)) 0 rfl e; clear HH
        clear e
        obtain ⟨a4377_0, a4377_1⟩ := a4377
        obtain ⟨_, h4381⟩ := g4379
        replace H := H.part (β := List (List Int)) a4377_1 (h4381 : Hd) 0 rfl (fun S h => (And.right h))
        replace H := H.sel [0, 2, 3] rfl
        refine idxE c4371 c4372 c4373 ?_; clear c4371 c4372 c4373
        refine fld gok rfl rfl rfl rfl ?_
        refine load1 (c4374 1 _ rfl) ?_
        refine lenE (H.rs (α := List (List Int)) 0 rfl).len ?_
        have hmx4942 := (H.rs (α := List (List Int)) 0 rfl).max
        obtain ⟨r4943, e, hF4944⟩ := bindS hF4378; clear hF4378
        refine loopS _ a4377_1.length (fun (k4383 : Nat) (s4939 : List (List Int)) (g4940 : Hd) => [(0, (m_h).v), (1, (.int .i64 rows_)), (2, (.int .i64 cols_)), (7, (g4940).v), (8, (.int .i64 s4355_1)), (21, (.int .i64 ((a4377_1.length : Nat) : Int))), (22, (.int .i64 ((k4383 : Nat) : Int)))]) (fun _ (s4939 : List (List Int)) (g4940 : Hd) w' => Cx w0 fp0 S0 w' [Es (List (Int × List (List Int))) m_ m_h, E (List (List Int)) s4939 g4940]) s4355_0 g4356 e ⟨rfl, rfl, rfl, rfl, rfl, rfl, rfl, trivial⟩ (H.sel [1, 2] rfl) ?_ ?_
        · clear H e
          rintro T4946 k4383 s4939 g4940 w4945 o4947 hk (H : Cx w0 fp0 S0 w4945 [Es (List (Int × List (List Int))) m_ m_h, E (List (List Int)) s4939 g4940]) hF4948
          refine boolE (z := true) (ltLen hk) ?_
          refine sq ?_
          refine sq ?_
          obtain ⟨r5081, hF5083, hF5082⟩ := bindS hF4948; clear hF4948
          refine cut (fun (q5084 : List Int × Hd) => [(0, (m_h).v), (1, (.int .i64 rows_)), (2, (.int .i64 cols_)), (7, (g4940).v), (8, (.int .i64 s4355_1)), (10, (q5084.2).v), (21, (.int .i64 ((a4377_1.length : Nat) : Int))), (22, (.int .i64 ((k4383 : Nat) : Int)))]) (fun (q5084 : List Int × Hd) w' => q5084.1 = r5081 ∧ Cx w0 fp0 S0 w' [Es (List (Int × List (List Int))) m_ m_h, E (List (List Int)) s4939 g4940, E (List Int) q5084.1 q5084.2]) ?_ ?_
          · skip
            replace H := H.nil (α := Int)
            refine loopW _ (fun (s5165 : List Int × Int) (g5166 : Hd) => [(0, (m_h).v), (1, (.int .i64 rows_)), (2, (.int .i64 cols_)), (7, (g4940).v), (8, (.int .i64 s4355_1)), (9, (.int .i64 ((k4383 : Nat) : Int))), (10, (g5166).v), (11, (.int .i64 s5165.2)), (21, (.int .i64 ((a4377_1.length : Nat) : Int))), (22, (.int .i64 ((k4383 : Nat) : Int)))]) (fun (s5165 : List Int × Int) (g5166 : Hd) w' => Cx w0 fp0 S0 w' [Es (List (Int × List (List Int))) m_ m_h, E (List (List Int)) s4939 g4940, E (List Int) s5165.1 g5166]) ([], 0) nilH hF5083 ⟨rfl, rfl, rfl, rfl, rfl, rfl, rfl, rfl, rfl, rfl, trivial⟩ (H.sel [1, 2, 0] rfl) ?_
            · clear H
              rintro T5173 ⟨s5165_0, s5165_1⟩ g5166 w5172 o5174 (H : Cx w0 fp0 S0 w5172 [Es (List (Int × List (List Int))) m_ m_h, E (List (List Int)) s4939 g4940, E (List Int) s5165_0 g5166]) hrt hF5175
              refine sq ?_
              obtain ⟨a5176, e, hF5177⟩ := bindS hF5175; clear hF5175
              refine boolO e ?_; clear e
              cases a5176
              · have hF5178 := condF hF5177; clear hF5177
                have hs := Option.some.inj hF5178; subst hs; clear hF5178
                have hF5179 : some _ = some _ := congrArg some (hrt _ rfl).symm
                exact ⟨(s5165_0, g5166), ⟨rfl, rfl, rfl, rfl, rfl, rfl, rfl, rfl, trivial⟩, Option.some.inj hF5179, H.sel [0, 1, 2] rfl⟩
              · have hF5180 := condT hF5177; clear hF5177
                refine sq ?_
                obtain ⟨a5181, e, hF5182⟩ := bindS hF5180; clear hF5180
                refine arO e ?_; clear e
                obtain ⟨a5183, e, hF5184⟩ := bindS hF5182; clear hF5182
                refine arO e ?_; clear e
                obtain ⟨a5191, e, hF5192⟩ := bindS hF5184; clear hF5184
                have HH := H; clear H; obtain ⟨p5189, m5190, g5193, c5185, c5186, c5187, c5188, H⟩ := HH.el (α := Int × List (List Int)) 0 rfl e; clear HH
                clear e
                obtain ⟨a5191_0, a5191_1⟩ := a5191
                obtain ⟨_, h5195⟩ := g5193
                replace H := H.part (β := List (List Int)) a5191_1 (h5195 : Hd) 0 rfl (fun S h => (And.right h))
                replace H := H.sel [0, 2, 3, 4] rfl
                refine idxE c5185 c5186 c5187 ?_; clear c5185 c5186 c5187
                refine fld gok rfl rfl rfl rfl ?_
                refine load1 (c5188 1 _ rfl) ?_
                obtain ⟨a5203, e, hF5204⟩ := bindS hF5192; clear hF5192
                have HH := H; clear H; obtain ⟨p5201, m5202, h5205, c5197, c5198, c5199, c5200, H⟩ := HH.elL 0 rfl e; clear HH
                clear e
                refine idxE c5197 c5198 c5199 ?_; clear c5197 c5198 c5199
                refine load1 c5200 ?_; clear c5200
                obtain ⟨a5207, e, hF5208⟩ := bindS hF5204; clear hF5204
                replace H := H.sel [4, 0, 1, 2, 3] rfl
                refine appendS (α := Int) gok rfl rfl rfl rfl H (Vw.sh 0 rfl) e ?_; clear e H; intro h5210 w5209 H
                obtain ⟨a5212, e, hF5213⟩ := bindS hF5208; clear hF5208
                refine arO e ?_; clear e
                have hs := Option.some.inj hF5213; subst hs; clear hF5213
                exact ⟨(a5207, a5212), h5210, rfl, ⟨rfl, rfl, rfl, rfl, rfl, rfl, rfl, rfl, rfl, rfl, trivial⟩, H.sel [3, 4, 0] rfl⟩
          · clear hF5083 H
            rintro T5215 ⟨s5078, g5079⟩ w5214 ⟨hr, (H : Cx w0 fp0 S0 w5214 [Es (List (Int × List (List Int))) m_ m_h, E (List (List Int)) s4939 g4940, E (List Int) s5078 g5079])⟩
            subst hr
            replace H := H.sel [2, 0, 1] rfl
            refine lit1 (α := List Int) (g := g5079) gok rfl rfl rfl rfl rfl H ?_; clear H; intro h5217 w5216 hx H
            clear hx
            obtain ⟨a5219, e, hF5220⟩ := bindS hF5082; clear hF5082
            replace H := H.sel [2, 0, 1] rfl
            refine append_ (α := List Int) gok rfl rfl rfl rfl H e ?_; clear e H; intro h5222 w5221 H
            refine arK hk hmx4942 ?_
            have hs := Option.some.inj hF5220; subst hs; clear hF5220
            exact ⟨h5222, ⟨rfl, rfl, rfl, rfl, rfl, rfl, rfl, trivial⟩, H.sel [1, 0] rfl⟩
        · clear H e
          rintro T5225 g5227 w5224 (H : Cx w0 fp0 S0 w5224 [Es (List (Int × List (List Int))) m_ m_h, E (List (List Int)) r4943 g5227])
          refine boolE (z := false) geLen ?_
          refine sq ?_
          obtain ⟨a5229, e, hF5230⟩ := bindS hF4944; clear hF4944
          refine arO e ?_; clear e
          have hs := Option.some.inj hF5230; subst hs; clear hF5230
          exact ⟨(r4943, a5229), g5227, rfl, ⟨rfl, rfl, rfl, rfl, rfl, trivial⟩, H.sel [0, 1] rfl⟩
  · clear hF2618 H
    rintro T5232 ⟨s2613, g2614⟩ w5231 ⟨hr, (H : Cx w0 fp0 S0 w5231 [E (List (List Int)) s2613 g2614])⟩
    subst hr
    cases hF2617
    exact ⟨_, _, rfl, ⟨g2614, rfl, rfl⟩, (H.sel [0] rfl).close ⟨cloE, trivial⟩⟩

theorem spec_l1Own_c (l_ : List Int) (l_h : Hd) (y : List Int) (hF : F_spec_l1Own l_ = some y) :
    ConF Tryd.prog 118 #[(l_h).v] [Es (List Int) l_ l_h] [] (fun v Γ' => ∃ z0 : Hd, v = (z0).v ∧ Γ' = [E (List Int) y z0]) := by
  intro w0 S0 fp0 hI hS
  have H : Cx w0 fp0 S0 w0 [Es (List Int) l_ l_h] := Cx.start hI hS
  clear hI hS
  refine enterC (args := [_]) gok Tryd.func118 rfl _ rfl rfl rfl ?_
  refine lit0 (α := Int) gok rfl rfl H ?_; clear H; intro h3 w2 hx H
  clear hx
  obtain ⟨a5, e, hF6⟩ := bindS hF; clear hF
  refine appendS (α := Int) gok rfl rfl rfl rfl H (Vw.sh 0 rfl) e ?_; clear e H; intro h8 w7 H
  cases hF6
  exact ⟨_, _, rfl, ⟨h8, rfl, rfl⟩, (H.sel [0] rfl).close ⟨cloE, trivial⟩⟩

theorem spec_fdInv_c (p_ : Int) (a_ : Int) (y : Int) (hF : F_spec_fdInv p_ a_ = some y) :
    ConF Tryd.prog 119 #[(.int .i64 p_), (.int .i64 a_)] [] [] (fun v Γ' => v = (.int .i64 y) ∧ Γ' = []) := by
  intro w0 S0 fp0 hI hS
  have H : Cx w0 fp0 S0 w0 [] := Cx.start hI hS
  clear hI hS
  refine enterC (args := [_, _]) gok Tryd.func119 rfl _ rfl rfl rfl ?_
  obtain ⟨r60, hF62, hF61⟩ := bindS hF; clear hF
  refine cut (fun (q63 : Unit) => []) (fun (q63 : Unit) w' => .inl () = r60 ∧ Cx w0 fp0 S0 w' []) ?_ ?_
  · skip
    refine loopW _ (fun (s96 : Int) (_ : Unit) => [(0, (.int .i64 p_)), (1, (.int .i64 a_)), (5, (.int .i64 s96))]) (fun (s96 : Int) (_ : Unit) w' => Cx w0 fp0 S0 w' []) 1 () hF62 ⟨rfl, rfl, rfl, trivial⟩ (H.sel [] rfl) ?_
    · clear H
      rintro T102 s96 _ w101 o103 (H : Cx w0 fp0 S0 w101 []) hrt hF104
      refine sq ?_
      obtain ⟨a105, e, hF106⟩ := bindS hF104; clear hF104
      refine boolO e ?_; clear e
      cases a105
      · have hF107 := condF hF106; clear hF106
        have hs := Option.some.inj hF107; subst hs; clear hF107
        have hF108 : some _ = some _ := congrArg some (hrt _ rfl).symm
        exact ⟨(), trivial, Option.some.inj hF108, H.sel [] rfl⟩
      · have hF109 := condT hF106; clear hF106
        refine sq ?_
        obtain ⟨a110, e, hF111⟩ := bindS hF109; clear hF109
        refine arO e ?_; clear e
        obtain ⟨a112, e, hF113⟩ := bindS hF111; clear hF111
        refine remO_ e ?_; clear e
        obtain ⟨a114, e, hF115⟩ := bindS hF113; clear hF113
        refine boolO e ?_; clear e
        cases a114
        · have hF116 := condF hF115; clear hF115
          obtain ⟨a117, e, hF118⟩ := bindS hF116; clear hF116
          refine arO e ?_; clear e
          have hs := Option.some.inj hF118; subst hs; clear hF118
          exact ⟨a117, (), rfl, ⟨rfl, rfl, rfl, trivial⟩, H.sel [] rfl⟩
        · have hF119 := condT hF115; clear hF115
          have hs := Option.some.inj hF119; subst hs; clear hF119
          have hF120 : some _ = some _ := congrArg some (hrt _ rfl).symm
          have hs := Option.some.inj hF120; subst hs; clear hF120
          have hF121 : some _ = some _ := hF61; clear hF61
          cases hF121
          exact ⟨_, _, rfl, ⟨rfl, rfl⟩, (H.sel [] rfl).close trivial⟩
  · clear hF62 H
    rintro T123 _ w122 ⟨hr, (H : Cx w0 fp0 S0 w122 [])⟩
    subst hr
    cases hF61
    exact ⟨_, _, rfl, ⟨rfl, rfl⟩, (H.sel [] rfl).close trivial⟩

theorem spec_fdMul_c (p_ : Int) (a_ : Int) (b_ : Int) (y : Int) (hF : F_spec_fdMul p_ a_ b_ = some y) :
    ConF Tryd.prog 120 #[(.int .i64 p_), (.int .i64 a_), (.int .i64 b_)] [] [] (fun v Γ' => v = (.int .i64 y) ∧ Γ' = []) := by
  intro w0 S0 fp0 hI hS
  have H : Cx w0 fp0 S0 w0 [] := Cx.start hI hS
  clear hI hS
  refine enterC (args := [_, _, _]) gok Tryd.func120 rfl _ rfl rfl rfl ?_
  obtain ⟨a1, e, hF2⟩ := bindS hF; clear hF
  refine arO e ?_; clear e
  obtain ⟨a3, e, hF4⟩ := bindS hF2; clear hF2
  refine remO_ e ?_; clear e
  cases hF4
  exact ⟨_, _, rfl, ⟨rfl, rfl⟩, (H.sel [] rfl).close trivial⟩

theorem spec_fdSub_c (p_ : Int) (a_ : Int) (b_ : Int) (y : Int) (hF : F_spec_fdSub p_ a_ b_ = some y) :
    ConF Tryd.prog 121 #[(.int .i64 p_), (.int .i64 a_), (.int .i64 b_)] [] [] (fun v Γ' => v = (.int .i64 y) ∧ Γ' = []) := by
  intro w0 S0 fp0 hI hS
  have H : Cx w0 fp0 S0 w0 [] := Cx.start hI hS
  clear hI hS
  refine enterC (args := [_, _, _]) gok Tryd.func121 rfl _ rfl rfl rfl ?_
  obtain ⟨a1, e, hF2⟩ := bindS hF; clear hF
  refine arO e ?_; clear e
  obtain ⟨a3, e, hF4⟩ := bindS hF2; clear hF2
  refine arO e ?_; clear e
  obtain ⟨a5, e, hF6⟩ := bindS hF4; clear hF4
  refine remO_ e ?_; clear e
  cases hF6
  exact ⟨_, _, rfl, ⟨rfl, rfl⟩, (H.sel [] rfl).close trivial⟩

theorem spec_spReduce_c (p_ : Int) (size_ : Int) (rows_ : List (List Int)) (rows_h : Hd) (y : List (List Int)) (hF : F_spec_spReduce p_ size_ rows_ = some y) :
    ConF Tryd.prog 69 #[(.int .i64 p_), (.int .i64 size_), (rows_h).v] [Es (List (List Int)) rows_ rows_h] [] (fun v Γ' => ∃ z0 : Hd, v = (z0).v ∧ Γ' = [E (List (List Int)) y z0]) := by
  intro w0 S0 fp0 hI hS
  have H : Cx w0 fp0 S0 w0 [Es (List (List Int)) rows_ rows_h] := Cx.start hI hS
  clear hI hS
  refine enterC (args := [_, _, _]) gok Tryd.func69 rfl _ rfl rfl rfl ?_
  refine sq ?_
  refine lenE (H.rs (α := List (List Int)) 0 rfl).len ?_
  have hmx58 := (H.rs (α := List (List Int)) 0 rfl).max
  obtain ⟨r59, e, hF60⟩ := bindS hF; clear hF
  replace H := H.nil (α := List Int)
  refine loopS _ rows_.length (fun (k2 : Nat) (s55 : List (List Int)) (g56 : Hd) => [(0, (.int .i64 p_)), (1, (.int .i64 size_)), (7, (g56).v), (19, (rows_h).v), (20, (.int .i64 ((rows_.length : Nat) : Int))), (21, (.int .i64 ((k2 : Nat) : Int)))]) (fun _ (s55 : List (List Int)) (g56 : Hd) w' => Cx w0 fp0 S0 w' [E (List (List Int)) s55 g56, Es (List (List Int)) rows_ rows_h]) [] nilH e ⟨rfl, rfl, rfl, rfl, rfl, rfl, trivial⟩ (H.sel [0, 1] rfl) ?_ ?_
  · clear H e
    rintro T63 k2 s55 g56 w62 o64 hk (H : Cx w0 fp0 S0 w62 [E (List (List Int)) s55 g56, Es (List (List Int)) rows_ rows_h]) hF65
    refine boolE (z := true) (ltLen hk) ?_
    refine sq ?_
    refine sq ?_
    obtain ⟨a72, e, hF73⟩ := bindS hF65; clear hF65
    have HH := H; clear H; obtain ⟨p70, m71, h74, c66, c67, c68, c69, H⟩ := HH.elL 1 rfl e; clear HH
    clear e
    refine idxE c66 c67 c68 ?_; clear c66 c67 c68
    refine load1 c69 ?_; clear c69
    obtain ⟨y76, e, hF77⟩ := bindS hF73; clear hF73
    have ey76 := e; clear e
    refine callF (spec_l1Own_c a72 h74 y76 ey76) (Γi := []) H ⟨Vw.sh 0 rfl, trivial⟩ ?_; clear H ey76
    rintro _ _ w78 ⟨h79, rfl, rfl⟩ (H : Cx w0 fp0 S0 w78 [E (List Int) y76 h79, Es (List Int) a72 h74, E (List (List Int)) s55 g56, Es (List (List Int)) rows_ rows_h])
    refine lit1 (α := List Int) (g := h79) gok rfl rfl rfl rfl rfl H ?_; clear H; intro h82 w81 hx H
    clear hx
    obtain ⟨a84, e, hF85⟩ := bindS hF77; clear hF77
    replace H := H.sel [2, 0, 1, 3] rfl
    refine append_ (α := List Int) gok rfl rfl rfl rfl H e ?_; clear e H; intro h87 w86 H
    refine arK hk hmx58 ?_
    have hs := Option.some.inj hF85; subst hs; clear hF85
    exact ⟨h87, ⟨rfl, rfl, rfl, rfl, rfl, rfl, trivial⟩, H.sel [0, 2] rfl⟩
  · clear H e
    rintro T90 g92 w89 (H : Cx w0 fp0 S0 w89 [E (List (List Int)) r59 g92, Es (List (List Int)) rows_ rows_h])
    refine boolE (z := false) geLen ?_
    refine sq ?_
    obtain ⟨r14378, hF14380, hF14379⟩ := bindS hF60; clear hF60
    refine cut (fun (q14381 : List (List Int) × Int) => [(7, (g92).v), (10, (.int .i64 q14381.2))]) (fun (q14381 : List (List Int) × Int) w' => (q14381.1, q14381.2) = r14378 ∧ Cx w0 fp0 S0 w' [E (List (List Int)) q14381.1 g92]) ?_ ?_
    · skip
      refine loopW _ (fun (s23898 : List (List Int) × Int × Int) (_ : Unit) => [(0, (.int .i64 p_)), (1, (.int .i64 size_)), (7, (g92).v), (10, (.int .i64 s23898.2.1)), (11, (.int .i64 s23898.2.2))]) (fun (s23898 : List (List Int) × Int × Int) (_ : Unit) w' => Cx w0 fp0 S0 w' [E (List (List Int)) s23898.1 g92]) (r59, 0, 0) () hF14380 ⟨rfl, rfl, rfl, rfl, rfl, trivial⟩ (H.sel [0] rfl) ?_
      · clear H
        rintro T23904 ⟨s23898_0, s23898_1, s23898_2⟩ _ w23903 o23905 (H : Cx w0 fp0 S0 w23903 [E (List (List Int)) s23898_0 g92]) hrt hF23906
        refine sq ?_
        obtain ⟨r23915, hF23917, hF23916⟩ := bindS hF23906; clear hF23906
        refine cut (fun (q23918 : Bool) => [(0, (.int .i64 p_)), (1, (.int .i64 size_)), (7, (g92).v), (10, (.int .i64 s23898_1)), (11, (.int .i64 s23898_2)), (39, (.bool q23918))]) (fun (q23918 : Bool) w' => q23918 = r23915 ∧ Cx w0 fp0 S0 w' [E (List (List Int)) s23898_0 g92]) ?_ ?_
        · skip
          obtain ⟨a23919, e, hF23920⟩ := bindS hF23917; clear hF23917
          refine boolO e ?_; clear e
          cases a23919
          · have hF23921 := condF hF23920; clear hF23920
            exact ⟨false, ⟨rfl, rfl, rfl, rfl, rfl, rfl, trivial⟩, Option.some.inj hF23921, H.sel [0] rfl⟩
          · have hF23922 := condT hF23920; clear hF23920
            refine lenE (H.ro (α := List (List Int)) 0 rfl).len ?_
            obtain ⟨a23923, e, hF23924⟩ := bindS hF23922; clear hF23922
            refine boolO e ?_; clear e
            exact ⟨a23923, ⟨rfl, rfl, rfl, rfl, rfl, rfl, trivial⟩, Option.some.inj hF23924, H.sel [0] rfl⟩
        · clear hF23917 H
          rintro T23926 s23913 w23925 ⟨hr, (H : Cx w0 fp0 S0 w23925 [E (List (List Int)) s23898_0 g92])⟩
          subst hr
          cases s23913
          · have hF23927 := condF hF23916; clear hF23916
            have hs := Option.some.inj hF23927; subst hs; clear hF23927
            have hF23928 : some _ = some _ := congrArg some (hrt _ rfl).symm
            exact ⟨(s23898_0, s23898_1), ⟨rfl, rfl, trivial⟩, Option.some.inj hF23928, H.sel [0] rfl⟩
          · have hF23929 := condT hF23916; clear hF23916
            obtain ⟨r26294, hF26296, hF26295⟩ := bindS hF23929; clear hF23929
            refine cut (fun (q26297 : List (List Int) × Int) => [(0, (.int .i64 p_)), (1, (.int .i64 size_)), (7, (g92).v), (10, (.int .i64 q26297.2)), (11, (.int .i64 s23898_2))]) (fun (q26297 : List (List Int) × Int) w' => (q26297.1, q26297.2) = r26294 ∧ Cx w0 fp0 S0 w' [E (List (List Int)) q26297.1 g92]) ?_ ?_
            · skip
              obtain ⟨r26488, hF26490, hF26489⟩ := bindS hF26296; clear hF26296
              refine cut (fun (q26491 : Int) => [(0, (.int .i64 p_)), (1, (.int .i64 size_)), (7, (g92).v), (10, (.int .i64 s23898_1)), (11, (.int .i64 s23898_2)), (12, (.int .i64 q26491))]) (fun (q26491 : Int) w' => q26491 = r26488 ∧ Cx w0 fp0 S0 w' [E (List (List Int)) s23898_0 g92]) ?_ ?_
              · skip
                refine loopW _ (fun (s26612 : Int) (_ : Unit) => [(0, (.int .i64 p_)), (1, (.int .i64 size_)), (7, (g92).v), (10, (.int .i64 s23898_1)), (11, (.int .i64 s23898_2)), (12, (.int .i64 s26612))]) (fun (s26612 : Int) (_ : Unit) w' => Cx w0 fp0 S0 w' [E (List (List Int)) s23898_0 g92]) s23898_1 () hF26490 ⟨rfl, rfl, rfl, rfl, rfl, rfl, trivial⟩ (H.sel [0] rfl) ?_
                · clear H
                  rintro T26618 s26612 _ w26617 o26619 (H : Cx w0 fp0 S0 w26617 [E (List (List Int)) s23898_0 g92]) hrt hF26620
                  refine sq ?_
                  obtain ⟨r26646, hF26648, hF26647⟩ := bindS hF26620; clear hF26620
                  refine cut (fun (q26649 : Bool) => [(0, (.int .i64 p_)), (1, (.int .i64 size_)), (7, (g92).v), (10, (.int .i64 s23898_1)), (11, (.int .i64 s23898_2)), (12, (.int .i64 s26612)), (56, (.bool q26649))]) (fun (q26649 : Bool) w' => q26649 = r26646 ∧ Cx w0 fp0 S0 w' [E (List (List Int)) s23898_0 g92]) ?_ ?_
                  · skip
                    refine lenE (H.ro (α := List (List Int)) 0 rfl).len ?_
                    obtain ⟨a26650, e, hF26651⟩ := bindS hF26648; clear hF26648
                    refine boolO e ?_; clear e
                    cases a26650
                    · have hF26652 := condF hF26651; clear hF26651
                      exact ⟨false, ⟨rfl, rfl, rfl, rfl, rfl, rfl, rfl, trivial⟩, Option.some.inj hF26652, H.sel [0] rfl⟩
                    · have hF26653 := condT hF26651; clear hF26651
                      obtain ⟨a26660, e, hF26661⟩ := bindS hF26653; clear hF26653
                      replace H := H.toEH (α := List Int)
                      have HH := H; clear H; obtain ⟨p26658, m26659, h26662, c26654, c26655, c26656, c26657, H⟩ := HH.peekL e; clear HH
                      clear e
                      refine idxE c26654 c26655 c26656 ?_
                      refine load1 c26657 ?_; clear c26657
                      obtain ⟨a26669, e, hF26670⟩ := bindS hF26661; clear hF26661
                      obtain ⟨p26667, m26668, c26663, c26664, c26665, c26666⟩ := (H.rh (α := List Int) 0 rfl 0 rfl).at1 e; clear e
                      refine idxE c26663 c26664 c26665 ?_; clear c26663 c26664 c26665
                      refine load1 c26666 ?_; clear c26666
                      obtain ⟨a26671, e, hF26672⟩ := bindS hF26670; clear hF26670
                      refine boolO e ?_; clear e
                      replace H := H.ofEH
                      exact ⟨a26671, ⟨rfl, rfl, rfl, rfl, rfl, rfl, rfl, trivial⟩, Option.some.inj hF26672, H.sel [0] rfl⟩
                  · clear hF26648 H
                    rintro T26674 s26644 w26673 ⟨hr, (H : Cx w0 fp0 S0 w26673 [E (List (List Int)) s23898_0 g92])⟩
                    subst hr
                    cases s26644
                    · have hF26675 := condF hF26647; clear hF26647
                      have hs := Option.some.inj hF26675; subst hs; clear hF26675
                      have hF26676 : some _ = some _ := congrArg some (hrt _ rfl).symm
                      exact ⟨s26612, ⟨rfl, rfl, rfl, rfl, rfl, rfl, trivial⟩, Option.some.inj hF26676, H.sel [0] rfl⟩
                    · have hF26677 := condT hF26647; clear hF26647
                      obtain ⟨a26678, e, hF26679⟩ := bindS hF26677; clear hF26677
                      refine arO e ?_; clear e
                      have hs := Option.some.inj hF26679; subst hs; clear hF26679
                      exact ⟨a26678, (), rfl, ⟨rfl, rfl, rfl, rfl, rfl, rfl, trivial⟩, H.sel [0] rfl⟩
              · clear hF26490 H
                rintro T26681 s26486 w26680 ⟨hr, (H : Cx w0 fp0 S0 w26680 [E (List (List Int)) s23898_0 g92])⟩
                subst hr
                refine sq ?_
                refine lenE (H.ro (α := List (List Int)) 0 rfl).len ?_
                obtain ⟨a26682, e, hF26683⟩ := bindS hF26489; clear hF26489
                refine boolO e ?_; clear e
                cases a26682
                · have hF26684 := condF hF26683; clear hF26683
                  obtain ⟨a26691, e, hF26692⟩ := bindS hF26684; clear hF26684
                  replace H := H.toEH (α := List Int)
                  have HH := H; clear H; obtain ⟨p26689, m26690, h26693, c26685, c26686, c26687, c26688, H⟩ := HH.peekL e; clear HH
                  clear e
                  refine idxE c26685 c26686 c26687 ?_
                  refine load1 c26688 ?_; clear c26688
                  obtain ⟨a26700, e, hF26701⟩ := bindS hF26692; clear hF26692
                  have HH := H; clear H; obtain ⟨p26698, m26699, h26702, c26694, c26695, c26696, c26697, H⟩ := HH.peekL e; clear HH
                  clear e
                  refine idxE c26694 c26695 c26696 ?_
                  refine load1 c26697 ?_; clear c26697
                  refine idxE c26685 c26686 c26687 ?_
                  refine stZ1 (ki := 1) (kj := 0) H rfl rfl c26685 ?_; clear H; intro w26709 H
                  replace H : Cx w0 fp0 S0 w26709 [EZ (List Int) m26690 m26699 a26691 a26700 h26693 h26702 s23898_0 g92] := H
                  refine idxE c26694 c26695 c26696 ?_
                  obtain ⟨a26717, e, hF26718⟩ := bindS hF26701; clear hF26701
                  refine stZ2 H c26686 c26695 c26694 e ?_; clear H e; intro w26716 H
                  obtain ⟨a26725, e, hF26726⟩ := bindS hF26718; clear hF26718
                  replace H := H.toEH (α := List Int)
                  have HH := H; clear H; obtain ⟨p26723, m26724, h26727, c26719, c26720, c26721, c26722, H⟩ := HH.peekL e; clear HH
                  clear e
                  refine idxE c26719 c26720 c26721 ?_
                  refine load1 c26722 ?_; clear c26722
                  obtain ⟨a26734, e, hF26735⟩ := bindS hF26726; clear hF26726
                  obtain ⟨p26732, m26733, c26728, c26729, c26730, c26731⟩ := (H.rh (α := List Int) 0 rfl 0 rfl).at1 e; clear e
                  refine idxE c26728 c26729 c26730 ?_; clear c26728 c26729 c26730
                  refine load1 c26731 ?_; clear c26731
                  obtain ⟨y26736, e, hF26737⟩ := bindS hF26735; clear hF26735
                  have ey26736 := e; clear e
                  refine callF (spec_fdInv_c p_ a26734 y26736 ey26736) (Γi := []) H trivial ?_; clear H ey26736
                  rintro _ _ w26738 ⟨rfl, rfl⟩ (H : Cx w0 fp0 S0 w26738 [EH (List Int) a26717 g92 [⟨m26724, a26725, h26727⟩]])
                  refine sq ?_
                  obtain ⟨a26745, e, hF26746⟩ := bindS hF26737; clear hF26737
                  have HH := H; clear H; obtain ⟨p26743, m26744, h26747, c26739, c26740, c26741, c26742, H⟩ := HH.peekL e; clear HH
                  clear e
                  refine idxE c26739 c26740 c26741 ?_
                  refine load1 c26742 ?_; clear c26742
                  have hmx26748 := (H.rh (α := List Int) 0 rfl 0 rfl).max
                  refine lenE (H.rh (α := List Int) 0 rfl 0 rfl).len ?_
                  replace H := H.ofEH
                  obtain ⟨r26841, e, hF26842⟩ := bindS hF26746; clear hF26746
                  refine loopS _ a26745.length (fun (k26749 : Nat) (s26838 : List (List Int)) (_ : Unit) => [(0, (.int .i64 p_)), (1, (.int .i64 size_)), (7, (g92).v), (10, (.int .i64 s23898_1)), (11, (.int .i64 s23898_2)), (14, (.int .i64 y26736)), (91, (.int .i64 ((a26745.length : Nat) : Int))), (92, (.int .i64 ((k26749 : Nat) : Int)))]) (fun _ (s26838 : List (List Int)) (_ : Unit) w' => Cx w0 fp0 S0 w' [E (List (List Int)) s26838 g92]) a26717 () e ⟨rfl, rfl, rfl, rfl, rfl, rfl, rfl, rfl, trivial⟩ (H.sel [0] rfl) ?_ ?_
                  · clear H e
                    rintro T26844 k26749 s26838 _ w26843 o26845 hk (H : Cx w0 fp0 S0 w26843 [E (List (List Int)) s26838 g92]) hF26846
                    refine boolE (z := true) (ltLen hk) ?_
                    refine sq ?_
                    refine sq ?_
                    refine heldX H [16] (.fst 0 (.fst 1 (.fst 2 (.fst 4 (.fst 5 (.fst 6 (.fst 7 (.fst 8 (.fst 10 (.fst 13 (.fst 3 (.fst 9 (.fst 11 (.fst 12 (.act 14 (.fst 15 (.act 16 .done))))))))))))))))) mixed [] trivial (by kernel_rfl) ?_; clear H; intro w26847 H
                    have hX : Ext w26847 w26847 := Upd.refl _ _
                    have H0 := H
                    obtain ⟨a26854, e, hF26855⟩ := bindS hF26846; clear hF26846
                    replace H := H.toEH (α := List Int)
                    have HH := H; clear H; obtain ⟨p26852, m26853, h26856, c26848, c26849, c26850, c26851, H⟩ := HH.peekL e; clear HH
                    clear e
                    refine idxE c26848 c26849 c26850 ?_
                    obtain ⟨a26863, e, hF26864⟩ := bindS hF26855; clear hF26855
                    have HH := H; clear H; obtain ⟨p26861, m26862, h26865, c26857, c26858, c26859, c26860, H⟩ := HH.peekL e; clear HH
                    clear e
                    refine idxE c26857 c26858 c26859 ?_
                    refine load1X c26851 ?_; clear c26851
                    refine load1X c26860 ?_; clear c26860
                    obtain ⟨a26872, e, hF26873⟩ := bindS hF26864; clear hF26864
                    obtain ⟨p26870, m26871, c26866, c26867, c26868, c26869⟩ := (H.rh (α := List Int) 0 rfl 0 rfl).at1 e; clear e
                    refine idxE c26866 c26867 c26868 ?_; clear c26866 c26867 c26868
                    refine load1X c26869 ?_; clear c26869
                    obtain ⟨y26874, e, hF26875⟩ := bindS hF26873; clear hF26873
                    have ey26874 := e; clear e
                    refine callFx (spec_fdMul_c p_ a26872 y26736 y26874 ey26874) H trivial ?_; clear H ey26874
                    rintro _ _ w26876 ⟨rfl, rfl⟩ hx (H : Cx w0 fp0 S0 w26876 [EH (List Int) s26838 g92 [⟨m26862, a26863, h26865⟩, ⟨m26853, a26854, h26856⟩]])
                    replace hX := hX.trans0 hx; clear hx
                    refine hold hX ?_
                    replace H := H.takeK 1 rfl
                    obtain ⟨a26884, e, hF26885⟩ := bindS hF26875; clear hF26875
                    have ea26884 := e; clear e
                    obtain ⟨p26881, m26882, c26877, c26878, c26879⟩ := (H.ro (α := List Int) 0 rfl).setp ea26884
                    refine idxE c26877 c26878 c26879 ?_
                    refine setS (α := Int) H c26877 c26878 ea26884 ?_; clear H c26877 c26878 c26879 ea26884; intro w26886 H
                    obtain ⟨a26887, e, hF26888⟩ := bindS hF26885; clear hF26885
                    replace H := H.put c26849 e; clear e
                    refine hold trivial ?_
                    refine arK hk hmx26748 ?_
                    have hs := Option.some.inj hF26888; subst hs; clear hF26888
                    exact ⟨(), ⟨rfl, rfl, rfl, rfl, rfl, rfl, rfl, rfl, trivial⟩, H.sel [0] rfl⟩
                  · clear H e
                    rintro T26890 _ w26889 (H : Cx w0 fp0 S0 w26889 [E (List (List Int)) r26841 g92])
                    refine boolE (z := false) geLen ?_
                    refine sq ?_
                    refine sq ?_
                    refine lenE (H.ro (α := List (List Int)) 0 rfl).len ?_
                    have hmx28064 := (H.ro (α := List (List Int)) 0 rfl).max
                    obtain ⟨r28065, e, hF28066⟩ := bindS hF26842; clear hF26842
                    refine loopS _ r26841.length (fun (k26893 : Nat) (s28062 : List (List Int)) (_ : Unit) => [(0, (.int .i64 p_)), (1, (.int .i64 size_)), (7, (g92).v), (10, (.int .i64 s23898_1)), (11, (.int .i64 s23898_2)), (113, (.int .i64 ((r26841.length : Nat) : Int))), (114, (.int .i64 ((k26893 : Nat) : Int)))]) (fun _ (s28062 : List (List Int)) (_ : Unit) w' => Cx w0 fp0 S0 w' [E (List (List Int)) s28062 g92]) r26841 () e ⟨rfl, rfl, rfl, rfl, rfl, rfl, rfl, trivial⟩ (H.sel [0] rfl) ?_ ?_
                    · clear H e
                      rintro T28068 k26893 s28062 _ w28067 o28069 hk (H : Cx w0 fp0 S0 w28067 [E (List (List Int)) s28062 g92]) hF28070
                      refine boolE (z := true) (ltLen hk) ?_
                      refine sq ?_
                      obtain ⟨r28360, hF28362, hF28361⟩ := bindS hF28070; clear hF28070
                      refine cut (fun (q28363 : List (List Int)) => [(0, (.int .i64 p_)), (1, (.int .i64 size_)), (7, (g92).v), (10, (.int .i64 s23898_1)), (11, (.int .i64 s23898_2)), (113, (.int .i64 ((r26841.length : Nat) : Int))), (114, (.int .i64 ((k26893 : Nat) : Int)))]) (fun (q28363 : List (List Int)) w' => q28363 = r28360 ∧ Cx w0 fp0 S0 w' [E (List (List Int)) q28363 g92]) ?_ ?_
                      · skip
                        refine sq ?_
                        obtain ⟨r28389, hF28391, hF28390⟩ := bindS hF28362; clear hF28362
                        refine cut (fun (q28392 : Bool) => [(0, (.int .i64 p_)), (1, (.int .i64 size_)), (7, (g92).v), (10, (.int .i64 s23898_1)), (11, (.int .i64 s23898_2)), (16, (.int .i64 ((k26893 : Nat) : Int))), (113, (.int .i64 ((r26841.length : Nat) : Int))), (114, (.int .i64 ((k26893 : Nat) : Int))), (129, (.bool q28392))]) (fun (q28392 : Bool) w' => q28392 = r28389 ∧ Cx w0 fp0 S0 w' [E (List (List Int)) s28062 g92]) ?_ ?_
                        · skip
                          obtain ⟨a28393, e, hF28394⟩ := bindS hF28391; clear hF28391
                          refine boolO e ?_; clear e
                          cases a28393
                          · have hF28395 := condF hF28394; clear hF28394
                            obtain ⟨a28402, e, hF28403⟩ := bindS hF28395; clear hF28395
                            replace H := H.toEH (α := List Int)
                            have HH := H; clear H; obtain ⟨p28400, m28401, h28404, c28396, c28397, c28398, c28399, H⟩ := HH.peekL e; clear HH
                            clear e
                            refine idxE c28396 c28397 c28398 ?_
                            refine load1 c28399 ?_; clear c28399
                            obtain ⟨a28411, e, hF28412⟩ := bindS hF28403; clear hF28403
                            obtain ⟨p28409, m28410, c28405, c28406, c28407, c28408⟩ := (H.rh (α := List Int) 0 rfl 0 rfl).at1 e; clear e
                            refine idxE c28405 c28406 c28407 ?_; clear c28405 c28406 c28407
                            refine load1 c28408 ?_; clear c28408
                            obtain ⟨a28413, e, hF28414⟩ := bindS hF28412; clear hF28412
                            refine boolO e ?_; clear e
                            replace H := H.ofEH
                            exact ⟨a28413, ⟨rfl, rfl, rfl, rfl, rfl, rfl, rfl, rfl, rfl, trivial⟩, Option.some.inj hF28414, H.sel [0] rfl⟩
                          · have hF28415 := condT hF28394; clear hF28394
                            exact ⟨true, ⟨rfl, rfl, rfl, rfl, rfl, rfl, rfl, rfl, rfl, trivial⟩, Option.some.inj hF28415, H.sel [0] rfl⟩
                        · clear hF28391 H
                          rintro T28417 s28387 w28416 ⟨hr, (H : Cx w0 fp0 S0 w28416 [E (List (List Int)) s28062 g92])⟩
                          subst hr
                          cases s28387
                          · have hF28418 := condF hF28390; clear hF28390
                            obtain ⟨a28425, e, hF28426⟩ := bindS hF28418; clear hF28418
                            replace H := H.toEH (α := List Int)
                            have HH := H; clear H; obtain ⟨p28423, m28424, h28427, c28419, c28420, c28421, c28422, H⟩ := HH.peekL e; clear HH
                            clear e
                            refine idxE c28419 c28420 c28421 ?_
                            refine load1 c28422 ?_; clear c28422
                            obtain ⟨a28434, e, hF28435⟩ := bindS hF28426; clear hF28426
                            obtain ⟨p28432, m28433, c28428, c28429, c28430, c28431⟩ := (H.rh (α := List Int) 0 rfl 0 rfl).at1 e; clear e
                            refine idxE c28428 c28429 c28430 ?_; clear c28428 c28429 c28430
                            refine load1 c28431 ?_; clear c28431
                            replace H := H.ofEH
                            obtain ⟨a28442, e, hF28443⟩ := bindS hF28435; clear hF28435
                            replace H := H.toEH (α := List Int)
                            have HH := H; clear H; obtain ⟨p28440, m28441, h28444, c28436, c28437, c28438, c28439, H⟩ := HH.peekL e; clear HH
                            clear e
                            refine idxE c28436 c28437 c28438 ?_
                            refine load1 c28439 ?_; clear c28439
                            have hmx28445 := (H.rh (α := List Int) 0 rfl 0 rfl).max
                            refine lenE (H.rh (α := List Int) 0 rfl 0 rfl).len ?_
                            replace H := H.ofEH
                            obtain ⟨r28578, e, hF28579⟩ := bindS hF28443; clear hF28443
                            refine loopS _ a28442.length (fun (k28446 : Nat) (s28575 : List (List Int)) (_ : Unit) => [(0, (.int .i64 p_)), (1, (.int .i64 size_)), (7, (g92).v), (10, (.int .i64 s23898_1)), (11, (.int .i64 s23898_2)), (16, (.int .i64 ((k26893 : Nat) : Int))), (17, (.int .i64 a28434)), (113, (.int .i64 ((r26841.length : Nat) : Int))), (114, (.int .i64 ((k26893 : Nat) : Int))), (141, (.int .i64 ((a28442.length : Nat) : Int))), (142, (.int .i64 ((k28446 : Nat) : Int)))]) (fun _ (s28575 : List (List Int)) (_ : Unit) w' => Cx w0 fp0 S0 w' [E (List (List Int)) s28575 g92]) s28062 () e ⟨rfl, rfl, rfl, rfl, rfl, rfl, rfl, rfl, rfl, rfl, rfl, trivial⟩ (H.sel [0] rfl) ?_ ?_
                            · clear H e
                              rintro T28581 k28446 s28575 _ w28580 o28582 hk (H : Cx w0 fp0 S0 w28580 [E (List (List Int)) s28575 g92]) hF28583
                              refine boolE (z := true) (ltLen hk) ?_
                              refine sq ?_
                              refine sq ?_
                              refine heldX H [25] (.fst 0 (.fst 1 (.fst 2 (.fst 4 (.fst 5 (.fst 6 (.fst 7 (.fst 8 (.fst 10 (.fst 13 (.fst 14 (.fst 15 (.fst 16 (.fst 17 (.fst 19 (.fst 3 (.fst 9 (.fst 11 (.fst 12 (.fst 18 (.fst 20 (.fst 21 (.act 22 (.act 23 (.fst 24 (.act 25 .done)))))))))))))))))))))))))) mixed [] trivial (by kernel_rfl) ?_; clear H; intro w28584 H
                              have hX : Ext w28584 w28584 := Upd.refl _ _
                              have H0 := H
                              obtain ⟨a28591, e, hF28592⟩ := bindS hF28583; clear hF28583
                              replace H := H.toEH (α := List Int)
                              have HH := H; clear H; obtain ⟨p28589, m28590, h28593, c28585, c28586, c28587, c28588, H⟩ := HH.peekL e; clear HH
                              clear e
                              refine idxE c28585 c28586 c28587 ?_
                              obtain ⟨a28600, e, hF28601⟩ := bindS hF28592; clear hF28592
                              have HH := H; clear H; obtain ⟨p28598, m28599, h28602, c28594, c28595, c28596, c28597, H⟩ := HH.peekL e; clear HH
                              clear e
                              refine idxE c28594 c28595 c28596 ?_
                              obtain ⟨a28609, e, hF28610⟩ := bindS hF28601; clear hF28601
                              have HH := H; clear H; obtain ⟨p28607, m28608, h28611, c28603, c28604, c28605, c28606, H⟩ := HH.peekL e; clear HH
                              clear e
                              refine idxE c28603 c28604 c28605 ?_
                              refine load1X c28588 ?_; clear c28588
                              refine load1X c28597 ?_; clear c28597
                              obtain ⟨a28618, e, hF28619⟩ := bindS hF28610; clear hF28610
                              obtain ⟨p28616, m28617, c28612, c28613, c28614, c28615⟩ := (H.rh (α := List Int) 0 rfl 1 rfl).at1 e; clear e
                              refine idxE c28612 c28613 c28614 ?_; clear c28612 c28613 c28614
                              refine load1X c28615 ?_; clear c28615
                              refine load1X c28606 ?_; clear c28606
                              obtain ⟨a28626, e, hF28627⟩ := bindS hF28619; clear hF28619
                              obtain ⟨p28624, m28625, c28620, c28621, c28622, c28623⟩ := (H.rh (α := List Int) 0 rfl 0 rfl).at1 e; clear e
                              refine idxE c28620 c28621 c28622 ?_; clear c28620 c28621 c28622
                              refine load1X c28623 ?_; clear c28623
                              obtain ⟨y28628, e, hF28629⟩ := bindS hF28627; clear hF28627
                              have ey28628 := e; clear e
                              refine callFx (spec_fdMul_c p_ a28434 a28626 y28628 ey28628) H trivial ?_; clear H ey28628
                              rintro _ _ w28630 ⟨rfl, rfl⟩ hx (H : Cx w0 fp0 S0 w28630 [EH (List Int) s28575 g92 [⟨m28608, a28609, h28611⟩, ⟨m28599, a28600, h28602⟩, ⟨m28590, a28591, h28593⟩]])
                              replace hX := hX.trans0 hx; clear hx
                              refine hold hX ?_
                              obtain ⟨y28631, e, hF28632⟩ := bindS hF28629; clear hF28629
                              have ey28631 := e; clear e
                              refine callFx (spec_fdSub_c p_ a28618 y28628 y28631 ey28631) H trivial ?_; clear H ey28631
                              rintro _ _ w28633 ⟨rfl, rfl⟩ hx (H : Cx w0 fp0 S0 w28633 [EH (List Int) s28575 g92 [⟨m28608, a28609, h28611⟩, ⟨m28599, a28600, h28602⟩, ⟨m28590, a28591, h28593⟩]])
                              replace hX := hX.trans0 hx; clear hx
                              refine hold hX ?_
                              replace H := H.takeK 2 rfl
                              obtain ⟨a28641, e, hF28642⟩ := bindS hF28632; clear hF28632
                              have ea28641 := e; clear e
                              obtain ⟨p28638, m28639, c28634, c28635, c28636⟩ := (H.ro (α := List Int) 0 rfl).setp ea28641
                              refine idxE c28634 c28635 c28636 ?_
                              refine setS (α := Int) H c28634 c28635 ea28641 ?_; clear H c28634 c28635 c28636 ea28641; intro w28643 H
                              obtain ⟨a28644, e, hF28645⟩ := bindS hF28642; clear hF28642
                              replace H := H.put c28586 e; clear e
                              refine hold trivial ?_
                              refine arK hk hmx28445 ?_
                              have hs := Option.some.inj hF28645; subst hs; clear hF28645
                              exact ⟨(), ⟨rfl, rfl, rfl, rfl, rfl, rfl, rfl, rfl, rfl, rfl, rfl, trivial⟩, H.sel [0] rfl⟩
                            · clear H e
                              rintro T28647 _ w28646 (H : Cx w0 fp0 S0 w28646 [E (List (List Int)) r28578 g92])
                              refine boolE (z := false) geLen ?_
                              refine sq ?_
                              exact ⟨r28578, ⟨rfl, rfl, rfl, rfl, rfl, rfl, rfl, trivial⟩, Option.some.inj hF28579, H.sel [0] rfl⟩
                          · have hF28650 := condT hF28390; clear hF28390
                            exact ⟨s28062, ⟨rfl, rfl, rfl, rfl, rfl, rfl, rfl, trivial⟩, Option.some.inj hF28650, H.sel [0] rfl⟩
                      · clear hF28362 H
                        rintro T28652 s28358 w28651 ⟨hr, (H : Cx w0 fp0 S0 w28651 [E (List (List Int)) s28358 g92])⟩
                        subst hr
                        refine arK hk hmx28064 ?_
                        have hs := Option.some.inj hF28361; subst hs; clear hF28361
                        exact ⟨(), ⟨rfl, rfl, rfl, rfl, rfl, rfl, rfl, trivial⟩, H.sel [0] rfl⟩
                    · clear H e
                      rintro T28654 _ w28653 (H : Cx w0 fp0 S0 w28653 [E (List (List Int)) r28065 g92])
                      refine boolE (z := false) geLen ?_
                      refine sq ?_
                      obtain ⟨a28657, e, hF28658⟩ := bindS hF28066; clear hF28066
                      refine arO e ?_; clear e
                      exact ⟨(r28065, a28657), ⟨rfl, rfl, rfl, rfl, rfl, trivial⟩, Option.some.inj hF28658, H.sel [0] rfl⟩
                · have hF28659 := condT hF26683; clear hF26683
                  exact ⟨(s23898_0, s23898_1), ⟨rfl, rfl, rfl, rfl, rfl, trivial⟩, Option.some.inj hF28659, H.sel [0] rfl⟩
            · clear hF26296 H
              rintro T28661 ⟨s26292_0, s26292_1⟩ w28660 ⟨hr, (H : Cx w0 fp0 S0 w28660 [E (List (List Int)) s26292_0 g92])⟩
              subst hr
              obtain ⟨a28662, e, hF28663⟩ := bindS hF26295; clear hF26295
              refine arO e ?_; clear e
              have hs := Option.some.inj hF28663; subst hs; clear hF28663
              exact ⟨(s26292_0, s26292_1, a28662), (), rfl, ⟨rfl, rfl, rfl, rfl, rfl, trivial⟩, H.sel [0] rfl⟩
    · clear hF14380 H
      rintro T28665 ⟨s14376_0, s14376_1⟩ w28664 ⟨hr, (H : Cx w0 fp0 S0 w28664 [E (List (List Int)) s14376_0 g92])⟩
      subst hr
      obtain ⟨a28666, e, hF28667⟩ := bindS hF14379; clear hF14379
      refine slO (α := List Int) gok rfl rfl H e rfl rfl ?_; clear e H; intro h28668 H
      cases hF28667
      exact ⟨_, _, rfl, ⟨h28668, rfl, rfl⟩, (H.sel [0] rfl).close ⟨cloE, trivial⟩⟩

theorem spec_HankelRank_c (p_ : Int) (m_ : List (Int × List (List Int))) (m_h : Hd) (y0 : Int) (y1 : Bool) (hF : F_spec_HankelRank p_ m_ = some (y0, y1)) :
    ConF Tryd.prog 20 #[(.int .i64 p_), (m_h).v] [Es (List (Int × List (List Int))) m_ m_h] [] (fun v Γ' => v = (.tuple #[(.int .i64 y0), (.bool y1)]) ∧ Γ' = []) := by
  intro w0 S0 fp0 hI hS
  have H : Cx w0 fp0 S0 w0 [Es (List (Int × List (List Int))) m_ m_h] := Cx.start hI hS
  clear hI hS
  refine enterC (args := [_, _]) gok Tryd.func20 rfl _ rfl rfl rfl ?_
  refine sq ?_
  obtain ⟨y2, e, hF3⟩ := bindS hF; clear hF
  have ey2 := e; clear e
  refine callF (spec_rzResponse_c p_ m_ m_h y2 ey2) (Γi := []) H ⟨Vw.sh 0 rfl, trivial⟩ ?_; clear H ey2
  rintro _ _ w4 ⟨rfl, rfl⟩ (H : Cx w0 fp0 S0 w4 [Es (List (Int × List (List Int))) m_ m_h])
  obtain ⟨a5, e, hF6⟩ := bindS hF3; clear hF3
  refine boolO e ?_; clear e
  cases a5
  · have hF7 := condF hF6; clear hF6
    refine lenE (H.rs (α := List (Int × List (List Int))) 0 rfl).len ?_
    obtain ⟨a8, e, hF9⟩ := bindS hF7; clear hF7
    refine quoO_ e ?_; clear e
    refine heldX H [] (.fst 0 (.fst 1 (.fst 2 (.fst 3 (.fst 4 (.fst 7 (.fst 8 (.fst 9 (.fst 5 (.fst 6 (.act 10 (.act 11 (.fst 12 (.fst 13 (.fst 14 .done))))))))))))))) mixed [] trivial (by kernel_rfl) ?_; clear H; intro w10 H
    have hX : Ext w10 w10 := Upd.refl _ _
    have H0 := H
    obtain ⟨a17, e, hF18⟩ := bindS hF9; clear hF9
    have HH := H; clear H; obtain ⟨p15, m16, g19, c11, c12, c13, c14, H⟩ := HH.el (α := Int × List (List Int)) 0 rfl e; clear HH
    clear e
    obtain ⟨a17_0, a17_1⟩ := a17
    obtain ⟨_, h21⟩ := g19
    replace H := H.part (β := List (List Int)) a17_1 (h21 : Hd) 0 rfl (fun S h => (And.right h))
    replace H := H.sel [0, 2] rfl
    refine idxE c11 c12 c13 ?_; clear c11 c12 c13
    refine anyH (fun _ => fld gok rfl rfl rfl rfl ⟨rfl, rfl⟩) ?_
    refine load1X (c14 0 _ rfl) ?_
    obtain ⟨a23, e, hF24⟩ := bindS hF18; clear hF18
    refine arO e ?_; clear e
    obtain ⟨y25, e, hF26⟩ := bindS hF24; clear hF24
    have ey25 := e; clear e
    refine callFx (spec_rzHankel_c m_ m_h a8 a8 y25 ey25) H ⟨Vw.sh 1 rfl, trivial⟩ ?_; clear H ey25
    rintro _ _ w27 ⟨h28, rfl, rfl⟩ hx (H : Cx w0 fp0 S0 w27 [E (List (List Int)) y25 h28, Es (List (List Int)) a17_1 h21, Es (List (Int × List (List Int))) m_ m_h])
    replace hX := hX.trans0 hx; clear hx
    refine hold hX ?_
    obtain ⟨y30, e, hF31⟩ := bindS hF26; clear hF26
    have ey30 := e; clear e
    refine callFx (spec_spReduce_c p_ a23 y25 h28 y30 ey30) H ⟨Vw.own 0 rfl, trivial⟩ ?_; clear H ey30
    rintro _ _ w32 ⟨h33, rfl, rfl⟩ hx (H : Cx w0 fp0 S0 w32 [E (List (List Int)) y30 h33, E (List (List Int)) y25 h28, Es (List (List Int)) a17_1 h21, Es (List (Int × List (List Int))) m_ m_h])
    replace hX := hX.trans0 hx; clear hx
    refine hold hX ?_
    refine lenE (H.ro (α := List (List Int)) 0 rfl).len ?_
    cases hF31
    exact ⟨_, _, rfl, ⟨rfl, rfl⟩, (H.sel [] rfl).close trivial⟩
  · have hF35 := condT hF6; clear hF6
    cases hF35
    exact ⟨_, _, rfl, ⟨rfl, rfl⟩, (H.sel [] rfl).close trivial⟩

theorem impl_isField_c (p_ : Int) (y : Bool) (hF : F_impl_isField p_ = some y) :
    ConF Tryd.prog 104 #[(.int .i64 p_)] [Gl 0 [.int .i64 2, .int .i64 3, .int .i64 5, .int .i64 7]] [] (fun v Γ' => v = (.bool y) ∧ Γ' = []) := by
  intro w0 S0 fp0 hI hS
  have H : Cx w0 fp0 S0 w0 [Gl 0 [.int .i64 2, .int .i64 3, .int .i64 5, .int .i64 7]] := Cx.start hI hS
  clear hI hS
  refine enterC (args := [_]) gok Tryd.func104 rfl _ rfl rfl rfl ?_
  refine sq ?_
  obtain ⟨r10, hF12, hF11⟩ := bindS hF; clear hF
  refine cut (fun (q13 : Bool) => [(0, (.int .i64 p_)), (10, (.bool q13))]) (fun (q13 : Bool) w' => q13 = r10 ∧ Cx w0 fp0 S0 w' [Gl 0 [.int .i64 2, .int .i64 3, .int .i64 5, .int .i64 7]]) ?_ ?_
  · skip
    obtain ⟨a14, e, hF15⟩ := bindS hF12; clear hF12
    refine boolO e ?_; clear e
    cases a14
    · have hF16 := condF hF15; clear hF15
      obtain ⟨a17, e, hF18⟩ := bindS hF16; clear hF16
      refine boolO e ?_; clear e
      exact ⟨a17, ⟨rfl, rfl, trivial⟩, Option.some.inj hF18, H.sel [0] rfl⟩
    · have hF19 := condT hF15; clear hF15
      exact ⟨true, ⟨rfl, rfl, trivial⟩, Option.some.inj hF19, H.sel [0] rfl⟩
  · clear hF12 H
    rintro T21 s8 w20 ⟨hr, (H : Cx w0 fp0 S0 w20 [Gl 0 [.int .i64 2, .int .i64 3, .int .i64 5, .int .i64 7]])⟩
    subst hr
    cases s8
    · have hF22 := condF hF11; clear hF11
      refine sq ?_
      refine loadN [.int .i64 2, .int .i64 3, .int .i64 5, .int .i64 7] rfl (H.gl 0 rfl) ?_
      obtain ⟨a56, hn, hF57⟩ := bindS hF22; clear hF22
      obtain ⟨r59, e, hF60⟩ := bindS hF57; clear hF57
      refine loopO _ ((4 : Int).toNat) (fun (k23 : Nat) (_ : Unit) (_ : Unit) => [(0, (.int .i64 p_)), (11, (.agg #[.int .i64 2, .int .i64 3, .int .i64 5, .int .i64 7])), (12, (.int .i64 ((k23 : Nat) : Int)))]) (fun _ (_ : Unit) (_ : Unit) w' => Cx w0 fp0 S0 w' [Gl 0 [.int .i64 2, .int .i64 3, .int .i64 5, .int .i64 7]]) () () e ⟨rfl, rfl, rfl, trivial⟩ (H.sel [0] rfl) ?_ ?_
      · clear H e
        rintro T62 k23 _ _ w61 o63 hk (H : Cx w0 fp0 S0 w61 [Gl 0 [.int .i64 2, .int .i64 3, .int .i64 5, .int .i64 7]]) hrt hF64
        refine boolE (z := true) (ltNat hk) ?_
        refine sq ?_
        refine sq ?_
        obtain ⟨a65, e, hF66⟩ := bindS hF64; clear hF64
        refine indexI gok rfl rfl rfl rfl rfl e ?_; clear e
        obtain ⟨r77, hF79, hF78⟩ := bindS hF66; clear hF66
        refine cut (fun (q80 : Bool) => [(0, (.int .i64 p_)), (11, (.agg #[.int .i64 2, .int .i64 3, .int .i64 5, .int .i64 7])), (12, (.int .i64 ((k23 : Nat) : Int))), (23, (.bool q80))]) (fun (q80 : Bool) w' => q80 = r77 ∧ Cx w0 fp0 S0 w' [Gl 0 [.int .i64 2, .int .i64 3, .int .i64 5, .int .i64 7]]) ?_ ?_
        · skip
          obtain ⟨a81, e, hF82⟩ := bindS hF79; clear hF79
          refine remO_ e ?_; clear e
          obtain ⟨a83, e, hF84⟩ := bindS hF82; clear hF82
          refine boolO e ?_; clear e
          cases a83
          · have hF85 := condF hF84; clear hF84
            exact ⟨false, ⟨rfl, rfl, rfl, rfl, trivial⟩, Option.some.inj hF85, H.sel [0] rfl⟩
          · have hF86 := condT hF84; clear hF84
            obtain ⟨a87, e, hF88⟩ := bindS hF86; clear hF86
            refine boolO e ?_; clear e
            exact ⟨a87, ⟨rfl, rfl, rfl, rfl, trivial⟩, Option.some.inj hF88, H.sel [0] rfl⟩
        · clear hF79 H
          rintro T90 s75 w89 ⟨hr, (H : Cx w0 fp0 S0 w89 [Gl 0 [.int .i64 2, .int .i64 3, .int .i64 5, .int .i64 7]])⟩
          subst hr
          cases s75
          · have hF91 := condF hF78; clear hF78
            refine arK hk (maxI hn) ?_
            have hs := Option.some.inj hF91; subst hs; clear hF91
            exact ⟨(), (), rfl, ⟨rfl, rfl, rfl, trivial⟩, H.sel [0] rfl⟩
          · have hF92 := condT hF78; clear hF78
            have hs := Option.some.inj hF92; subst hs; clear hF92
            have hr := hrt _ rfl; subst hr
            have hF93 : some _ = some _ := hF60
            cases hF93
            exact ⟨_, _, rfl, ⟨rfl, rfl⟩, (H.sel [] rfl).close trivial⟩
      · clear H e
        rintro T95 _ _ w94 hr (H : Cx w0 fp0 S0 w94 [Gl 0 [.int .i64 2, .int .i64 3, .int .i64 5, .int .i64 7]])
        subst hr
        refine boolE (z := false) geNat ?_
        refine sq ?_
        cases hF60
        exact ⟨_, _, rfl, ⟨rfl, rfl⟩, (H.sel [] rfl).close trivial⟩
    · have hF98 := condT hF11; clear hF11
      cases hF98
      exact ⟨_, _, rfl, ⟨rfl, rfl⟩, (H.sel [] rfl).close trivial⟩

theorem impl_within_c (n_ : Int) (low_ : Int) (high_ : Int) (y : Bool) (hF : F_impl_within n_ low_ high_ = some y) :
    ConF Tryd.prog 78 #[(.int .i64 n_), (.int .i64 low_), (.int .i64 high_)] [] [] (fun v Γ' => v = (.bool y) ∧ Γ' = []) := by
  intro w0 S0 fp0 hI hS
  have H : Cx w0 fp0 S0 w0 [] := Cx.start hI hS
  clear hI hS
  refine enterC (args := [_, _, _]) gok Tryd.func78 rfl _ rfl rfl rfl ?_
  obtain ⟨r9, hF11, hF10⟩ := bindS hF; clear hF
  refine cut (fun (q12 : Bool) => [(6, (.bool q12))]) (fun (q12 : Bool) w' => q12 = r9 ∧ Cx w0 fp0 S0 w' []) ?_ ?_
  · skip
    obtain ⟨a13, e, hF14⟩ := bindS hF11; clear hF11
    refine boolO e ?_; clear e
    cases a13
    · have hF15 := condF hF14; clear hF14
      exact ⟨false, ⟨rfl, trivial⟩, Option.some.inj hF15, H.sel [] rfl⟩
    · have hF16 := condT hF14; clear hF14
      obtain ⟨a17, e, hF18⟩ := bindS hF16; clear hF16
      refine boolO e ?_; clear e
      exact ⟨a17, ⟨rfl, trivial⟩, Option.some.inj hF18, H.sel [] rfl⟩
  · clear hF11 H
    rintro T20 s7 w19 ⟨hr, (H : Cx w0 fp0 S0 w19 [])⟩
    subst hr
    cases hF10
    exact ⟨_, _, rfl, ⟨rfl, rfl⟩, (H.sel [] rfl).close trivial⟩

theorem impl_isElement_c (p_ : Int) (a_ : Int) (y : Bool) (hF : F_impl_isElement p_ a_ = some y) :
    ConF Tryd.prog 133 #[(.int .i64 p_), (.int .i64 a_)] [] [] (fun v Γ' => v = (.bool y) ∧ Γ' = []) := by
  intro w0 S0 fp0 hI hS
  have H : Cx w0 fp0 S0 w0 [] := Cx.start hI hS
  clear hI hS
  refine enterC (args := [_, _]) gok Tryd.func133 rfl _ rfl rfl rfl ?_
  obtain ⟨r9, hF11, hF10⟩ := bindS hF; clear hF
  refine cut (fun (q12 : Bool) => [(4, (.bool q12))]) (fun (q12 : Bool) w' => q12 = r9 ∧ Cx w0 fp0 S0 w' []) ?_ ?_
  · skip
    obtain ⟨a13, e, hF14⟩ := bindS hF11; clear hF11
    refine boolO e ?_; clear e
    cases a13
    · have hF15 := condF hF14; clear hF14
      exact ⟨false, ⟨rfl, trivial⟩, Option.some.inj hF15, H.sel [] rfl⟩
    · have hF16 := condT hF14; clear hF14
      obtain ⟨a17, e, hF18⟩ := bindS hF16; clear hF16
      refine boolO e ?_; clear e
      exact ⟨a17, ⟨rfl, trivial⟩, Option.some.inj hF18, H.sel [] rfl⟩
  · clear hF11 H
    rintro T20 s7 w19 ⟨hr, (H : Cx w0 fp0 S0 w19 [])⟩
    subst hr
    cases hF10
    exact ⟨_, _, rfl, ⟨rfl, rfl⟩, (H.sel [] rfl).close trivial⟩

theorem impl_isVector_c (p_ : Int) (v_ : List Int) (v_h : Hd) (n_ : Int) (y : Bool) (hF : F_impl_isVector p_ v_ n_ = some y) :
    ConF Tryd.prog 85 #[(.int .i64 p_), (v_h).v, (.int .i64 n_)] [Es (List Int) v_ v_h] [] (fun v Γ' => v = (.bool y) ∧ Γ' = []) := by
  intro w0 S0 fp0 hI hS
  have H : Cx w0 fp0 S0 w0 [Es (List Int) v_ v_h] := Cx.start hI hS
  clear hI hS
  refine enterC (args := [_, _, _]) gok Tryd.func85 rfl _ rfl rfl rfl ?_
  refine sq ?_
  refine lenE (H.rs (α := List Int) 0 rfl).len ?_
  obtain ⟨a2, e, hF3⟩ := bindS hF; clear hF
  refine boolO e ?_; clear e
  cases a2
  · have hF4 := condF hF3; clear hF3
    refine sq ?_
    refine lenE (H.rs (α := List Int) 0 rfl).len ?_
    have hmx25 := (H.rs (α := List Int) 0 rfl).max
    obtain ⟨r26, e, hF27⟩ := bindS hF4; clear hF4
    refine loopO _ v_.length (fun (k5 : Nat) (_ : Unit) (_ : Unit) => [(0, (.int .i64 p_)), (13, (v_h).v), (14, (.int .i64 ((v_.length : Nat) : Int))), (15, (.int .i64 ((k5 : Nat) : Int)))]) (fun _ (_ : Unit) (_ : Unit) w' => Cx w0 fp0 S0 w' [Es (List Int) v_ v_h]) () () e ⟨rfl, rfl, rfl, rfl, trivial⟩ (H.sel [0] rfl) ?_ ?_
    · clear H e
      rintro T29 k5 _ _ w28 o30 hk (H : Cx w0 fp0 S0 w28 [Es (List Int) v_ v_h]) hrt hF31
      refine boolE (z := true) (ltLen hk) ?_
      refine sq ?_
      refine sq ?_
      obtain ⟨a38, e, hF39⟩ := bindS hF31; clear hF31
      obtain ⟨p36, m37, c32, c33, c34, c35⟩ := (H.rs (α := List Int) 0 rfl).at1 e; clear e
      refine idxE c32 c33 c34 ?_; clear c32 c33 c34
      refine load1 c35 ?_; clear c35
      obtain ⟨y40, e, hF41⟩ := bindS hF39; clear hF39
      have ey40 := e; clear e
      refine callF (impl_isElement_c p_ a38 y40 ey40) (Γi := []) H trivial ?_; clear H ey40
      rintro _ _ w42 ⟨rfl, rfl⟩ (H : Cx w0 fp0 S0 w42 [Es (List Int) v_ v_h])
      obtain ⟨a43, e, hF44⟩ := bindS hF41; clear hF41
      refine boolO e ?_; clear e
      cases a43
      · have hF45 := condF hF44; clear hF44
        refine arK hk hmx25 ?_
        have hs := Option.some.inj hF45; subst hs; clear hF45
        exact ⟨(), (), rfl, ⟨rfl, rfl, rfl, rfl, trivial⟩, H.sel [0] rfl⟩
      · have hF46 := condT hF44; clear hF44
        have hs := Option.some.inj hF46; subst hs; clear hF46
        have hr := hrt _ rfl; subst hr
        have hF47 : some _ = some _ := hF27
        cases hF47
        exact ⟨_, _, rfl, ⟨rfl, rfl⟩, (H.sel [] rfl).close trivial⟩
    · clear H e
      rintro T49 _ _ w48 hr (H : Cx w0 fp0 S0 w48 [Es (List Int) v_ v_h])
      subst hr
      refine boolE (z := false) geLen ?_
      refine sq ?_
      cases hF27
      exact ⟨_, _, rfl, ⟨rfl, rfl⟩, (H.sel [] rfl).close trivial⟩
  · have hF52 := condT hF3; clear hF3
    cases hF52
    exact ⟨_, _, rfl, ⟨rfl, rfl⟩, (H.sel [] rfl).close trivial⟩

theorem impl_areVectors_c (p_ : Int) (rows_ : List (List Int)) (rows_h : Hd) (n_ : Int) (y : Bool) (hF : F_impl_areVectors p_ rows_ n_ = some y) :
    ConF Tryd.prog 127 #[(.int .i64 p_), (rows_h).v, (.int .i64 n_)] [Es (List (List Int)) rows_ rows_h] [] (fun v Γ' => v = (.bool y) ∧ Γ' = []) := by
  intro w0 S0 fp0 hI hS
  have H : Cx w0 fp0 S0 w0 [Es (List (List Int)) rows_ rows_h] := Cx.start hI hS
  clear hI hS
  refine enterC (args := [_, _, _]) gok Tryd.func127 rfl _ rfl rfl rfl ?_
  refine sq ?_
  refine lenE (H.rs (α := List (List Int)) 0 rfl).len ?_
  have hmx24 := (H.rs (α := List (List Int)) 0 rfl).max
  obtain ⟨r25, e, hF26⟩ := bindS hF; clear hF
  refine loopO _ rows_.length (fun (k2 : Nat) (_ : Unit) (_ : Unit) => [(0, (.int .i64 p_)), (2, (.int .i64 n_)), (9, (rows_h).v), (10, (.int .i64 ((rows_.length : Nat) : Int))), (11, (.int .i64 ((k2 : Nat) : Int)))]) (fun _ (_ : Unit) (_ : Unit) w' => Cx w0 fp0 S0 w' [Es (List (List Int)) rows_ rows_h]) () () e ⟨rfl, rfl, rfl, rfl, rfl, trivial⟩ (H.sel [0] rfl) ?_ ?_
  · clear H e
    rintro T28 k2 _ _ w27 o29 hk (H : Cx w0 fp0 S0 w27 [Es (List (List Int)) rows_ rows_h]) hrt hF30
    refine boolE (z := true) (ltLen hk) ?_
    refine sq ?_
    refine sq ?_
    obtain ⟨a37, e, hF38⟩ := bindS hF30; clear hF30
    have HH := H; clear H; obtain ⟨p35, m36, h39, c31, c32, c33, c34, H⟩ := HH.elL 0 rfl e; clear HH
    clear e
    refine idxE c31 c32 c33 ?_; clear c31 c32 c33
    refine load1 c34 ?_; clear c34
    obtain ⟨y41, e, hF42⟩ := bindS hF38; clear hF38
    have ey41 := e; clear e
    refine callF (impl_isVector_c p_ a37 h39 n_ y41 ey41) (Γi := []) H ⟨Vw.sh 0 rfl, trivial⟩ ?_; clear H ey41
    rintro _ _ w43 ⟨rfl, rfl⟩ (H : Cx w0 fp0 S0 w43 [Es (List Int) a37 h39, Es (List (List Int)) rows_ rows_h])
    obtain ⟨a44, e, hF45⟩ := bindS hF42; clear hF42
    refine boolO e ?_; clear e
    cases a44
    · have hF46 := condF hF45; clear hF45
      refine arK hk hmx24 ?_
      have hs := Option.some.inj hF46; subst hs; clear hF46
      exact ⟨(), (), rfl, ⟨rfl, rfl, rfl, rfl, rfl, trivial⟩, H.sel [1] rfl⟩
    · have hF47 := condT hF45; clear hF45
      have hs := Option.some.inj hF47; subst hs; clear hF47
      have hr := hrt _ rfl; subst hr
      have hF48 : some _ = some _ := hF26
      cases hF48
      exact ⟨_, _, rfl, ⟨rfl, rfl⟩, (H.sel [] rfl).close trivial⟩
  · clear H e
    rintro T50 _ _ w49 hr (H : Cx w0 fp0 S0 w49 [Es (List (List Int)) rows_ rows_h])
    subst hr
    refine boolE (z := false) geLen ?_
    refine sq ?_
    cases hF26
    exact ⟨_, _, rfl, ⟨rfl, rfl⟩, (H.sel [] rfl).close trivial⟩

theorem impl_isMatrix_c (p_ : Int) (m__0 : Int) (m__1 : List (List Int)) (m__1h : Hd) (y : Bool) (hF : F_impl_isMatrix p_ (m__0, m__1) = some y) :
    ConF Tryd.prog 108 #[(.int .i64 p_), (.agg #[(.int .i64 m__0), (m__1h).v])] [Es (List (List Int)) m__1 m__1h, Gl 0 [.int .i64 2, .int .i64 3, .int .i64 5, .int .i64 7]] [] (fun v Γ' => v = (.bool y) ∧ Γ' = []) := by
  intro w0 S0 fp0 hI hS
  have H : Cx w0 fp0 S0 w0 [Es (List (List Int)) m__1 m__1h, Gl 0 [.int .i64 2, .int .i64 3, .int .i64 5, .int .i64 7]] := Cx.start hI hS
  clear hI hS
  refine enterC (args := [_, _]) gok Tryd.func108 rfl _ rfl rfl rfl ?_
  refine box_ H ?_; clear H; intro b4 w3 hx H
  clear hx
  replace H : Cx w0 fp0 S0 w3 [Bx b4 [(.int .i64 m__0), (m__1h).v], Es (List (List Int)) m__1 m__1h, Gl 0 [.int .i64 2, .int .i64 3, .int .i64 5, .int .i64 7]] := H
  obtain ⟨r25, hF27, hF26⟩ := bindS hF; clear hF
  refine cut (fun (q28 : Bool) => [(4, (.bool q28))]) (fun (q28 : Bool) w' => q28 = r25 ∧ Cx w0 fp0 S0 w' [Gl 0 [.int .i64 2, .int .i64 3, .int .i64 5, .int .i64 7]]) ?_ ?_
  · skip
    obtain ⟨y29, e, hF30⟩ := bindS hF27; clear hF27
    have ey29 := e; clear e
    refine callF (impl_isField_c p_ y29 ey29) (Γi := []) H ⟨Vw.gl 2 rfl, trivial⟩ ?_; clear H ey29
    rintro _ _ w31 ⟨rfl, rfl⟩ (H : Cx w0 fp0 S0 w31 [Bx b4 [(.int .i64 m__0), (m__1h).v], Es (List (List Int)) m__1 m__1h, Gl 0 [.int .i64 2, .int .i64 3, .int .i64 5, .int .i64 7]])
    cases y29
    · have hF32 := condF hF30; clear hF30
      exact ⟨false, ⟨rfl, trivial⟩, Option.some.inj hF32, H.sel [2] rfl⟩
    · have hF33 := condT hF30; clear hF30
      refine fld gok rfl rfl rfl rfl ?_
      refine load1 (H.bx 0 rfl (j := 0) rfl) ?_
      obtain ⟨y34, e, hF35⟩ := bindS hF33; clear hF33
      have ey34 := e; clear e
      refine callF (impl_within_c m__0 0 24 y34 ey34) (Γi := []) H trivial ?_; clear H ey34
      rintro _ _ w36 ⟨rfl, rfl⟩ (H : Cx w0 fp0 S0 w36 [Bx b4 [(.int .i64 m__0), (m__1h).v], Es (List (List Int)) m__1 m__1h, Gl 0 [.int .i64 2, .int .i64 3, .int .i64 5, .int .i64 7]])
      cases y34
      · have hF37 := condF hF35; clear hF35
        exact ⟨false, ⟨rfl, trivial⟩, Option.some.inj hF37, H.sel [2] rfl⟩
      · have hF38 := condT hF35; clear hF35
        refine fld gok rfl rfl rfl rfl ?_
        refine load1 (H.bx 0 rfl (j := 1) rfl) ?_
        refine lenE (H.rs (α := List (List Int)) 1 rfl).len ?_
        obtain ⟨a39, e, hF40⟩ := bindS hF38; clear hF38
        refine boolO e ?_; clear e
        cases a39
        · have hF41 := condF hF40; clear hF40
          exact ⟨false, ⟨rfl, trivial⟩, Option.some.inj hF41, H.sel [2] rfl⟩
        · have hF42 := condT hF40; clear hF40
          refine fld gok rfl rfl rfl rfl ?_
          refine load1 (H.bx 0 rfl (j := 1) rfl) ?_
          refine fld gok rfl rfl rfl rfl ?_
          refine load1 (H.bx 0 rfl (j := 0) rfl) ?_
          obtain ⟨y43, e, hF44⟩ := bindS hF42; clear hF42
          have ey43 := e; clear e
          refine callF (impl_areVectors_c p_ m__1 m__1h m__0 y43 ey43) (Γi := []) H ⟨Vw.sh 1 rfl, trivial⟩ ?_; clear H ey43
          rintro _ _ w45 ⟨rfl, rfl⟩ (H : Cx w0 fp0 S0 w45 [Bx b4 [(.int .i64 m__0), (m__1h).v], Es (List (List Int)) m__1 m__1h, Gl 0 [.int .i64 2, .int .i64 3, .int .i64 5, .int .i64 7]])
          exact ⟨y43, ⟨rfl, trivial⟩, Option.some.inj hF44, H.sel [2] rfl⟩
  · clear hF27 H
    rintro T47 s23 w46 ⟨hr, (H : Cx w0 fp0 S0 w46 [Gl 0 [.int .i64 2, .int .i64 3, .int .i64 5, .int .i64 7]])⟩
    subst hr
    cases hF26
    exact ⟨_, _, rfl, ⟨rfl, rfl⟩, (H.sel [] rfl).close trivial⟩

theorem impl_isResponse_c (p_ : Int) (m_ : List (Int × List (List Int))) (m_h : Hd) (y : Bool) (hF : F_impl_isResponse p_ m_ = some y) :
    ConF Tryd.prog 71 #[(.int .i64 p_), (m_h).v] [Es (List (Int × List (List Int))) m_ m_h, Gl 0 [.int .i64 2, .int .i64 3, .int .i64 5, .int .i64 7]] [] (fun v Γ' => v = (.bool y) ∧ Γ' = []) := by
  intro w0 S0 fp0 hI hS
  have H : Cx w0 fp0 S0 w0 [Es (List (Int × List (List Int))) m_ m_h, Gl 0 [.int .i64 2, .int .i64 3, .int .i64 5, .int .i64 7]] := Cx.start hI hS
  clear hI hS
  refine enterC (args := [_, _]) gok Tryd.func71 rfl _ rfl rfl rfl ?_
  refine sq ?_
  obtain ⟨r17, hF19, hF18⟩ := bindS hF; clear hF
  refine cut (fun (q20 : Bool) => [(0, (.int .i64 p_)), (1, (m_h).v), (15, (.bool q20))]) (fun (q20 : Bool) w' => q20 = r17 ∧ Cx w0 fp0 S0 w' [Es (List (Int × List (List Int))) m_ m_h, Gl 0 [.int .i64 2, .int .i64 3, .int .i64 5, .int .i64 7]]) ?_ ?_
  · skip
    obtain ⟨y21, e, hF22⟩ := bindS hF19; clear hF19
    have ey21 := e; clear e
    refine callF (impl_isField_c p_ y21 ey21) (Γi := []) H ⟨Vw.gl 1 rfl, trivial⟩ ?_; clear H ey21
    rintro _ _ w23 ⟨rfl, rfl⟩ (H : Cx w0 fp0 S0 w23 [Es (List (Int × List (List Int))) m_ m_h, Gl 0 [.int .i64 2, .int .i64 3, .int .i64 5, .int .i64 7]])
    obtain ⟨a24, e, hF25⟩ := bindS hF22; clear hF22
    refine boolO e ?_; clear e
    cases a24
    · have hF26 := condF hF25; clear hF25
      refine lenE (H.rs (α := List (Int × List (List Int))) 0 rfl).len ?_
      obtain ⟨y27, e, hF28⟩ := bindS hF26; clear hF26
      have ey27 := e; clear e
      refine callF (impl_within_c ((m_.length : Nat) : Int) 1 60 y27 ey27) (Γi := []) H trivial ?_; clear H ey27
      rintro _ _ w29 ⟨rfl, rfl⟩ (H : Cx w0 fp0 S0 w29 [Es (List (Int × List (List Int))) m_ m_h, Gl 0 [.int .i64 2, .int .i64 3, .int .i64 5, .int .i64 7]])
      obtain ⟨a30, e, hF31⟩ := bindS hF28; clear hF28
      refine boolO e ?_; clear e
      exact ⟨a30, ⟨rfl, rfl, rfl, trivial⟩, Option.some.inj hF31, H.sel [0, 1] rfl⟩
    · have hF32 := condT hF25; clear hF25
      exact ⟨true, ⟨rfl, rfl, rfl, trivial⟩, Option.some.inj hF32, H.sel [0, 1] rfl⟩
  · clear hF19 H
    rintro T34 s15 w33 ⟨hr, (H : Cx w0 fp0 S0 w33 [Es (List (Int × List (List Int))) m_ m_h, Gl 0 [.int .i64 2, .int .i64 3, .int .i64 5, .int .i64 7]])⟩
    subst hr
    cases s15
    · have hF35 := condF hF18; clear hF18
      refine sq ?_
      refine lenE (H.rs (α := List (Int × List (List Int))) 0 rfl).len ?_
      have hmx143 := (H.rs (α := List (Int × List (List Int))) 0 rfl).max
      obtain ⟨r144, e, hF145⟩ := bindS hF35; clear hF35
      refine loopO _ m_.length (fun (k36 : Nat) (_ : Unit) (_ : Unit) => [(0, (.int .i64 p_)), (1, (m_h).v), (16, (m_h).v), (17, (.int .i64 ((m_.length : Nat) : Int))), (18, (.int .i64 ((k36 : Nat) : Int)))]) (fun _ (_ : Unit) (_ : Unit) w' => Cx w0 fp0 S0 w' [Es (List (Int × List (List Int))) m_ m_h, Gl 0 [.int .i64 2, .int .i64 3, .int .i64 5, .int .i64 7]]) () () e ⟨rfl, rfl, rfl, rfl, rfl, trivial⟩ (H.sel [0, 1] rfl) ?_ ?_
      · clear H e
        rintro T147 k36 _ _ w146 o148 hk (H : Cx w0 fp0 S0 w146 [Es (List (Int × List (List Int))) m_ m_h, Gl 0 [.int .i64 2, .int .i64 3, .int .i64 5, .int .i64 7]]) hrt hF149
        refine boolE (z := true) (ltLen hk) ?_
        refine sq ?_
        refine sq ?_
        obtain ⟨a156, e, hF157⟩ := bindS hF149; clear hF149
        have HH := H; clear H; obtain ⟨p154, m155, g158, c150, c151, c152, c153, H⟩ := HH.el (α := Int × List (List Int)) 0 rfl e; clear HH
        clear e
        obtain ⟨a156_0, a156_1⟩ := a156
        obtain ⟨_, h160⟩ := g158
        replace H := H.part (β := List (List Int)) a156_1 (h160 : Hd) 0 rfl (fun S h => (And.right h))
        replace H := H.sel [0, 2, 3] rfl
        refine idxE c150 c151 c152 ?_; clear c150 c151 c152
        refine loadN [(.int .i64 a156_0), (h160).v] rfl c153 ?_; clear c153
        refine alloc_ gok rfl H ?_; clear H; intro b163 w162 hx H
        clear hx
        replace H : Cx w0 fp0 S0 w162 [Bx b163 [(.int .i64 0), (.slice none 0 0)], Es (List (List Int)) a156_1 h160, Es (List (Int × List (List Int))) m_ m_h, Gl 0 [.int .i64 2, .int .i64 3, .int .i64 5, .int .i64 7]] := H
        refine stA gok [(.int .i64 a156_0), (h160).v] rfl H rfl rfl rfl ?_; clear H; intro w165 H
        replace H : Cx w0 fp0 S0 w165 [Bx b163 [(.int .i64 a156_0), (h160).v], Es (List (List Int)) a156_1 h160, Es (List (Int × List (List Int))) m_ m_h, Gl 0 [.int .i64 2, .int .i64 3, .int .i64 5, .int .i64 7]] := H
        obtain ⟨r206, hF208, hF207⟩ := bindS hF157; clear hF157
        refine cut (fun (q209 : Bool) => [(0, (.int .i64 p_)), (1, (m_h).v), (16, (m_h).v), (17, (.int .i64 ((m_.length : Nat) : Int))), (18, (.int .i64 ((k36 : Nat) : Int))), (45, (.bool q209))]) (fun (q209 : Bool) w' => q209 = r206 ∧ Cx w0 fp0 S0 w' [Es (List (Int × List (List Int))) m_ m_h, Gl 0 [.int .i64 2, .int .i64 3, .int .i64 5, .int .i64 7]]) ?_ ?_
        · skip
          refine heldX H [] (.fst 0 (.fst 1 (.act 2 (.fst 3 (.fst 4 (.fst 5 (.fst 8 (.fst 9 (.fst 10 (.fst 6 (.fst 7 (.fst 11 (.fst 12 (.fst 13 (.fst 14 (.fst 15 (.fst 16 (.fst 18 (.fst 19 (.fst 20 (.fst 17 (.fst 21 (.fst 22 (.fst 23 .done)))))))))))))))))))))))) mixed [] trivial (by kernel_rfl) ?_; clear H; intro w210 H
          have hX : Ext w210 w210 := Upd.refl _ _
          have H0 := H
          refine loadNX [(.int .i64 a156_0), (h160).v] rfl (fun j u hj => H.bx 0 rfl hj) ?_
          obtain ⟨y211, e, hF212⟩ := bindS hF208; clear hF208
          have ey211 := e; clear e
          refine callFx (impl_isMatrix_c p_ a156_0 a156_1 h160 y211 ey211) H ⟨Vw.sh 1 rfl, Vw.gl 3 rfl, trivial⟩ ?_; clear H ey211
          rintro _ _ w213 ⟨rfl, rfl⟩ hx (H : Cx w0 fp0 S0 w213 [Bx b163 [(.int .i64 a156_0), (h160).v], Es (List (List Int)) a156_1 h160, Es (List (Int × List (List Int))) m_ m_h, Gl 0 [.int .i64 2, .int .i64 3, .int .i64 5, .int .i64 7]])
          replace hX := hX.trans0 hx; clear hx
          refine hold hX ?_
          obtain ⟨a214, e, hF215⟩ := bindS hF212; clear hF212
          refine boolO e ?_; clear e
          cases a214
          · have hF216 := condF hF215; clear hF215
            refine anyH (fun _ => fld gok rfl rfl rfl rfl ⟨rfl, rfl⟩) ?_
            obtain ⟨a223, e, hF224⟩ := bindS hF216; clear hF216
            have HH := H; clear H; obtain ⟨p221, m222, g225, c217, c218, c219, c220, H⟩ := HH.el (α := Int × List (List Int)) 2 rfl e; clear HH
            replace c220 := lateN hX (H0.rs (α := List (Int × List (List Int))) 2 rfl) rfl e c217 c220; clear e
            obtain ⟨a223_0, a223_1⟩ := a223
            obtain ⟨_, h227⟩ := g225
            replace H := H.part (β := List (List Int)) a223_1 (h227 : Hd) 0 rfl (fun S h => (And.right h))
            replace H := H.sel [0, 2, 3, 4, 5] rfl
            refine idxE c217 c218 c219 ?_; clear c217 c218 c219
            refine anyH (fun _ => fld gok rfl rfl rfl rfl ⟨rfl, rfl⟩) ?_
            refine load1X (H0.bx 0 rfl (j := 1) rfl) ?_
            refine lenE (H.rs (α := List (List Int)) 2 rfl).len ?_
            refine load1X (c220 1 _ rfl) ?_
            refine lenE (H.rs (α := List (List Int)) 0 rfl).len ?_
            obtain ⟨a229, e, hF230⟩ := bindS hF224; clear hF224
            refine boolO e ?_; clear e
            cases a229
            · have hF231 := condF hF230; clear hF230
              refine anyH (fun _ => fld gok rfl rfl rfl rfl ⟨rfl, rfl⟩) ?_
              obtain ⟨a238, e, hF239⟩ := bindS hF231; clear hF231
              have HH := H; clear H; obtain ⟨p236, m237, g240, c232, c233, c234, c235, H⟩ := HH.el (α := Int × List (List Int)) 3 rfl e; clear HH
              replace c235 := lateN hX (H0.rs (α := List (Int × List (List Int))) 2 rfl) rfl e c232 c235; clear e
              obtain ⟨a238_0, a238_1⟩ := a238
              obtain ⟨_, h242⟩ := g240
              replace H := H.part (β := List (List Int)) a238_1 (h242 : Hd) 0 rfl (fun S h => (And.right h))
              replace H := H.sel [0, 2, 3, 4, 5, 6] rfl
              refine idxE c232 c233 c234 ?_; clear c232 c233 c234
              refine anyH (fun _ => fld gok rfl rfl rfl rfl ⟨rfl, rfl⟩) ?_
              refine load1X (H0.bx 0 rfl (j := 0) rfl) ?_
              refine load1X (c235 0 _ rfl) ?_
              obtain ⟨a244, e, hF245⟩ := bindS hF239; clear hF239
              refine boolO e ?_; clear e
              exact ⟨a244, ⟨rfl, rfl, rfl, rfl, rfl, rfl, trivial⟩, Option.some.inj hF245, H.sel [4, 5] rfl⟩
            · have hF246 := condT hF230; clear hF230
              exact ⟨true, ⟨rfl, rfl, rfl, rfl, rfl, rfl, trivial⟩, Option.some.inj hF246, H.sel [3, 4] rfl⟩
          · have hF247 := condT hF215; clear hF215
            exact ⟨true, ⟨rfl, rfl, rfl, rfl, rfl, rfl, trivial⟩, Option.some.inj hF247, H.sel [2, 3] rfl⟩
        · clear hF208 H
          rintro T249 s204 w248 ⟨hr, (H : Cx w0 fp0 S0 w248 [Es (List (Int × List (List Int))) m_ m_h, Gl 0 [.int .i64 2, .int .i64 3, .int .i64 5, .int .i64 7]])⟩
          subst hr
          cases s204
          · have hF250 := condF hF207; clear hF207
            refine arK hk hmx143 ?_
            have hs := Option.some.inj hF250; subst hs; clear hF250
            exact ⟨(), (), rfl, ⟨rfl, rfl, rfl, rfl, rfl, trivial⟩, H.sel [0, 1] rfl⟩
          · have hF251 := condT hF207; clear hF207
            have hs := Option.some.inj hF251; subst hs; clear hF251
            have hr := hrt _ rfl; subst hr
            have hF252 : some _ = some _ := hF145
            cases hF252
            exact ⟨_, _, rfl, ⟨rfl, rfl⟩, (H.sel [] rfl).close trivial⟩
      · clear H e
        rintro T254 _ _ w253 hr (H : Cx w0 fp0 S0 w253 [Es (List (Int × List (List Int))) m_ m_h, Gl 0 [.int .i64 2, .int .i64 3, .int .i64 5, .int .i64 7]])
        subst hr
        refine boolE (z := false) geLen ?_
        refine sq ?_
        obtain ⟨r289, hF291, hF290⟩ := bindS hF145; clear hF145
        refine cut (fun (q292 : Bool) => [(4, (.bool q292))]) (fun (q292 : Bool) w' => q292 = r289 ∧ Cx w0 fp0 S0 w' [Gl 0 [.int .i64 2, .int .i64 3, .int .i64 5, .int .i64 7]]) ?_ ?_
        · skip
          obtain ⟨a299, e, hF300⟩ := bindS hF291; clear hF291
          have HH := H; clear H; obtain ⟨p297, m298, g301, c293, c294, c295, c296, H⟩ := HH.el (α := Int × List (List Int)) 0 rfl e; clear HH
          clear e
          obtain ⟨a299_0, a299_1⟩ := a299
          obtain ⟨_, h303⟩ := g301
          replace H := H.part (β := List (List Int)) a299_1 (h303 : Hd) 0 rfl (fun S h => (And.right h))
          replace H := H.sel [0, 2, 3] rfl
          refine idxE c293 c294 c295 ?_; clear c293 c294 c295
          refine fld gok rfl rfl rfl rfl ?_
          refine load1 (c296 1 _ rfl) ?_
          refine lenE (H.rs (α := List (List Int)) 0 rfl).len ?_
          obtain ⟨a305, e, hF306⟩ := bindS hF300; clear hF300
          refine boolO e ?_; clear e
          cases a305
          · have hF307 := condF hF306; clear hF306
            exact ⟨false, ⟨rfl, trivial⟩, Option.some.inj hF307, H.sel [2] rfl⟩
          · have hF308 := condT hF306; clear hF306
            obtain ⟨a315, e, hF316⟩ := bindS hF308; clear hF308
            have HH := H; clear H; obtain ⟨p313, m314, g317, c309, c310, c311, c312, H⟩ := HH.el (α := Int × List (List Int)) 1 rfl e; clear HH
            clear e
            obtain ⟨a315_0, a315_1⟩ := a315
            obtain ⟨_, h319⟩ := g317
            replace H := H.part (β := List (List Int)) a315_1 (h319 : Hd) 0 rfl (fun S h => (And.right h))
            replace H := H.sel [0, 2, 3, 4] rfl
            refine idxE c309 c310 c311 ?_; clear c309 c310 c311
            refine fld gok rfl rfl rfl rfl ?_
            refine load1 (c312 0 _ rfl) ?_
            obtain ⟨a321, e, hF322⟩ := bindS hF316; clear hF316
            refine boolO e ?_; clear e
            exact ⟨a321, ⟨rfl, trivial⟩, Option.some.inj hF322, H.sel [3] rfl⟩
        · clear hF291 H
          rintro T324 s287 w323 ⟨hr, (H : Cx w0 fp0 S0 w323 [Gl 0 [.int .i64 2, .int .i64 3, .int .i64 5, .int .i64 7]])⟩
          subst hr
          cases hF290
          exact ⟨_, _, rfl, ⟨rfl, rfl⟩, (H.sel [] rfl).close trivial⟩
    · have hF325 := condT hF18; clear hF18
      cases hF325
      exact ⟨_, _, rfl, ⟨rfl, rfl⟩, (H.sel [] rfl).close trivial⟩

theorem impl_beside_c (rows_ : Int) (blocks_ : List (Int × List (List Int))) (blocks_h : Hd) (y : List (List Int)) (hF : F_impl_beside rows_ blocks_ = some y) :
    ConF Tryd.prog 122 #[(.int .i64 rows_), (blocks_h).v] [Es (List (Int × List (List Int))) blocks_ blocks_h] [] (fun v Γ' => ∃ z0 : Hd, v = (z0).v ∧ Γ' = [E (List (List Int)) y z0]) := by
  intro w0 S0 fp0 hI hS
  have H : Cx w0 fp0 S0 w0 [Es (List (Int × List (List Int))) blocks_ blocks_h] := Cx.start hI hS
  clear hI hS
  refine enterC (args := [_, _]) gok Tryd.func122 rfl _ rfl rfl rfl ?_
  obtain ⟨a2, e, hF3⟩ := bindS hF; clear hF
  refine make_ (α := List Int) gok rfl rfl rfl rfl (makeCO_of e) H ?_; clear e H; intro h5 w4 hx H
  clear hx
  refine sq ?_
  refine lenE (H.ro (α := List (List Int)) 0 rfl).len ?_
  have hmx356 := (H.ro (α := List (List Int)) 0 rfl).max
  obtain ⟨r357, e, hF358⟩ := bindS hF3; clear hF3
  refine loopS _ a2.length (fun (k7 : Nat) (s354 : List (List Int)) (_ : Unit) => [(1, (blocks_h).v), (5, (h5).v), (12, (.int .i64 ((a2.length : Nat) : Int))), (13, (.int .i64 ((k7 : Nat) : Int)))]) (fun _ (s354 : List (List Int)) (_ : Unit) w' => Cx w0 fp0 S0 w' [Es (List (Int × List (List Int))) blocks_ blocks_h, E (List (List Int)) s354 h5]) a2 () e ⟨rfl, rfl, rfl, rfl, trivial⟩ (H.sel [1, 0] rfl) ?_ ?_
  · clear H e
    rintro T360 k7 s354 _ w359 o361 hk (H : Cx w0 fp0 S0 w359 [Es (List (Int × List (List Int))) blocks_ blocks_h, E (List (List Int)) s354 h5]) hF362
    refine boolE (z := true) (ltLen hk) ?_
    refine sq ?_
    refine sq ?_
    refine lenE (H.rs (α := List (Int × List (List Int))) 0 rfl).len ?_
    have hmx472 := (H.rs (α := List (Int × List (List Int))) 0 rfl).max
    obtain ⟨r473, e, hF474⟩ := bindS hF362; clear hF362
    refine loopS _ blocks_.length (fun (k363 : Nat) (s470 : List (List Int)) (_ : Unit) => [(1, (blocks_h).v), (5, (h5).v), (6, (.int .i64 ((k7 : Nat) : Int))), (12, (.int .i64 ((a2.length : Nat) : Int))), (13, (.int .i64 ((k7 : Nat) : Int))), (16, (blocks_h).v), (17, (.int .i64 ((blocks_.length : Nat) : Int))), (18, (.int .i64 ((k363 : Nat) : Int)))]) (fun _ (s470 : List (List Int)) (_ : Unit) w' => Cx w0 fp0 S0 w' [Es (List (Int × List (List Int))) blocks_ blocks_h, E (List (List Int)) s470 h5]) s354 () e ⟨rfl, rfl, rfl, rfl, rfl, rfl, rfl, rfl, trivial⟩ (H.sel [0, 1] rfl) ?_ ?_
    · clear H e
      rintro T476 k363 s470 _ w475 o477 hk (H : Cx w0 fp0 S0 w475 [Es (List (Int × List (List Int))) blocks_ blocks_h, E (List (List Int)) s470 h5]) hF478
      refine boolE (z := true) (ltLen hk) ?_
      refine sq ?_
      refine sq ?_
      obtain ⟨a485, e, hF486⟩ := bindS hF478; clear hF478
      have HH := H; clear H; obtain ⟨p483, m484, g487, c479, c480, c481, c482, H⟩ := HH.el (α := Int × List (List Int)) 0 rfl e; clear HH
      clear e
      obtain ⟨a485_0, a485_1⟩ := a485
      obtain ⟨_, h489⟩ := g487
      replace H := H.part (β := List (List Int)) a485_1 (h489 : Hd) 0 rfl (fun S h => (And.right h))
      replace H := H.sel [0, 2, 3] rfl
      refine idxE c479 c480 c481 ?_; clear c479 c480 c481
      refine loadN [(.int .i64 a485_0), (h489).v] rfl c482 ?_; clear c482
      refine alloc_ gok rfl H ?_; clear H; intro b492 w491 hx H
      clear hx
      replace H : Cx w0 fp0 S0 w491 [Bx b492 [(.int .i64 0), (.slice none 0 0)], Es (List (List Int)) a485_1 h489, Es (List (Int × List (List Int))) blocks_ blocks_h, E (List (List Int)) s470 h5] := H
      refine stA gok [(.int .i64 a485_0), (h489).v] rfl H rfl rfl rfl ?_; clear H; intro w494 H
      replace H : Cx w0 fp0 S0 w494 [Bx b492 [(.int .i64 a485_0), (h489).v], Es (List (List Int)) a485_1 h489, Es (List (Int × List (List Int))) blocks_ blocks_h, E (List (List Int)) s470 h5] := H
      refine heldX H [11, 13, 12, 0, 1] (.pure 0 (.pure 1 (.fst 2 (.fst 3 (.fst 4 (.fst 6 (.fst 8 (.fst 5 (.fst 7 (.fst 9 (.fst 10 (.act 11 (.act 12 (.act 13 .done)))))))))))))) mixed [] trivial (by kernel_rfl) ?_; clear H; intro w495 H
      have hX : Ext w495 w495 := Upd.refl _ _
      have H0 := H
      obtain ⟨a502, e, hF503⟩ := bindS hF486; clear hF486
      replace H := H.sel [3, 0, 1, 2] rfl
      replace H := H.toEH (α := List Int)
      have HH := H; clear H; obtain ⟨p500, m501, h504, c496, c497, c498, c499, H⟩ := HH.peekL e; clear HH
      clear e
      refine idxE c496 c497 c498 ?_
      refine anyH (fun _ => fld gok rfl rfl rfl rfl ⟨rfl, rfl⟩) ?_
      refine load1X c499 ?_; clear c499
      refine load1X (H.bx 1 rfl (j := 1) rfl) ?_
      obtain ⟨a511, e, hF512⟩ := bindS hF503; clear hF503
      have HH := H; clear H; obtain ⟨p509, m510, h513, c505, c506, c507, c508, H⟩ := HH.elL 2 rfl e; clear HH
      clear e
      refine idxE c505 c506 c507 ?_; clear c505 c506 c507
      refine load1X c508 ?_; clear c508
      replace H := H.sel [1, 0, 2, 3, 4] rfl
      replace H := H.takeK 0 rfl
      obtain ⟨a516, e, hF517⟩ := bindS hF512; clear hF512
      refine appendS (α := Int) gok rfl rfl rfl rfl H (Vw.sh 1 rfl) e ?_; clear e H; intro h519 w518 H
      refine hold trivial ?_
      refine idxE c496 c497 c498 ?_
      refine hold trivial ?_
      replace H := H.sel [1, 0, 2, 3, 4, 5] rfl
      refine stX0 H c496 rfl rfl ?_; clear H; intro w527 H
      obtain ⟨a528, e, hF529⟩ := bindS hF517; clear hF517
      replace H := H.sel [1, 0, 2, 3, 4, 5] rfl
      replace H := H.put c497 e; clear e
      refine hold trivial ?_
      refine arK hk hmx472 ?_
      have hs := Option.some.inj hF529; subst hs; clear hF529
      exact ⟨(), ⟨rfl, rfl, rfl, rfl, rfl, rfl, rfl, rfl, trivial⟩, H.sel [4, 0] rfl⟩
    · clear H e
      rintro T531 _ w530 (H : Cx w0 fp0 S0 w530 [Es (List (Int × List (List Int))) blocks_ blocks_h, E (List (List Int)) r473 h5])
      refine boolE (z := false) geLen ?_
      refine sq ?_
      refine arK hk hmx356 ?_
      have hs := Option.some.inj hF474; subst hs; clear hF474
      exact ⟨(), ⟨rfl, rfl, rfl, rfl, trivial⟩, H.sel [0, 1] rfl⟩
  · clear H e
    rintro T535 _ w534 (H : Cx w0 fp0 S0 w534 [Es (List (Int × List (List Int))) blocks_ blocks_h, E (List (List Int)) r357 h5])
    refine boolE (z := false) geLen ?_
    refine sq ?_
    cases hF358
    exact ⟨_, _, rfl, ⟨h5, rfl, rfl⟩, (H.sel [1] rfl).close ⟨cloE, trivial⟩⟩

theorem impl_hankel_c (m_ : List (Int × List (List Int))) (m_h : Hd) (rows_ : Int) (cols_ : Int) (y : List (List Int)) (hF : F_impl_hankel m_ rows_ cols_ = some y) :
    ConF Tryd.prog 73 #[(m_h).v, (.int .i64 rows_), (.int .i64 cols_)] [Es (List (Int × List (List Int))) m_ m_h] [] (fun v Γ' => ∃ z0 : Hd, v = (z0).v ∧ Γ' = [E (List (List Int)) y z0]) := by
  intro w0 S0 fp0 hI hS
  have H : Cx w0 fp0 S0 w0 [Es (List (Int × List (List Int))) m_ m_h] := Cx.start hI hS
  clear hI hS
  refine enterC (args := [_, _, _]) gok Tryd.func73 rfl _ rfl rfl rfl ?_
  refine lit0 (α := List Int) gok rfl rfl H ?_; clear H; intro h3 w2 hx H
  clear hx
  refine sq ?_
  obtain ⟨a80, hn, hF81⟩ := bindS hF; clear hF
  obtain ⟨r83, e, hF84⟩ := bindS hF81; clear hF81
  refine loopS _ rows_.toNat (fun (k5 : Nat) (s77 : List (List Int)) (g78 : Hd) => [(0, (m_h).v), (2, (.int .i64 cols_)), (7, (g78).v), (10, (.int .i64 rows_)), (11, (.int .i64 ((k5 : Nat) : Int)))]) (fun _ (s77 : List (List Int)) (g78 : Hd) w' => Cx w0 fp0 S0 w' [Es (List (Int × List (List Int))) m_ m_h, E (List (List Int)) s77 g78]) ([] : List (List Int)) h3 e ⟨rfl, rfl, rfl, rfl, rfl, trivial⟩ (H.sel [1, 0] rfl) ?_ ?_
  · clear H e
    rintro T86 k5 s77 g78 w85 o87 hk (H : Cx w0 fp0 S0 w85 [Es (List (Int × List (List Int))) m_ m_h, E (List (List Int)) s77 g78]) hF88
    refine boolE (z := true) (ltNat hk) ?_
    refine sq ?_
    refine sq ?_
    refine heldX H [15, 16] (.fst 0 (.fst 1 (.fst 2 (.fst 3 (.fst 6 (.fst 7 (.fst 8 (.fst 9 (.fst 10 (.fst 11 (.fst 12 (.fst 13 (.fst 4 (.fst 5 (.act 14 (.act 15 (.act 16 .done))))))))))))))))) mixed [] trivial (by kernel_rfl) ?_; clear H; intro w89 H
    have hX : Ext w89 w89 := Upd.refl _ _
    have H0 := H
    obtain ⟨a96, e, hF97⟩ := bindS hF88; clear hF88
    have HH := H; clear H; obtain ⟨p94, m95, g98, c90, c91, c92, c93, H⟩ := HH.el (α := Int × List (List Int)) 0 rfl e; clear HH
    clear e
    obtain ⟨a96_0, a96_1⟩ := a96
    obtain ⟨_, h100⟩ := g98
    replace H := H.part (β := List (List Int)) a96_1 (h100 : Hd) 0 rfl (fun S h => (And.right h))
    replace H := H.sel [0, 2, 3] rfl
    refine idxE c90 c91 c92 ?_; clear c90 c91 c92
    refine anyH (fun _ => fld gok rfl rfl rfl rfl ⟨rfl, rfl⟩) ?_
    obtain ⟨a102, e, hF103⟩ := bindS hF97; clear hF97
    refine arO e ?_; clear e
    obtain ⟨a104, e, hF105⟩ := bindS hF103; clear hF103
    refine arO e ?_; clear e
    obtain ⟨a106, e, hF107⟩ := bindS hF105; clear hF105
    refine arO e ?_; clear e
    obtain ⟨a108, e, hF109⟩ := bindS hF107; clear hF107
    refine slSX (α := Int × List (List Int)) gok rfl rfl H 1 rfl e rfl rfl ?_; clear e; intro h110 HH; clear H; have H := HH; clear HH
    refine load1X (c93 1 _ rfl) ?_
    refine lenE (H.rs (α := List (List Int)) 1 rfl).len ?_
    obtain ⟨y112, e, hF113⟩ := bindS hF109; clear hF109
    have ey112 := e; clear e
    refine callFx (impl_beside_c ((a96_1.length : Nat) : Int) a108 h110 y112 ey112) H ⟨Vw.sh 0 rfl, trivial⟩ ?_; clear H ey112
    rintro _ _ w114 ⟨h115, rfl, rfl⟩ hx (H : Cx w0 fp0 S0 w114 [E (List (List Int)) y112 h115, Es (List (Int × List (List Int))) a108 h110, Es (List (List Int)) a96_1 h100, Es (List (Int × List (List Int))) m_ m_h, E (List (List Int)) s77 g78])
    replace hX := hX.trans0 hx; clear hx
    refine hold hX ?_
    obtain ⟨a117, e, hF118⟩ := bindS hF113; clear hF113
    replace H := H.sel [4, 0, 1, 2, 3] rfl
    refine append_ (α := List Int) gok rfl rfl rfl rfl H e ?_; clear e H; intro h120 w119 H
    refine hold trivial ?_
    refine hold trivial ?_
    refine arK hk (maxI hn) ?_
    have hs := Option.some.inj hF118; subst hs; clear hF118
    exact ⟨h120, ⟨rfl, rfl, rfl, rfl, rfl, trivial⟩, H.sel [3, 0] rfl⟩
  · clear H e
    rintro T123 g125 w122 (H : Cx w0 fp0 S0 w122 [Es (List (Int × List (List Int))) m_ m_h, E (List (List Int)) r83 g125])
    refine boolE (z := false) geNat ?_
    refine sq ?_
    cases hF84
    exact ⟨_, _, rfl, ⟨g125, rfl, rfl⟩, (H.sel [1] rfl).close ⟨cloE, trivial⟩⟩

theorem impl_clone_c (list_ : List Int) (list_h : Hd) (y : List Int) (hF : F_impl_clone list_ = some y) :
    ConF Tryd.prog 134 #[(list_h).v] [Es (List Int) list_ list_h] [] (fun v Γ' => ∃ z0 : Hd, v = (z0).v ∧ Γ' = [E (List Int) y z0]) := by
  intro w0 S0 fp0 hI hS
  have H : Cx w0 fp0 S0 w0 [Es (List Int) list_ list_h] := Cx.start hI hS
  clear hI hS
  refine enterC (args := [_]) gok Tryd.func134 rfl _ rfl rfl rfl ?_
  refine lit0 (α := Int) gok rfl rfl H ?_; clear H; intro h3 w2 hx H
  clear hx
  obtain ⟨a5, e, hF6⟩ := bindS hF; clear hF
  refine appendS (α := Int) gok rfl rfl rfl rfl H (Vw.sh 0 rfl) e ?_; clear e H; intro h8 w7 H
  cases hF6
  exact ⟨_, _, rfl, ⟨h8, rfl, rfl⟩, (H.sel [0] rfl).close ⟨cloE, trivial⟩⟩

theorem impl_clones_c (list_ : List (List Int)) (list_h : Hd) (y : List (List Int)) (hF : F_impl_clones list_ = some y) :
    ConF Tryd.prog 109 #[(list_h).v] [Es (List (List Int)) list_ list_h] [] (fun v Γ' => ∃ z0 : Hd, v = (z0).v ∧ Γ' = [E (List (List Int)) y z0]) := by
  intro w0 S0 fp0 hI hS
  have H : Cx w0 fp0 S0 w0 [Es (List (List Int)) list_ list_h] := Cx.start hI hS
  clear hI hS
  refine enterC (args := [_]) gok Tryd.func109 rfl _ rfl rfl rfl ?_
  refine lenE (H.rs (α := List (List Int)) 0 rfl).len ?_
  obtain ⟨a2, e, hF3⟩ := bindS hF; clear hF
  refine make_ (α := List Int) gok rfl rfl rfl rfl e H ?_; clear e H; intro h5 w4 hx H
  clear hx
  refine sq ?_
  refine lenE (H.rs (α := List (List Int)) 1 rfl).len ?_
  have hmx62 := (H.rs (α := List (List Int)) 1 rfl).max
  obtain ⟨r63, e, hF64⟩ := bindS hF3; clear hF3
  refine loopS _ list_.length (fun (k7 : Nat) (s59 : List (List Int)) (g60 : Hd) => [(3, (g60).v), (9, (list_h).v), (10, (.int .i64 ((list_.length : Nat) : Int))), (11, (.int .i64 ((k7 : Nat) : Int)))]) (fun _ (s59 : List (List Int)) (g60 : Hd) w' => Cx w0 fp0 S0 w' [E (List (List Int)) s59 g60, Es (List (List Int)) list_ list_h]) a2 h5 e ⟨rfl, rfl, rfl, rfl, trivial⟩ (H.sel [0, 1] rfl) ?_ ?_
  · clear H e
    rintro T66 k7 s59 g60 w65 o67 hk (H : Cx w0 fp0 S0 w65 [E (List (List Int)) s59 g60, Es (List (List Int)) list_ list_h]) hF68
    refine boolE (z := true) (ltLen hk) ?_
    refine sq ?_
    refine sq ?_
    obtain ⟨a75, e, hF76⟩ := bindS hF68; clear hF68
    have HH := H; clear H; obtain ⟨p73, m74, h77, c69, c70, c71, c72, H⟩ := HH.elL 1 rfl e; clear HH
    clear e
    refine idxE c69 c70 c71 ?_; clear c69 c70 c71
    refine load1 c72 ?_; clear c72
    obtain ⟨y79, e, hF80⟩ := bindS hF76; clear hF76
    have ey79 := e; clear e
    refine callF (impl_clone_c a75 h77 y79 ey79) (Γi := []) H ⟨Vw.sh 0 rfl, trivial⟩ ?_; clear H ey79
    rintro _ _ w81 ⟨h82, rfl, rfl⟩ (H : Cx w0 fp0 S0 w81 [E (List Int) y79 h82, Es (List Int) a75 h77, E (List (List Int)) s59 g60, Es (List (List Int)) list_ list_h])
    refine lit1 (α := List Int) (g := h82) gok rfl rfl rfl rfl rfl H ?_; clear H; intro h85 w84 hx H
    clear hx
    obtain ⟨a87, e, hF88⟩ := bindS hF80; clear hF80
    replace H := H.sel [2, 0, 1, 3] rfl
    refine append_ (α := List Int) gok rfl rfl rfl rfl H e ?_; clear e H; intro h90 w89 H
    refine arK hk hmx62 ?_
    have hs := Option.some.inj hF88; subst hs; clear hF88
    exact ⟨h90, ⟨rfl, rfl, rfl, rfl, trivial⟩, H.sel [0, 2] rfl⟩
  · clear H e
    rintro T93 g95 w92 (H : Cx w0 fp0 S0 w92 [E (List (List Int)) r63 g95, Es (List (List Int)) list_ list_h])
    refine boolE (z := false) geLen ?_
    refine sq ?_
    cases hF64
    exact ⟨_, _, rfl, ⟨g95, rfl, rfl⟩, (H.sel [0] rfl).close ⟨cloE, trivial⟩⟩

theorem impl_bit_c (yes_ : Bool) (y : Int) (hF : F_impl_bit yes_ = some y) :
    ConF Tryd.prog 161 #[(.bool yes_)] [] [] (fun v Γ' => v = (.int .i64 y) ∧ Γ' = []) := by
  intro w0 S0 fp0 hI hS
  have H : Cx w0 fp0 S0 w0 [] := Cx.start hI hS
  clear hI hS
  refine enterC (args := [_]) gok Tryd.func161 rfl _ rfl rfl rfl ?_
  refine sq ?_
  cases yes_
  · have hF1 := condF hF; clear hF
    cases hF1
    exact ⟨_, _, rfl, ⟨rfl, rfl⟩, (H.sel [] rfl).close trivial⟩
  · have hF2 := condT hF; clear hF
    cases hF2
    exact ⟨_, _, rfl, ⟨rfl, rfl⟩, (H.sel [] rfl).close trivial⟩

theorem impl_power_c (p_ : Int) (a_ : Int) (n_ : Int) (y : Int) (hF : F_impl_power p_ a_ n_ = some y) :
    ConF Tryd.prog 160 #[(.int .i64 p_), (.int .i64 a_), (.int .i64 n_)] [] [] (fun v Γ' => v = (.int .i64 y) ∧ Γ' = []) := by
  intro w0 S0 fp0 hI hS
  have H : Cx w0 fp0 S0 w0 [] := Cx.start hI hS
  clear hI hS
  refine enterC (args := [_, _, _]) gok Tryd.func160 rfl _ rfl rfl rfl ?_
  obtain ⟨a1, e, hF2⟩ := bindS hF; clear hF
  refine remO_ e ?_; clear e
  obtain ⟨r133, hF135, hF134⟩ := bindS hF2; clear hF2
  refine cut (fun (q136 : Int) => [(7, (.int .i64 q136))]) (fun (q136 : Int) w' => q136 = r133 ∧ Cx w0 fp0 S0 w' []) ?_ ?_
  · skip
    refine loopW _ (fun (s217 : Int × Int × Int) (_ : Unit) => [(0, (.int .i64 p_)), (1, (.int .i64 s217.1)), (2, (.int .i64 s217.2.1)), (7, (.int .i64 s217.2.2))]) (fun (s217 : Int × Int × Int) (_ : Unit) w' => Cx w0 fp0 S0 w' []) (a_, n_, a1) () hF135 ⟨rfl, rfl, rfl, rfl, trivial⟩ (H.sel [] rfl) ?_
    · clear H
      rintro T223 ⟨s217_0, s217_1, s217_2⟩ _ w222 o224 (H : Cx w0 fp0 S0 w222 []) hrt hF225
      refine sq ?_
      obtain ⟨a226, e, hF227⟩ := bindS hF225; clear hF225
      refine boolO e ?_; clear e
      cases a226
      · have hF228 := condF hF227; clear hF227
        have hs := Option.some.inj hF228; subst hs; clear hF228
        have hF229 : some _ = some _ := congrArg some (hrt _ rfl).symm
        exact ⟨s217_2, ⟨rfl, trivial⟩, Option.some.inj hF229, H.sel [] rfl⟩
      · have hF230 := condT hF227; clear hF227
        refine sq ?_
        obtain ⟨r243, hF245, hF244⟩ := bindS hF230; clear hF230
        refine cut (fun (q246 : Int) => [(0, (.int .i64 p_)), (1, (.int .i64 s217_0)), (2, (.int .i64 s217_1)), (7, (.int .i64 q246))]) (fun (q246 : Int) w' => q246 = r243 ∧ Cx w0 fp0 S0 w' []) ?_ ?_
        · skip
          obtain ⟨a247, e, hF248⟩ := bindS hF245; clear hF245
          refine remO_ e ?_; clear e
          obtain ⟨a249, e, hF250⟩ := bindS hF248; clear hF248
          refine boolO e ?_; clear e
          cases a249
          · have hF251 := condF hF250; clear hF250
            exact ⟨s217_2, ⟨rfl, rfl, rfl, rfl, trivial⟩, Option.some.inj hF251, H.sel [] rfl⟩
          · have hF252 := condT hF250; clear hF250
            obtain ⟨a253, e, hF254⟩ := bindS hF252; clear hF252
            refine arO e ?_; clear e
            obtain ⟨a255, e, hF256⟩ := bindS hF254; clear hF254
            refine remO_ e ?_; clear e
            exact ⟨a255, ⟨rfl, rfl, rfl, rfl, trivial⟩, Option.some.inj hF256, H.sel [] rfl⟩
        · clear hF245 H
          rintro T258 s241 w257 ⟨hr, (H : Cx w0 fp0 S0 w257 [])⟩
          subst hr
          obtain ⟨a259, e, hF260⟩ := bindS hF244; clear hF244
          refine arO e ?_; clear e
          obtain ⟨a261, e, hF262⟩ := bindS hF260; clear hF260
          refine remO_ e ?_; clear e
          obtain ⟨a263, e, hF264⟩ := bindS hF262; clear hF262
          refine quoO_ e ?_; clear e
          have hs := Option.some.inj hF264; subst hs; clear hF264
          exact ⟨(a261, a263, s241), (), rfl, ⟨rfl, rfl, rfl, rfl, trivial⟩, H.sel [] rfl⟩
  · clear hF135 H
    rintro T266 s131 w265 ⟨hr, (H : Cx w0 fp0 S0 w265 [])⟩
    subst hr
    cases hF134
    exact ⟨_, _, rfl, ⟨rfl, rfl⟩, (H.sel [] rfl).close trivial⟩

theorem impl_inverse_c (p_ : Int) (a_ : Int) (y : Int) (hF : F_impl_inverse p_ a_ = some y) :
    ConF Tryd.prog 157 #[(.int .i64 p_), (.int .i64 a_)] [] [] (fun v Γ' => v = (.int .i64 y) ∧ Γ' = []) := by
  intro w0 S0 fp0 hI hS
  have H : Cx w0 fp0 S0 w0 [] := Cx.start hI hS
  clear hI hS
  refine enterC (args := [_, _]) gok Tryd.func157 rfl _ rfl rfl rfl ?_
  obtain ⟨a1, e, hF2⟩ := bindS hF; clear hF
  refine arO e ?_; clear e
  obtain ⟨a3, e, hF4⟩ := bindS hF2; clear hF2
  refine boolO e ?_; clear e
  obtain ⟨y5, e, hF6⟩ := bindS hF4; clear hF4
  have ey5 := e; clear e
  refine callF (impl_bit_c a3 y5 ey5) (Γi := []) H trivial ?_; clear H ey5
  rintro _ _ w7 ⟨rfl, rfl⟩ (H : Cx w0 fp0 S0 w7 [])
  obtain ⟨a8, e, hF9⟩ := bindS hF6; clear hF6
  refine arO e ?_; clear e
  obtain ⟨y10, e, hF11⟩ := bindS hF9; clear hF9
  have ey10 := e; clear e
  refine callF (impl_power_c p_ a_ a8 y10 ey10) (Γi := []) H trivial ?_; clear H ey10
  rintro _ _ w12 ⟨rfl, rfl⟩ (H : Cx w0 fp0 S0 w12 [])
  cases hF11
  exact ⟨_, _, rfl, ⟨rfl, rfl⟩, (H.sel [] rfl).close trivial⟩

theorem impl_mod_c (p_ : Int) (a_ : Int) (y : Int) (hF : F_impl_mod p_ a_ = some y) :
    ConF Tryd.prog 143 #[(.int .i64 p_), (.int .i64 a_)] [] [] (fun v Γ' => v = (.int .i64 y) ∧ Γ' = []) := by
  intro w0 S0 fp0 hI hS
  have H : Cx w0 fp0 S0 w0 [] := Cx.start hI hS
  clear hI hS
  refine enterC (args := [_, _]) gok Tryd.func143 rfl _ rfl rfl rfl ?_
  obtain ⟨a1, e, hF2⟩ := bindS hF; clear hF
  refine remO_ e ?_; clear e
  refine sq ?_
  obtain ⟨a3, e, hF4⟩ := bindS hF2; clear hF2
  refine boolO e ?_; clear e
  cases a3
  · have hF5 := condF hF4; clear hF4
    cases hF5
    exact ⟨_, _, rfl, ⟨rfl, rfl⟩, (H.sel [] rfl).close trivial⟩
  · have hF6 := condT hF4; clear hF4
    obtain ⟨a7, e, hF8⟩ := bindS hF6; clear hF6
    refine arO e ?_; clear e
    cases hF8
    exact ⟨_, _, rfl, ⟨rfl, rfl⟩, (H.sel [] rfl).close trivial⟩

theorem impl_addTimes_c (p_ : Int) (v_ : List Int) (v_h : Hd) (by_ : Int) (w_ : List Int) (w_h : Hd) (y : List Int) (hF : F_impl_addTimes p_ v_ by_ w_ = some y) :
    ConF Tryd.prog 135 #[(.int .i64 p_), (v_h).v, (.int .i64 by_), (w_h).v] [Es (List Int) w_ w_h] [E (List Int) v_ v_h] (fun v Γ' => v = (.tuple #[]) ∧ Γ' = [E (List Int) y v_h]) := by
  intro w0 S0 fp0 hI hS
  have H : Cx w0 fp0 S0 w0 [Es (List Int) w_ w_h, E (List Int) v_ v_h] := Cx.start hI hS
  clear hI hS
  refine enterC (args := [_, _, _, _]) gok Tryd.func135 rfl _ rfl rfl rfl ?_
  refine lenE (H.rs (α := List Int) 0 rfl).len ?_
  have hmx74 := (H.rs (α := List Int) 0 rfl).max
  obtain ⟨r75, e, hF76⟩ := bindS hF; clear hF
  refine loopS _ w_.length (fun (k3 : Nat) (s72 : List Int) (_ : Unit) => [(0, (.int .i64 p_)), (1, (v_h).v), (2, (.int .i64 by_)), (10, (w_h).v), (11, (.int .i64 ((w_.length : Nat) : Int))), (12, (.int .i64 ((k3 : Nat) : Int)))]) (fun _ (s72 : List Int) (_ : Unit) w' => Cx w0 fp0 S0 w' [E (List Int) s72 v_h, Es (List Int) w_ w_h]) v_ () e ⟨rfl, rfl, rfl, rfl, rfl, rfl, trivial⟩ (H.sel [1, 0] rfl) ?_ ?_
  · clear H e
    rintro T78 k3 s72 _ w77 o79 hk (H : Cx w0 fp0 S0 w77 [E (List Int) s72 v_h, Es (List Int) w_ w_h]) hF80
    refine boolE (z := true) (ltLen hk) ?_
    refine sq ?_
    refine sq ?_
    obtain ⟨a87, e, hF88⟩ := bindS hF80; clear hF80
    obtain ⟨p85, m86, c81, c82, c83, c84⟩ := (H.rs (α := List Int) 1 rfl).at1 e; clear e
    refine idxE c81 c82 c83 ?_; clear c81 c82 c83
    refine load1 c84 ?_; clear c84
    obtain ⟨a95, e, hF96⟩ := bindS hF88; clear hF88
    obtain ⟨p93, m94, c89, c90, c91, c92⟩ := (H.ro (α := List Int) 0 rfl).at1 e; clear e
    refine idxE c89 c90 c91 ?_; clear c89 c90 c91
    refine load1 c92 ?_; clear c92
    obtain ⟨a97, e, hF98⟩ := bindS hF96; clear hF96
    refine arO e ?_; clear e
    obtain ⟨a99, e, hF100⟩ := bindS hF98; clear hF98
    refine arO e ?_; clear e
    obtain ⟨y101, e, hF102⟩ := bindS hF100; clear hF100
    have ey101 := e; clear e
    refine callF (impl_mod_c p_ a99 y101 ey101) (Γi := []) H trivial ?_; clear H ey101
    rintro _ _ w103 ⟨rfl, rfl⟩ (H : Cx w0 fp0 S0 w103 [E (List Int) s72 v_h, Es (List Int) w_ w_h])
    obtain ⟨a110, e, hF111⟩ := bindS hF102; clear hF102
    have ea110 := e; clear e
    obtain ⟨p108, m109, c104, c105, c106⟩ := (H.ro (α := List Int) 0 rfl).setp ea110
    refine idxE c104 c105 c106 ?_
    refine setS (α := Int) H c104 c105 ea110 ?_; clear H c104 c105 c106 ea110; intro w112 H
    refine arK hk hmx74 ?_
    have hs := Option.some.inj hF111; subst hs; clear hF111
    exact ⟨(), ⟨rfl, rfl, rfl, rfl, rfl, rfl, trivial⟩, H.sel [0, 1] rfl⟩
  · clear H e
    rintro T114 _ w113 (H : Cx w0 fp0 S0 w113 [E (List Int) r75 v_h, Es (List Int) w_ w_h])
    refine boolE (z := false) geLen ?_
    refine sq ?_
    cases hF76
    exact ⟨_, _, rfl, ⟨rfl, rfl⟩, (H.sel [0] rfl).close ⟨cloE, trivial⟩⟩

theorem impl_rowOperation_apply_c (o__0 : Int) (o__1 : Int) (o__2 : Int) (o__3 : Int) (p_ : Int) (rows_ : List (List Int)) (rows_h : Hd) (y : List (List Int)) (hF : F_impl_rowOperation_apply (o__0, o__1, o__2, o__3) p_ rows_ = some y) :
    ConF Tryd.prog 148 #[(.agg #[(.int .i64 o__0), (.int .i64 o__1), (.int .i64 o__2), (.int .i64 o__3)]), (.int .i64 p_), (rows_h).v] [] [E (List (List Int)) rows_ rows_h] (fun v Γ' => v = (.tuple #[]) ∧ Γ' = [E (List (List Int)) y rows_h]) := by
  intro w0 S0 fp0 hI hS
  have H : Cx w0 fp0 S0 w0 [E (List (List Int)) rows_ rows_h] := Cx.start hI hS
  clear hI hS
  refine enterC (args := [_, _, _]) gok Tryd.func148 rfl _ rfl rfl rfl ?_
  refine box_ H ?_; clear H; intro b3 w2 hx H
  clear hx
  replace H : Cx w0 fp0 S0 w2 [Bx b3 [(.int .i64 o__0), (.int .i64 o__1), (.int .i64 o__2), (.int .i64 o__3)], E (List (List Int)) rows_ rows_h] := H
  refine fld gok rfl rfl rfl rfl ?_
  refine load1 (H.bx 0 rfl (j := 0) rfl) ?_
  obtain ⟨a5, e, hF6⟩ := bindS hF; clear hF
  refine boolO e ?_; clear e
  cases a5
  · have hF7 := condF hF6; clear hF6
    obtain ⟨a8, e, hF9⟩ := bindS hF7; clear hF7
    refine boolO e ?_; clear e
    cases a8
    · have hF10 := condF hF9; clear hF9
      obtain ⟨a11, e, hF12⟩ := bindS hF10; clear hF10
      refine boolO e ?_; clear e
      cases a11
      · have hF13 := condF hF12; clear hF12
        cases hF13
        exact ⟨_, _, rfl, ⟨rfl, rfl⟩, (H.sel [1] rfl).close ⟨cloE, trivial⟩⟩
      · have hF14 := condT hF12; clear hF12
        refine heldX H [14] (.fst 0 (.fst 1 (.fst 2 (.fst 6 (.fst 9 (.fst 10 (.fst 3 (.fst 4 (.fst 5 (.fst 7 (.fst 8 (.fst 11 (.fst 12 (.fst 13 (.act 14 .done))))))))))))))) mixed [] trivial (by kernel_rfl) ?_; clear H; intro w15 H
        have hX : Ext w15 w15 := Upd.refl _ _
        have H0 := H
        refine anyH (fun _ => fld gok rfl rfl rfl rfl ⟨rfl, rfl⟩) ?_
        refine anyH (fun _ => fld gok rfl rfl rfl rfl ⟨rfl, rfl⟩) ?_
        refine anyH (fun _ => fld gok rfl rfl rfl rfl ⟨rfl, rfl⟩) ?_
        refine load1X (H.bx 0 rfl (j := 1) rfl) ?_
        obtain ⟨a22, e, hF23⟩ := bindS hF14; clear hF14
        replace H := H.sel [1, 0] rfl
        replace H := H.toEH (α := List Int)
        have HH := H; clear H; obtain ⟨p20, m21, h24, c16, c17, c18, c19, H⟩ := HH.peekL e; clear HH
        clear e
        refine idxE c16 c17 c18 ?_
        refine load1X c19 ?_; clear c19
        refine load1X (H.bx 1 rfl (j := 3) rfl) ?_
        obtain ⟨a25, e, hF26⟩ := bindS hF23; clear hF23
        refine arO e ?_; clear e
        refine load1X (H.bx 1 rfl (j := 2) rfl) ?_
        obtain ⟨a33, e, hF34⟩ := bindS hF26; clear hF26
        have HH := H; clear H; obtain ⟨p31, m32, h35, c27, c28, c29, c30, H⟩ := HH.peekL e; clear HH
        clear e
        refine idxE c27 c28 c29 ?_
        refine load1X c30 ?_; clear c30
        obtain ⟨y36, e, hF37⟩ := bindS hF34; clear hF34
        have ey36 := e; clear e
        have kn38 := H.kn 0 rfl 0 rfl
        obtain ⟨u41, en40, hF42⟩ := bindS hF37; clear hF37
        have hm39 : m32 ≠ m21 := fun q => neqO_some en40 (by omega)
        replace H := H.takeK 1 rfl
        refine callF (impl_addTimes_c p_ a22 h24 a25 a33 h35 y36 ey36) (Γi := [E (List Int) a22 h24]) H ⟨Vw.ex (α := List Int) (k := ⟨m32, a33, h35⟩) 0 rfl kn38 hm39, trivial⟩ ?_; clear H ey36
        rintro _ _ w44 ⟨rfl, rfl⟩ (H : Cx w0 fp0 S0 w44 [E (List Int) y36 h24, EX (List Int) m21 [(h24).v] rows_ rows_h, Bx b3 [(.int .i64 o__0), (.int .i64 o__1), (.int .i64 o__2), (.int .i64 o__3)]])
        obtain ⟨a45, e, hF46⟩ := bindS hF42; clear hF42
        replace H := H.put c17 e; clear e
        refine hold trivial ?_
        cases hF46
        exact ⟨_, _, rfl, ⟨rfl, rfl⟩, (H.sel [0] rfl).close ⟨cloE, trivial⟩⟩
    · have hF47 := condT hF9; clear hF9
      refine fld gok rfl rfl rfl rfl ?_
      refine load1 (H.bx 0 rfl (j := 3) rfl) ?_
      obtain ⟨y48, e, hF49⟩ := bindS hF47; clear hF47
      have ey48 := e; clear e
      refine callF (impl_inverse_c p_ o__3 y48 ey48) (Γi := []) H trivial ?_; clear H ey48
      rintro _ _ w50 ⟨rfl, rfl⟩ (H : Cx w0 fp0 S0 w50 [Bx b3 [(.int .i64 o__0), (.int .i64 o__1), (.int .i64 o__2), (.int .i64 o__3)], E (List (List Int)) rows_ rows_h])
      refine fld gok rfl rfl rfl rfl ?_
      refine load1 (H.bx 0 rfl (j := 1) rfl) ?_
      obtain ⟨a57, e, hF58⟩ := bindS hF49; clear hF49
      replace H := H.sel [1, 0] rfl
      have HH := H; clear H; obtain ⟨p55, m56, h59, c51, c52, c53, H⟩ := HH.take e; clear HH
      clear e
      have c54 := H.hx0 1 rfl c51 rfl
      refine idxE c51 c52 c53 ?_
      refine load1 c54 ?_; clear c54
      refine lenE (H.ro (α := List Int) 0 rfl).len ?_
      have hmx124 := (H.ro (α := List Int) 0 rfl).max
      obtain ⟨r125, e, hF126⟩ := bindS hF58; clear hF58
      refine loopS _ a57.length (fun (k61 : Nat) (s122 : List Int) (_ : Unit) => [(1, (.int .i64 p_)), (2, (rows_h).v), (3, (.pointer (some ⟨b3, 0, none⟩))), (6, (.int .i64 y48)), (41, (h59).v), (42, (.int .i64 ((a57.length : Nat) : Int))), (43, (.int .i64 ((k61 : Nat) : Int)))]) (fun _ (s122 : List Int) (_ : Unit) w' => Cx w0 fp0 S0 w' [EX (List Int) m56 [(h59).v] rows_ rows_h, Bx b3 [(.int .i64 o__0), (.int .i64 o__1), (.int .i64 o__2), (.int .i64 o__3)], E (List Int) s122 h59]) a57 () e ⟨rfl, rfl, rfl, rfl, rfl, rfl, rfl, trivial⟩ (H.sel [1, 2, 0] rfl) ?_ ?_
      · clear H e
        rintro T128 k61 s122 _ w127 o129 hk (H : Cx w0 fp0 S0 w127 [EX (List Int) m56 [(h59).v] rows_ rows_h, Bx b3 [(.int .i64 o__0), (.int .i64 o__1), (.int .i64 o__2), (.int .i64 o__3)], E (List Int) s122 h59]) hF130
        refine boolE (z := true) (ltLen hk) ?_
        refine sq ?_
        refine sq ?_
        obtain ⟨a137, e, hF138⟩ := bindS hF130; clear hF130
        obtain ⟨p135, m136, c131, c132, c133, c134⟩ := (H.ro (α := List Int) 2 rfl).at1 e; clear e
        refine idxE c131 c132 c133 ?_; clear c131 c132 c133
        refine load1 c134 ?_; clear c134
        refine heldX H [12] (.fst 0 (.fst 1 (.fst 5 (.fst 6 (.fst 7 (.fst 8 (.fst 9 (.fst 10 (.fst 2 (.fst 3 (.fst 4 (.fst 11 (.act 12 .done))))))))))))) mixed [] trivial (by kernel_rfl) ?_; clear H; intro w139 H
        have hX : Ext w139 w139 := Upd.refl _ _
        have H0 := H
        refine anyH (fun _ => fld gok rfl rfl rfl rfl ⟨rfl, rfl⟩) ?_
        obtain ⟨a140, e, hF141⟩ := bindS hF138; clear hF138
        refine arO e ?_; clear e
        obtain ⟨a142, e, hF143⟩ := bindS hF141; clear hF141
        refine remO_ e ?_; clear e
        refine load1X (H.bx 1 rfl (j := 1) rfl) ?_
        have c147 := H.hx0 0 rfl c51 rfl
        refine idxE c51 c52 c53 ?_
        refine load1X c147 ?_; clear c147
        obtain ⟨a156, e, hF157⟩ := bindS hF143; clear hF143
        have ea156 := e; clear e
        obtain ⟨p154, m155, c150, c151, c152⟩ := (H.ro (α := List Int) 2 rfl).setp ea156
        refine idxE c150 c151 c152 ?_
        replace H := H.sel [2, 0, 1] rfl
        refine setS (α := Int) H c150 c151 ea156 ?_; clear H c150 c151 c152 ea156; intro w158 H
        refine hold trivial ?_
        refine arK hk hmx124 ?_
        have hs := Option.some.inj hF157; subst hs; clear hF157
        exact ⟨(), ⟨rfl, rfl, rfl, rfl, rfl, rfl, rfl, trivial⟩, H.sel [1, 2, 0] rfl⟩
      · clear H e
        rintro T160 _ w159 (H : Cx w0 fp0 S0 w159 [EX (List Int) m56 [(h59).v] rows_ rows_h, Bx b3 [(.int .i64 o__0), (.int .i64 o__1), (.int .i64 o__2), (.int .i64 o__3)], E (List Int) r125 h59])
        refine boolE (z := false) geLen ?_
        refine sq ?_
        obtain ⟨a163, e, hF164⟩ := bindS hF126; clear hF126
        replace H := H.sel [2, 0, 1] rfl
        replace H := H.put c52 e; clear e
        cases hF164
        exact ⟨_, _, rfl, ⟨rfl, rfl⟩, (H.sel [0] rfl).close ⟨cloE, trivial⟩⟩
  · have hF165 := condT hF6; clear hF6
    refine heldX H [17, 19, 18, 3, 4, 5] (.pure 3 (.pure 4 (.pure 5 (.fst 0 (.fst 1 (.fst 6 (.fst 7 (.fst 11 (.fst 12 (.fst 2 (.fst 8 (.fst 9 (.fst 10 (.fst 13 (.fst 14 (.fst 15 (.fst 16 (.act 17 (.act 18 (.act 19 .done)))))))))))))))))))) mixed [((Addr.add ⟨b3, 0, none⟩ 2), (.int .i64 o__2))] ⟨H.bx 0 rfl (j := 2) rfl, trivial⟩ (by kernel_rfl) ?_; clear H; intro w166 H
    have hX : Ext w166 w166 := Upd.refl _ _
    have H0 := H
    refine anyH (fun _ => fld gok rfl rfl rfl rfl ⟨rfl, rfl⟩) ?_
    refine load1W 0 rfl ?_
    refine anyH (fun _ => fld gok rfl rfl rfl rfl ⟨rfl, rfl⟩) ?_
    refine anyH (fun _ => fld gok rfl rfl rfl rfl ⟨rfl, rfl⟩) ?_
    refine anyH (fun _ => fld gok rfl rfl rfl rfl ⟨rfl, rfl⟩) ?_
    refine load1X (H.bx 0 rfl (j := 1) rfl) ?_
    refine load1X (H.bx 0 rfl (j := 2) rfl) ?_
    obtain ⟨a173, e, hF174⟩ := bindS hF165; clear hF165
    replace H := H.sel [1, 0] rfl
    replace H := H.toEH (α := List Int)
    have HH := H; clear H; obtain ⟨p171, m172, h175, c167, c168, c169, c170, H⟩ := HH.peekL e; clear HH
    clear e
    refine idxE c167 c168 c169 ?_
    refine load1X c170 ?_; clear c170
    refine load1X (H.bx 1 rfl (j := 1) rfl) ?_
    obtain ⟨a182, e, hF183⟩ := bindS hF174; clear hF174
    have HH := H; clear H; obtain ⟨p180, m181, h184, c176, c177, c178, c179, H⟩ := HH.peekL e; clear HH
    clear e
    refine idxE c176 c177 c178 ?_
    refine load1X c179 ?_; clear c179
    refine idxE c176 c177 c178 ?_
    refine stZ1 (ki := 0) (kj := 1) H rfl rfl c176 ?_; clear H; intro w191 H
    replace H : Cx w0 fp0 S0 w191 [EZ (List Int) m181 m172 a182 a173 h184 h175 rows_ rows_h, Bx b3 [(.int .i64 o__0), (.int .i64 o__1), (.int .i64 o__2), (.int .i64 o__3)]] := H
    refine hold ⟨H.bx 1 rfl (j := 2) rfl, trivial⟩ ?_
    refine idxE c167 c168 c169 ?_
    refine hold ⟨H.bx 1 rfl (j := 2) rfl, trivial⟩ ?_
    obtain ⟨a199, e, hF200⟩ := bindS hF183; clear hF183
    refine stZ2 H c177 c168 c167 e ?_; clear H e; intro w198 H
    refine hold ⟨H.bx 1 rfl (j := 2) rfl, trivial⟩ ?_
    cases hF200
    exact ⟨_, _, rfl, ⟨rfl, rfl⟩, (H.sel [0] rfl).close ⟨cloE, trivial⟩⟩

theorem impl_reduction_1_c (o__0 : Int) (o__1 : Int) (o__2 : Int) (o__3 : Int) (c0_b : Nat) (c0_ : Int) (c1_b : Nat) (c1_ : List (List Int)) (c1_h : Hd) (c2_b : Nat) (c2_ : List (List Int)) (c2_h : Hd) (y0 : List (List Int)) (y1 : List (List Int)) (hF : F_impl_reduction_1 (o__0, o__1, o__2, o__3) c0_ c1_ c2_ = some (y0, y1)) :
    ConF Tryd.prog 147 #[(.agg #[(.int .i64 o__0), (.int .i64 o__1), (.int .i64 o__2), (.int .i64 o__3)]), (.pointer (some ⟨c0_b, 0, none⟩)), (.pointer (some ⟨c1_b, 0, none⟩)), (.pointer (some ⟨c2_b, 0, none⟩))] [] [Bx c0_b [(.int .i64 c0_)], Bx c1_b [(c1_h).v], E (List (List Int)) c1_ c1_h, Bx c2_b [(c2_h).v], E (List (List Int)) c2_ c2_h] (fun v Γ' => v = (.tuple #[]) ∧ Γ' = [Bx c0_b [(.int .i64 c0_)], Bx c1_b [(c1_h).v], E (List (List Int)) y0 c1_h, Bx c2_b [(c2_h).v], E (List (List Int)) y1 c2_h]) := by
  intro w0 S0 fp0 hI hS
  have H : Cx w0 fp0 S0 w0 [Bx c0_b [(.int .i64 c0_)], Bx c1_b [(c1_h).v], E (List (List Int)) c1_ c1_h, Bx c2_b [(c2_h).v], E (List (List Int)) c2_ c2_h] := Cx.start hI hS
  clear hI hS
  refine enterC (args := [_, _, _, _]) gok Tryd.func147 rfl _ rfl rfl rfl ?_
  refine box_ H ?_; clear H; intro b7 w6 hx H
  clear hx
  replace H : Cx w0 fp0 S0 w6 [Bx b7 [(.int .i64 o__0), (.int .i64 o__1), (.int .i64 o__2), (.int .i64 o__3)], Bx c0_b [(.int .i64 c0_)], Bx c1_b [(c1_h).v], E (List (List Int)) c1_ c1_h, Bx c2_b [(c2_h).v], E (List (List Int)) c2_ c2_h] := H
  refine sq ?_
  refine loadN [(.int .i64 o__0), (.int .i64 o__1), (.int .i64 o__2), (.int .i64 o__3)] rfl (fun j u hj => H.bx 0 rfl hj) ?_
  refine fld gok rfl rfl rfl rfl ?_
  refine load1 (H.bx 0 rfl (j := 1) rfl) ?_
  refine fld gok rfl rfl rfl rfl ?_
  refine load1 (H.bx 0 rfl (j := 1) rfl) ?_
  refine build_ (cs := #[(.int .i64 0), (.int .i64 o__1), (.int .i64 o__1), (.int .i64 0)]) gok rfl rfl rfl ?_
  obtain ⟨a9, e, hF10⟩ := bindS hF; clear hF
  refine eqA gok rfl Tryd.underlying140 (by kernel_rfl) (by kernel_rfl) (by kernel_rfl) (by refine ⟨rfl, ⟨_, _, rfl⟩, rfl, ⟨_, _, rfl⟩, rfl, ⟨_, _, rfl⟩, rfl, ⟨_, _, rfl⟩, trivial⟩) (ls := [o__0, o__1, o__2, o__3]) (bs := [0, o__1, o__1, 0]) rfl rfl rfl rfl e ?_; clear e
  cases a9
  · have hF11 := condF hF10; clear hF10
    refine loadN [(.int .i64 o__0), (.int .i64 o__1), (.int .i64 o__2), (.int .i64 o__3)] rfl (fun j u hj => H.bx 0 rfl hj) ?_
    refine load1 (H.bx0 1 rfl) ?_
    refine load1 (H.bx0 2 rfl) ?_
    obtain ⟨y12, e, hF13⟩ := bindS hF11; clear hF11
    have ey12 := e; clear e
    replace H := H.sel [3, 0, 1, 2, 4, 5] rfl
    refine callF (impl_rowOperation_apply_c o__0 o__1 o__2 o__3 c0_ c1_ c1_h y12 ey12) (Γi := [E (List (List Int)) c1_ c1_h]) H trivial ?_; clear H ey12
    rintro _ _ w14 ⟨rfl, rfl⟩ (H : Cx w0 fp0 S0 w14 [E (List (List Int)) y12 c1_h, Bx b7 [(.int .i64 o__0), (.int .i64 o__1), (.int .i64 o__2), (.int .i64 o__3)], Bx c0_b [(.int .i64 c0_)], Bx c1_b [(c1_h).v], Bx c2_b [(c2_h).v], E (List (List Int)) c2_ c2_h])
    refine loadN [(.int .i64 o__0), (.int .i64 o__1), (.int .i64 o__2), (.int .i64 o__3)] rfl (fun j u hj => H.bx 1 rfl hj) ?_
    refine load1 (H.bx0 2 rfl) ?_
    refine load1 (H.bx0 4 rfl) ?_
    obtain ⟨y15, e, hF16⟩ := bindS hF13; clear hF13
    have ey15 := e; clear e
    replace H := H.sel [5, 0, 1, 2, 3, 4] rfl
    refine callF (impl_rowOperation_apply_c o__0 o__1 o__2 o__3 c0_ c2_ c2_h y15 ey15) (Γi := [E (List (List Int)) c2_ c2_h]) H trivial ?_; clear H ey15
    rintro _ _ w17 ⟨rfl, rfl⟩ (H : Cx w0 fp0 S0 w17 [E (List (List Int)) y15 c2_h, E (List (List Int)) y12 c1_h, Bx b7 [(.int .i64 o__0), (.int .i64 o__1), (.int .i64 o__2), (.int .i64 o__3)], Bx c0_b [(.int .i64 c0_)], Bx c1_b [(c1_h).v], Bx c2_b [(c2_h).v]])
    cases hF16
    exact ⟨_, _, rfl, ⟨rfl, rfl⟩, (H.sel [3, 4, 1, 5, 0] rfl).close ⟨cloB, cloB, cloE, cloB, cloE, trivial⟩⟩
  · have hF18 := condT hF10; clear hF10
    cases hF18
    exact ⟨_, _, rfl, ⟨rfl, rfl⟩, (H.sel [1, 2, 3, 4, 5] rfl).close ⟨cloB, cloB, cloE, cloB, cloE, trivial⟩⟩

theorem impl_reduction_c (p_ : Int) (rows_ : List (List Int)) (rows_h : Hd) (n_ : Int) (also_ : List (List Int)) (also_h : Hd) (y0 : List (List Int)) (y1 : List (List Int)) (y2 : Int) (hF : F_impl_reduction p_ rows_ n_ also_ = some (y0, y1, y2)) :
    ConF Tryd.prog 111 #[(.int .i64 p_), (rows_h).v, (.int .i64 n_), (also_h).v] [] [E (List (List Int)) rows_ rows_h, E (List (List Int)) also_ also_h] (fun v Γ' => v = (.int .i64 y2) ∧ Γ' = [E (List (List Int)) y0 rows_h, E (List (List Int)) y1 also_h]) := by
  intro w0 S0 fp0 hI hS
  have H : Cx w0 fp0 S0 w0 [E (List (List Int)) rows_ rows_h, E (List (List Int)) also_ also_h] := Cx.start hI hS
  clear hI hS
  refine enterC (args := [_, _, _, _]) gok Tryd.func111 rfl _ rfl rfl rfl ?_
  refine box_ H ?_; clear H; intro b4 w3 hx H
  clear hx
  replace H : Cx w0 fp0 S0 w3 [Bx b4 [(.int .i64 p_)], E (List (List Int)) rows_ rows_h, E (List (List Int)) also_ also_h] := H
  refine box_ H ?_; clear H; intro b7 w6 hx H
  clear hx
  replace H : Cx w0 fp0 S0 w6 [Bx b7 [(rows_h).v], Bx b4 [(.int .i64 p_)], E (List (List Int)) rows_ rows_h, E (List (List Int)) also_ also_h] := H
  refine box_ H ?_; clear H; intro b10 w9 hx H
  clear hx
  replace H : Cx w0 fp0 S0 w9 [Bx b10 [(also_h).v], Bx b7 [(rows_h).v], Bx b4 [(.int .i64 p_)], E (List (List Int)) rows_ rows_h, E (List (List Int)) also_ also_h] := H
  obtain ⟨r4078, hF4080, hF4079⟩ := bindS hF; clear hF
  refine cut (fun (q4081 : List (List Int) × List (List Int) × Int) => [(9, (.int .i64 q4081.2.2))]) (fun (q4081 : List (List Int) × List (List Int) × Int) w' => (q4081.1, q4081.2.1, q4081.2.2) = r4078 ∧ Cx w0 fp0 S0 w' [E (List (List Int)) q4081.1 rows_h, E (List (List Int)) q4081.2.1 also_h]) ?_ ?_
  · skip
    refine loopW _ (fun (s6786 : List (List Int) × List (List Int) × Int × Int) (_ : Unit) => [(2, (.int .i64 n_)), (5, (.pointer (some ⟨b7, 0, none⟩))), (9, (.int .i64 s6786.2.2.2)), (10, (.func (.func 147) #[] #[(.pointer (some ⟨b4, 0, none⟩)), (.pointer (some ⟨b7, 0, none⟩)), (.pointer (some ⟨b10, 0, none⟩))])), (11, (.int .i64 s6786.2.2.1))]) (fun (s6786 : List (List Int) × List (List Int) × Int × Int) (_ : Unit) w' => Cx w0 fp0 S0 w' [Bx b7 [(rows_h).v], E (List (List Int)) s6786.1 rows_h, Bx b4 [(.int .i64 p_)], Bx b10 [(also_h).v], E (List (List Int)) s6786.2.1 also_h]) (rows_, also_, 0, 0) () hF4080 ⟨rfl, rfl, rfl, rfl, rfl, trivial⟩ (H.sel [1, 3, 2, 0, 4] rfl) ?_
    · clear H
      rintro T6792 ⟨s6786_0, s6786_1, s6786_2, s6786_3⟩ _ w6791 o6793 (H : Cx w0 fp0 S0 w6791 [Bx b7 [(rows_h).v], E (List (List Int)) s6786_0 rows_h, Bx b4 [(.int .i64 p_)], Bx b10 [(also_h).v], E (List (List Int)) s6786_1 also_h]) hrt hF6794
      refine sq ?_
      obtain ⟨r6803, hF6805, hF6804⟩ := bindS hF6794; clear hF6794
      refine cut (fun (q6806 : Bool) => [(2, (.int .i64 n_)), (5, (.pointer (some ⟨b7, 0, none⟩))), (9, (.int .i64 s6786_3)), (10, (.func (.func 147) #[] #[(.pointer (some ⟨b4, 0, none⟩)), (.pointer (some ⟨b7, 0, none⟩)), (.pointer (some ⟨b10, 0, none⟩))])), (11, (.int .i64 s6786_2)), (23, (.bool q6806))]) (fun (q6806 : Bool) w' => q6806 = r6803 ∧ Cx w0 fp0 S0 w' [Bx b7 [(rows_h).v], E (List (List Int)) s6786_0 rows_h, Bx b4 [(.int .i64 p_)], Bx b10 [(also_h).v], E (List (List Int)) s6786_1 also_h]) ?_ ?_
      · skip
        obtain ⟨a6807, e, hF6808⟩ := bindS hF6805; clear hF6805
        refine boolO e ?_; clear e
        cases a6807
        · have hF6809 := condF hF6808; clear hF6808
          exact ⟨false, ⟨rfl, rfl, rfl, rfl, rfl, rfl, trivial⟩, Option.some.inj hF6809, H.sel [0, 1, 2, 3, 4] rfl⟩
        · have hF6810 := condT hF6808; clear hF6808
          refine load1 (H.bx0 0 rfl) ?_
          refine lenE (H.ro (α := List (List Int)) 1 rfl).len ?_
          obtain ⟨a6811, e, hF6812⟩ := bindS hF6810; clear hF6810
          refine boolO e ?_; clear e
          exact ⟨a6811, ⟨rfl, rfl, rfl, rfl, rfl, rfl, trivial⟩, Option.some.inj hF6812, H.sel [0, 1, 2, 3, 4] rfl⟩
      · clear hF6805 H
        rintro T6814 s6801 w6813 ⟨hr, (H : Cx w0 fp0 S0 w6813 [Bx b7 [(rows_h).v], E (List (List Int)) s6786_0 rows_h, Bx b4 [(.int .i64 p_)], Bx b10 [(also_h).v], E (List (List Int)) s6786_1 also_h])⟩
        subst hr
        cases s6801
        · have hF6815 := condF hF6804; clear hF6804
          have hs := Option.some.inj hF6815; subst hs; clear hF6815
          have hF6816 : some _ = some _ := congrArg some (hrt _ rfl).symm
          exact ⟨(s6786_0, s6786_1, s6786_3), ⟨rfl, trivial⟩, Option.some.inj hF6816, H.sel [1, 4] rfl⟩
        · have hF6817 := condT hF6804; clear hF6804
          obtain ⟨r7479, hF7481, hF7480⟩ := bindS hF6817; clear hF6817
          refine cut (fun (q7482 : List (List Int) × List (List Int) × Int) => [(2, (.int .i64 n_)), (5, (.pointer (some ⟨b7, 0, none⟩))), (9, (.int .i64 q7482.2.2)), (10, (.func (.func 147) #[] #[(.pointer (some ⟨b4, 0, none⟩)), (.pointer (some ⟨b7, 0, none⟩)), (.pointer (some ⟨b10, 0, none⟩))])), (11, (.int .i64 s6786_2))]) (fun (q7482 : List (List Int) × List (List Int) × Int) w' => (q7482.1, q7482.2.1, q7482.2.2) = r7479 ∧ Cx w0 fp0 S0 w' [Bx b7 [(rows_h).v], E (List (List Int)) q7482.1 rows_h, Bx b4 [(.int .i64 p_)], Bx b10 [(also_h).v], E (List (List Int)) q7482.2.1 also_h]) ?_ ?_
          · skip
            obtain ⟨r7673, hF7675, hF7674⟩ := bindS hF7481; clear hF7481
            refine cut (fun (q7676 : Int) => [(2, (.int .i64 n_)), (5, (.pointer (some ⟨b7, 0, none⟩))), (9, (.int .i64 s6786_3)), (10, (.func (.func 147) #[] #[(.pointer (some ⟨b4, 0, none⟩)), (.pointer (some ⟨b7, 0, none⟩)), (.pointer (some ⟨b10, 0, none⟩))])), (11, (.int .i64 s6786_2)), (12, (.int .i64 q7676))]) (fun (q7676 : Int) w' => q7676 = r7673 ∧ Cx w0 fp0 S0 w' [Bx b7 [(rows_h).v], E (List (List Int)) s6786_0 rows_h, Bx b4 [(.int .i64 p_)], Bx b10 [(also_h).v], E (List (List Int)) s6786_1 also_h]) ?_ ?_
            · skip
              refine loopW _ (fun (s7797 : Int) (_ : Unit) => [(2, (.int .i64 n_)), (5, (.pointer (some ⟨b7, 0, none⟩))), (9, (.int .i64 s6786_3)), (10, (.func (.func 147) #[] #[(.pointer (some ⟨b4, 0, none⟩)), (.pointer (some ⟨b7, 0, none⟩)), (.pointer (some ⟨b10, 0, none⟩))])), (11, (.int .i64 s6786_2)), (12, (.int .i64 s7797))]) (fun (s7797 : Int) (_ : Unit) w' => Cx w0 fp0 S0 w' [Bx b7 [(rows_h).v], E (List (List Int)) s6786_0 rows_h, Bx b4 [(.int .i64 p_)], Bx b10 [(also_h).v], E (List (List Int)) s6786_1 also_h]) s6786_3 () hF7675 ⟨rfl, rfl, rfl, rfl, rfl, rfl, trivial⟩ (H.sel [0, 1, 2, 3, 4] rfl) ?_
              · clear H
                rintro T7803 s7797 _ w7802 o7804 (H : Cx w0 fp0 S0 w7802 [Bx b7 [(rows_h).v], E (List (List Int)) s6786_0 rows_h, Bx b4 [(.int .i64 p_)], Bx b10 [(also_h).v], E (List (List Int)) s6786_1 also_h]) hrt hF7805
                refine sq ?_
                obtain ⟨r7831, hF7833, hF7832⟩ := bindS hF7805; clear hF7805
                refine cut (fun (q7834 : Bool) => [(2, (.int .i64 n_)), (5, (.pointer (some ⟨b7, 0, none⟩))), (9, (.int .i64 s6786_3)), (10, (.func (.func 147) #[] #[(.pointer (some ⟨b4, 0, none⟩)), (.pointer (some ⟨b7, 0, none⟩)), (.pointer (some ⟨b10, 0, none⟩))])), (11, (.int .i64 s6786_2)), (12, (.int .i64 s7797)), (40, (.bool q7834))]) (fun (q7834 : Bool) w' => q7834 = r7831 ∧ Cx w0 fp0 S0 w' [Bx b7 [(rows_h).v], E (List (List Int)) s6786_0 rows_h, Bx b4 [(.int .i64 p_)], Bx b10 [(also_h).v], E (List (List Int)) s6786_1 also_h]) ?_ ?_
                · skip
                  refine load1 (H.bx0 0 rfl) ?_
                  refine lenE (H.ro (α := List (List Int)) 1 rfl).len ?_
                  obtain ⟨a7835, e, hF7836⟩ := bindS hF7833; clear hF7833
                  refine boolO e ?_; clear e
                  cases a7835
                  · have hF7837 := condF hF7836; clear hF7836
                    exact ⟨false, ⟨rfl, rfl, rfl, rfl, rfl, rfl, rfl, trivial⟩, Option.some.inj hF7837, H.sel [0, 1, 2, 3, 4] rfl⟩
                  · have hF7838 := condT hF7836; clear hF7836
                    refine load1 (H.bx0 0 rfl) ?_
                    obtain ⟨a7845, e, hF7846⟩ := bindS hF7838; clear hF7838
                    replace H := H.sel [1, 0, 2, 3, 4] rfl
                    replace H := H.toEH (α := List Int)
                    have HH := H; clear H; obtain ⟨p7843, m7844, h7847, c7839, c7840, c7841, c7842, H⟩ := HH.peekL e; clear HH
                    clear e
                    refine idxE c7839 c7840 c7841 ?_
                    refine load1 c7842 ?_; clear c7842
                    obtain ⟨a7854, e, hF7855⟩ := bindS hF7846; clear hF7846
                    obtain ⟨p7852, m7853, c7848, c7849, c7850, c7851⟩ := (H.rh (α := List Int) 0 rfl 0 rfl).at1 e; clear e
                    refine idxE c7848 c7849 c7850 ?_; clear c7848 c7849 c7850
                    refine load1 c7851 ?_; clear c7851
                    obtain ⟨a7856, e, hF7857⟩ := bindS hF7855; clear hF7855
                    refine boolO e ?_; clear e
                    replace H := H.ofEH
                    exact ⟨a7856, ⟨rfl, rfl, rfl, rfl, rfl, rfl, rfl, trivial⟩, Option.some.inj hF7857, H.sel [1, 0, 2, 3, 4] rfl⟩
                · clear hF7833 H
                  rintro T7859 s7829 w7858 ⟨hr, (H : Cx w0 fp0 S0 w7858 [Bx b7 [(rows_h).v], E (List (List Int)) s6786_0 rows_h, Bx b4 [(.int .i64 p_)], Bx b10 [(also_h).v], E (List (List Int)) s6786_1 also_h])⟩
                  subst hr
                  cases s7829
                  · have hF7860 := condF hF7832; clear hF7832
                    have hs := Option.some.inj hF7860; subst hs; clear hF7860
                    have hF7861 : some _ = some _ := congrArg some (hrt _ rfl).symm
                    exact ⟨s7797, ⟨rfl, rfl, rfl, rfl, rfl, rfl, trivial⟩, Option.some.inj hF7861, H.sel [0, 1, 2, 3, 4] rfl⟩
                  · have hF7862 := condT hF7832; clear hF7832
                    obtain ⟨a7863, e, hF7864⟩ := bindS hF7862; clear hF7862
                    refine arO e ?_; clear e
                    have hs := Option.some.inj hF7864; subst hs; clear hF7864
                    exact ⟨a7863, (), rfl, ⟨rfl, rfl, rfl, rfl, rfl, rfl, trivial⟩, H.sel [0, 1, 2, 3, 4] rfl⟩
            · clear hF7675 H
              rintro T7866 s7671 w7865 ⟨hr, (H : Cx w0 fp0 S0 w7865 [Bx b7 [(rows_h).v], E (List (List Int)) s6786_0 rows_h, Bx b4 [(.int .i64 p_)], Bx b10 [(also_h).v], E (List (List Int)) s6786_1 also_h])⟩
              subst hr
              refine sq ?_
              refine load1 (H.bx0 0 rfl) ?_
              refine lenE (H.ro (α := List (List Int)) 1 rfl).len ?_
              obtain ⟨a7867, e, hF7868⟩ := bindS hF7674; clear hF7674
              refine boolO e ?_; clear e
              cases a7867
              · have hF7869 := condF hF7868; clear hF7868
                refine build_ (cs := #[(.int .i64 0), (.int .i64 s6786_3), (.int .i64 s7671), (.int .i64 0)]) gok rfl rfl rfl ?_
                obtain ⟨y7870, e, hF7871⟩ := bindS hF7869; clear hF7869
                obtain ⟨y7870_0, y7870_1⟩ := y7870
                have ey7870 := e; clear e
                replace H := H.sel [2, 0, 1, 3, 4] rfl
                refine callF (impl_reduction_1_c 0 s6786_3 s7671 0 b4 p_ b7 s6786_0 rows_h b10 s6786_1 also_h y7870_0 y7870_1 ey7870) (Γi := [Bx b4 [(.int .i64 p_)], Bx b7 [(rows_h).v], E (List (List Int)) s6786_0 rows_h, Bx b10 [(also_h).v], E (List (List Int)) s6786_1 also_h]) H trivial ?_; clear H ey7870
                rintro _ _ w7872 ⟨rfl, rfl⟩ (H : Cx w0 fp0 S0 w7872 [Bx b4 [(.int .i64 p_)], Bx b7 [(rows_h).v], E (List (List Int)) y7870_0 rows_h, Bx b10 [(also_h).v], E (List (List Int)) y7870_1 also_h])
                refine load1 (H.bx0 1 rfl) ?_
                obtain ⟨a7879, e, hF7880⟩ := bindS hF7871; clear hF7871
                replace H := H.sel [2, 0, 1, 3, 4] rfl
                replace H := H.toEH (α := List Int)
                have HH := H; clear H; obtain ⟨p7877, m7878, h7881, c7873, c7874, c7875, c7876, H⟩ := HH.peekL e; clear HH
                clear e
                refine idxE c7873 c7874 c7875 ?_
                refine load1 c7876 ?_; clear c7876
                obtain ⟨a7888, e, hF7889⟩ := bindS hF7880; clear hF7880
                obtain ⟨p7886, m7887, c7882, c7883, c7884, c7885⟩ := (H.rh (α := List Int) 0 rfl 0 rfl).at1 e; clear e
                refine idxE c7882 c7883 c7884 ?_; clear c7882 c7883 c7884
                refine load1 c7885 ?_; clear c7885
                refine build_ (cs := #[(.int .i64 1), (.int .i64 s6786_3), (.int .i64 0), (.int .i64 a7888)]) gok rfl rfl rfl ?_
                replace H := H.ofEH
                obtain ⟨y7890, e, hF7891⟩ := bindS hF7889; clear hF7889
                obtain ⟨y7890_0, y7890_1⟩ := y7890
                have ey7890 := e; clear e
                replace H := H.sel [1, 2, 0, 3, 4] rfl
                refine callF (impl_reduction_1_c 1 s6786_3 0 a7888 b4 p_ b7 y7870_0 rows_h b10 y7870_1 also_h y7890_0 y7890_1 ey7890) (Γi := [Bx b4 [(.int .i64 p_)], Bx b7 [(rows_h).v], E (List (List Int)) y7870_0 rows_h, Bx b10 [(also_h).v], E (List (List Int)) y7870_1 also_h]) H trivial ?_; clear H ey7890
                rintro _ _ w7892 ⟨rfl, rfl⟩ (H : Cx w0 fp0 S0 w7892 [Bx b4 [(.int .i64 p_)], Bx b7 [(rows_h).v], E (List (List Int)) y7890_0 rows_h, Bx b10 [(also_h).v], E (List (List Int)) y7890_1 also_h])
                refine sq ?_
                refine load1 (H.bx0 1 rfl) ?_
                refine lenE (H.ro (α := List (List Int)) 2 rfl).len ?_
                have hmx8052 := (H.ro (α := List (List Int)) 2 rfl).max
                obtain ⟨r8053, e, hF8054⟩ := bindS hF7891; clear hF7891
                refine loopS _ y7890_0.length (fun (k7893 : Nat) (s8050 : List (List Int) × List (List Int)) (_ : Unit) => [(2, (.int .i64 n_)), (5, (.pointer (some ⟨b7, 0, none⟩))), (9, (.int .i64 s6786_3)), (10, (.func (.func 147) #[] #[(.pointer (some ⟨b4, 0, none⟩)), (.pointer (some ⟨b7, 0, none⟩)), (.pointer (some ⟨b10, 0, none⟩))])), (11, (.int .i64 s6786_2)), (64, (.int .i64 ((y7890_0.length : Nat) : Int))), (65, (.int .i64 ((k7893 : Nat) : Int)))]) (fun _ (s8050 : List (List Int) × List (List Int)) (_ : Unit) w' => Cx w0 fp0 S0 w' [Bx b7 [(rows_h).v], E (List (List Int)) s8050.1 rows_h, Bx b4 [(.int .i64 p_)], Bx b10 [(also_h).v], E (List (List Int)) s8050.2 also_h]) (y7890_0, y7890_1) () e ⟨rfl, rfl, rfl, rfl, rfl, rfl, rfl, trivial⟩ (H.sel [1, 2, 0, 3, 4] rfl) ?_ ?_
                · clear H e
                  rintro T8056 k7893 ⟨s8050_0, s8050_1⟩ _ w8055 o8057 hk (H : Cx w0 fp0 S0 w8055 [Bx b7 [(rows_h).v], E (List (List Int)) s8050_0 rows_h, Bx b4 [(.int .i64 p_)], Bx b10 [(also_h).v], E (List (List Int)) s8050_1 also_h]) hF8058
                  refine boolE (z := true) (ltLen hk) ?_
                  refine sq ?_
                  refine sq ?_
                  obtain ⟨r8084, hF8086, hF8085⟩ := bindS hF8058; clear hF8058
                  refine cut (fun (q8087 : Bool) => [(2, (.int .i64 n_)), (5, (.pointer (some ⟨b7, 0, none⟩))), (9, (.int .i64 s6786_3)), (10, (.func (.func 147) #[] #[(.pointer (some ⟨b4, 0, none⟩)), (.pointer (some ⟨b7, 0, none⟩)), (.pointer (some ⟨b10, 0, none⟩))])), (11, (.int .i64 s6786_2)), (13, (.int .i64 ((k7893 : Nat) : Int))), (64, (.int .i64 ((y7890_0.length : Nat) : Int))), (65, (.int .i64 ((k7893 : Nat) : Int))), (80, (.bool q8087))]) (fun (q8087 : Bool) w' => q8087 = r8084 ∧ Cx w0 fp0 S0 w' [Bx b7 [(rows_h).v], E (List (List Int)) s8050_0 rows_h, Bx b4 [(.int .i64 p_)], Bx b10 [(also_h).v], E (List (List Int)) s8050_1 also_h]) ?_ ?_
                  · skip
                    obtain ⟨a8088, e, hF8089⟩ := bindS hF8086; clear hF8086
                    refine boolO e ?_; clear e
                    cases a8088
                    · have hF8090 := condF hF8089; clear hF8089
                      exact ⟨false, ⟨rfl, rfl, rfl, rfl, rfl, rfl, rfl, rfl, rfl, trivial⟩, Option.some.inj hF8090, H.sel [0, 1, 2, 3, 4] rfl⟩
                    · have hF8091 := condT hF8089; clear hF8089
                      refine load1 (H.bx0 0 rfl) ?_
                      obtain ⟨a8098, e, hF8099⟩ := bindS hF8091; clear hF8091
                      replace H := H.sel [1, 0, 2, 3, 4] rfl
                      replace H := H.toEH (α := List Int)
                      have HH := H; clear H; obtain ⟨p8096, m8097, h8100, c8092, c8093, c8094, c8095, H⟩ := HH.peekL e; clear HH
                      clear e
                      refine idxE c8092 c8093 c8094 ?_
                      refine load1 c8095 ?_; clear c8095
                      obtain ⟨a8107, e, hF8108⟩ := bindS hF8099; clear hF8099
                      obtain ⟨p8105, m8106, c8101, c8102, c8103, c8104⟩ := (H.rh (α := List Int) 0 rfl 0 rfl).at1 e; clear e
                      refine idxE c8101 c8102 c8103 ?_; clear c8101 c8102 c8103
                      refine load1 c8104 ?_; clear c8104
                      obtain ⟨a8109, e, hF8110⟩ := bindS hF8108; clear hF8108
                      refine boolO e ?_; clear e
                      replace H := H.ofEH
                      exact ⟨a8109, ⟨rfl, rfl, rfl, rfl, rfl, rfl, rfl, rfl, rfl, trivial⟩, Option.some.inj hF8110, H.sel [1, 0, 2, 3, 4] rfl⟩
                  · clear hF8086 H
                    rintro T8112 s8082 w8111 ⟨hr, (H : Cx w0 fp0 S0 w8111 [Bx b7 [(rows_h).v], E (List (List Int)) s8050_0 rows_h, Bx b4 [(.int .i64 p_)], Bx b10 [(also_h).v], E (List (List Int)) s8050_1 also_h])⟩
                    subst hr
                    cases s8082
                    · have hF8113 := condF hF8085; clear hF8085
                      refine arK hk hmx8052 ?_
                      have hs := Option.some.inj hF8113; subst hs; clear hF8113
                      exact ⟨(), ⟨rfl, rfl, rfl, rfl, rfl, rfl, rfl, trivial⟩, H.sel [0, 1, 2, 3, 4] rfl⟩
                    · have hF8114 := condT hF8085; clear hF8085
                      refine load1 (H.bx0 0 rfl) ?_
                      obtain ⟨a8121, e, hF8122⟩ := bindS hF8114; clear hF8114
                      replace H := H.sel [1, 0, 2, 3, 4] rfl
                      replace H := H.toEH (α := List Int)
                      have HH := H; clear H; obtain ⟨p8119, m8120, h8123, c8115, c8116, c8117, c8118, H⟩ := HH.peekL e; clear HH
                      clear e
                      refine idxE c8115 c8116 c8117 ?_
                      refine load1 c8118 ?_; clear c8118
                      obtain ⟨a8130, e, hF8131⟩ := bindS hF8122; clear hF8122
                      obtain ⟨p8128, m8129, c8124, c8125, c8126, c8127⟩ := (H.rh (α := List Int) 0 rfl 0 rfl).at1 e; clear e
                      refine idxE c8124 c8125 c8126 ?_; clear c8124 c8125 c8126
                      refine load1 c8127 ?_; clear c8127
                      refine build_ (cs := #[(.int .i64 2), (.int .i64 ((k7893 : Nat) : Int)), (.int .i64 s6786_3), (.int .i64 a8130)]) gok rfl rfl rfl ?_
                      replace H := H.ofEH
                      obtain ⟨y8132, e, hF8133⟩ := bindS hF8131; clear hF8131
                      obtain ⟨y8132_0, y8132_1⟩ := y8132
                      have ey8132 := e; clear e
                      replace H := H.sel [2, 1, 0, 3, 4] rfl
                      refine callF (impl_reduction_1_c 2 ((k7893 : Nat) : Int) s6786_3 a8130 b4 p_ b7 s8050_0 rows_h b10 s8050_1 also_h y8132_0 y8132_1 ey8132) (Γi := [Bx b4 [(.int .i64 p_)], Bx b7 [(rows_h).v], E (List (List Int)) s8050_0 rows_h, Bx b10 [(also_h).v], E (List (List Int)) s8050_1 also_h]) H trivial ?_; clear H ey8132
                      rintro _ _ w8134 ⟨rfl, rfl⟩ (H : Cx w0 fp0 S0 w8134 [Bx b4 [(.int .i64 p_)], Bx b7 [(rows_h).v], E (List (List Int)) y8132_0 rows_h, Bx b10 [(also_h).v], E (List (List Int)) y8132_1 also_h])
                      refine arK hk hmx8052 ?_
                      have hs := Option.some.inj hF8133; subst hs; clear hF8133
                      exact ⟨(), ⟨rfl, rfl, rfl, rfl, rfl, rfl, rfl, trivial⟩, H.sel [1, 2, 0, 3, 4] rfl⟩
                · clear H e
                  obtain ⟨s8137_0, s8137_1⟩ := r8053
                  rintro T8136 _ w8135 (H : Cx w0 fp0 S0 w8135 [Bx b7 [(rows_h).v], E (List (List Int)) s8137_0 rows_h, Bx b4 [(.int .i64 p_)], Bx b10 [(also_h).v], E (List (List Int)) s8137_1 also_h])
                  refine boolE (z := false) geLen ?_
                  refine sq ?_
                  obtain ⟨a8139, e, hF8140⟩ := bindS hF8054; clear hF8054
                  refine arO e ?_; clear e
                  exact ⟨(s8137_0, s8137_1, a8139), ⟨rfl, rfl, rfl, rfl, rfl, trivial⟩, Option.some.inj hF8140, H.sel [0, 1, 2, 3, 4] rfl⟩
              · have hF8141 := condT hF7868; clear hF7868
                exact ⟨(s6786_0, s6786_1, s6786_3), ⟨rfl, rfl, rfl, rfl, rfl, trivial⟩, Option.some.inj hF8141, H.sel [0, 1, 2, 3, 4] rfl⟩
          · clear hF7481 H
            rintro T8143 ⟨s7477_0, s7477_1, s7477_2⟩ w8142 ⟨hr, (H : Cx w0 fp0 S0 w8142 [Bx b7 [(rows_h).v], E (List (List Int)) s7477_0 rows_h, Bx b4 [(.int .i64 p_)], Bx b10 [(also_h).v], E (List (List Int)) s7477_1 also_h])⟩
            subst hr
            obtain ⟨a8144, e, hF8145⟩ := bindS hF7480; clear hF7480
            refine arO e ?_; clear e
            have hs := Option.some.inj hF8145; subst hs; clear hF8145
            exact ⟨(s7477_0, s7477_1, a8144, s7477_2), (), rfl, ⟨rfl, rfl, rfl, rfl, rfl, trivial⟩, H.sel [0, 1, 2, 3, 4] rfl⟩
  · clear hF4080 H
    rintro T8147 ⟨s4076_0, s4076_1, s4076_2⟩ w8146 ⟨hr, (H : Cx w0 fp0 S0 w8146 [E (List (List Int)) s4076_0 rows_h, E (List (List Int)) s4076_1 also_h])⟩
    subst hr
    cases hF4079
    exact ⟨_, _, rfl, ⟨rfl, rfl⟩, (H.sel [0, 1] rfl).close ⟨cloE, cloE, trivial⟩⟩

theorem impl_reduced_c (p_ : Int) (rows_ : List (List Int)) (rows_h : Hd) (n_ : Int) (y : List (List Int)) (hF : F_impl_reduced p_ rows_ n_ = some y) :
    ConF Tryd.prog 72 #[(.int .i64 p_), (rows_h).v, (.int .i64 n_)] [Es (List (List Int)) rows_ rows_h] [] (fun v Γ' => ∃ z0 : Hd, v = (z0).v ∧ Γ' = [E (List (List Int)) y z0]) := by
  intro w0 S0 fp0 hI hS
  have H : Cx w0 fp0 S0 w0 [Es (List (List Int)) rows_ rows_h] := Cx.start hI hS
  clear hI hS
  refine enterC (args := [_, _, _]) gok Tryd.func72 rfl _ rfl rfl rfl ?_
  obtain ⟨y2, e, hF3⟩ := bindS hF; clear hF
  have ey2 := e; clear e
  refine callF (impl_clones_c rows_ rows_h y2 ey2) (Γi := []) H ⟨Vw.sh 0 rfl, trivial⟩ ?_; clear H ey2
  rintro _ _ w4 ⟨h5, rfl, rfl⟩ (H : Cx w0 fp0 S0 w4 [E (List (List Int)) y2 h5, Es (List (List Int)) rows_ rows_h])
  refine lenE (H.ro (α := List (List Int)) 0 rfl).len ?_
  obtain ⟨a7, e, hF8⟩ := bindS hF3; clear hF3
  refine make_ (α := List Int) gok rfl rfl rfl rfl (makeCO_of e) H ?_; clear e H; intro h10 w9 hx H
  clear hx
  obtain ⟨y12, e, hF13⟩ := bindS hF8; clear hF8
  obtain ⟨y12_0, y12_1, y12_2⟩ := y12
  have ey12 := e; clear e
  replace H := H.sel [1, 0, 2] rfl
  refine callF (impl_reduction_c p_ y2 h5 n_ a7 h10 y12_0 y12_1 y12_2 ey12) (Γi := [E (List (List Int)) y2 h5, E (List (List Int)) a7 h10]) H trivial ?_; clear H ey12
  rintro _ _ w14 ⟨rfl, rfl⟩ (H : Cx w0 fp0 S0 w14 [E (List (List Int)) y12_0 h5, E (List (List Int)) y12_1 h10, Es (List (List Int)) rows_ rows_h])
  obtain ⟨a15, e, hF16⟩ := bindS hF13; clear hF13
  refine slO3 (α := List Int) gok rfl rfl H e ?_; clear e H; intro h17 H
  cases hF16
  exact ⟨_, _, rfl, ⟨h17, rfl, rfl⟩, (H.sel [0] rfl).close ⟨cloE, trivial⟩⟩

theorem impl_HankelRank_c (p_ : Int) (m_ : List (Int × List (List Int))) (m_h : Hd) (y0 : Int) (y1 : Bool) (hF : F_impl_HankelRank p_ m_ = some (y0, y1)) :
    ConF Tryd.prog 22 #[(.int .i64 p_), (m_h).v] [Es (List (Int × List (List Int))) m_ m_h, Gl 0 [.int .i64 2, .int .i64 3, .int .i64 5, .int .i64 7]] [] (fun v Γ' => v = (.tuple #[(.int .i64 y0), (.bool y1)]) ∧ Γ' = []) := by
  intro w0 S0 fp0 hI hS
  have H : Cx w0 fp0 S0 w0 [Es (List (Int × List (List Int))) m_ m_h, Gl 0 [.int .i64 2, .int .i64 3, .int .i64 5, .int .i64 7]] := Cx.start hI hS
  clear hI hS
  refine enterC (args := [_, _]) gok Tryd.func22 rfl _ rfl rfl rfl ?_
  refine sq ?_
  obtain ⟨y3, e, hF4⟩ := bindS hF; clear hF
  have ey3 := e; clear e
  refine callF (impl_isResponse_c p_ m_ m_h y3 ey3) (Γi := []) H ⟨Vw.sh 0 rfl, Vw.gl 1 rfl, trivial⟩ ?_; clear H ey3
  rintro _ _ w5 ⟨rfl, rfl⟩ (H : Cx w0 fp0 S0 w5 [Es (List (Int × List (List Int))) m_ m_h, Gl 0 [.int .i64 2, .int .i64 3, .int .i64 5, .int .i64 7]])
  obtain ⟨a6, e, hF7⟩ := bindS hF4; clear hF4
  refine boolO e ?_; clear e
  cases a6
  · have hF8 := condF hF7; clear hF7
    refine lenE (H.rs (α := List (Int × List (List Int))) 0 rfl).len ?_
    obtain ⟨a9, e, hF10⟩ := bindS hF8; clear hF8
    refine quoO_ e ?_; clear e
    refine heldX H [] (.fst 0 (.fst 1 (.fst 2 (.fst 3 (.fst 5 (.fst 6 (.fst 7 (.fst 8 (.fst 9 (.fst 10 (.act 4 (.act 11 (.fst 12 (.fst 13 (.fst 14 .done))))))))))))))) mixed [] trivial (by kernel_rfl) ?_; clear H; intro w11 H
    have hX : Ext w11 w11 := Upd.refl _ _
    have H0 := H
    obtain ⟨a18, e, hF19⟩ := bindS hF10; clear hF10
    have HH := H; clear H; obtain ⟨p16, m17, g20, c12, c13, c14, c15, H⟩ := HH.el (α := Int × List (List Int)) 0 rfl e; clear HH
    clear e
    obtain ⟨a18_0, a18_1⟩ := a18
    obtain ⟨_, h22⟩ := g20
    replace H := H.part (β := List (List Int)) a18_1 (h22 : Hd) 0 rfl (fun S h => (And.right h))
    replace H := H.sel [0, 2, 3] rfl
    refine idxE c12 c13 c14 ?_; clear c12 c13 c14
    refine anyH (fun _ => fld gok rfl rfl rfl rfl ⟨rfl, rfl⟩) ?_
    refine load1X (c15 0 _ rfl) ?_
    obtain ⟨a24, e, hF25⟩ := bindS hF19; clear hF19
    refine arO e ?_; clear e
    obtain ⟨y26, e, hF27⟩ := bindS hF25; clear hF25
    have ey26 := e; clear e
    refine callFx (impl_hankel_c m_ m_h a9 a9 y26 ey26) H ⟨Vw.sh 1 rfl, trivial⟩ ?_; clear H ey26
    rintro _ _ w28 ⟨h29, rfl, rfl⟩ hx (H : Cx w0 fp0 S0 w28 [E (List (List Int)) y26 h29, Es (List (List Int)) a18_1 h22, Es (List (Int × List (List Int))) m_ m_h, Gl 0 [.int .i64 2, .int .i64 3, .int .i64 5, .int .i64 7]])
    replace hX := hX.trans0 hx; clear hx
    refine hold hX ?_
    obtain ⟨y31, e, hF32⟩ := bindS hF27; clear hF27
    have ey31 := e; clear e
    refine callFx (impl_reduced_c p_ y26 h29 a24 y31 ey31) H ⟨Vw.own 0 rfl, trivial⟩ ?_; clear H ey31
    rintro _ _ w33 ⟨h34, rfl, rfl⟩ hx (H : Cx w0 fp0 S0 w33 [E (List (List Int)) y31 h34, E (List (List Int)) y26 h29, Es (List (List Int)) a18_1 h22, Es (List (Int × List (List Int))) m_ m_h, Gl 0 [.int .i64 2, .int .i64 3, .int .i64 5, .int .i64 7]])
    replace hX := hX.trans0 hx; clear hx
    refine hold hX ?_
    refine lenE (H.ro (α := List (List Int)) 0 rfl).len ?_
    cases hF32
    exact ⟨_, _, rfl, ⟨rfl, rfl⟩, (H.sel [] rfl).close trivial⟩
  · have hF36 := condT hF7; clear hF7
    cases hF36
    exact ⟨_, _, rfl, ⟨rfl, rfl⟩, (H.sel [] rfl).close trivial⟩

theorem laws_eqIntS_c (a_ : List Int) (a_h : Hd) (b_ : List Int) (b_h : Hd) (y : Bool) (hF : F_laws_eqIntS a_ b_ = some y) :
    ConF Tryd.prog 35 #[(a_h).v, (b_h).v] [Es (List Int) a_ a_h, Es (List Int) b_ b_h] [] (fun v Γ' => v = (.bool y) ∧ Γ' = []) := by
  intro w0 S0 fp0 hI hS
  have H : Cx w0 fp0 S0 w0 [Es (List Int) a_ a_h, Es (List Int) b_ b_h] := Cx.start hI hS
  clear hI hS
  refine enterC (args := [_, _]) gok Tryd.func35 rfl _ rfl rfl rfl ?_
  refine sq ?_
  refine lenE (H.rs (α := List Int) 0 rfl).len ?_
  refine lenE (H.rs (α := List Int) 1 rfl).len ?_
  obtain ⟨a3, e, hF4⟩ := bindS hF; clear hF
  refine boolO e ?_; clear e
  cases a3
  · have hF5 := condF hF4; clear hF4
    obtain ⟨r104, hF106, hF105⟩ := bindS hF5; clear hF5
    refine cut (fun (q107 : Unit) => []) (fun (q107 : Unit) w' => .inl () = r104 ∧ Cx w0 fp0 S0 w' []) ?_ ?_
    · skip
      refine loopW _ (fun (s166 : Int) (_ : Unit) => [(0, (a_h).v), (1, (b_h).v), (5, (.int .i64 s166))]) (fun (s166 : Int) (_ : Unit) w' => Cx w0 fp0 S0 w' [Es (List Int) a_ a_h, Es (List Int) b_ b_h]) 0 () hF106 ⟨rfl, rfl, rfl, trivial⟩ (H.sel [0, 1] rfl) ?_
      · clear H
        rintro T172 s166 _ w171 o173 (H : Cx w0 fp0 S0 w171 [Es (List Int) a_ a_h, Es (List Int) b_ b_h]) hrt hF174
        refine sq ?_
        refine lenE (H.rs (α := List Int) 0 rfl).len ?_
        obtain ⟨a175, e, hF176⟩ := bindS hF174; clear hF174
        refine boolO e ?_; clear e
        cases a175
        · have hF177 := condF hF176; clear hF176
          have hs := Option.some.inj hF177; subst hs; clear hF177
          have hF178 : some _ = some _ := congrArg some (hrt _ rfl).symm
          exact ⟨(), trivial, Option.some.inj hF178, H.sel [] rfl⟩
        · have hF179 := condT hF176; clear hF176
          refine sq ?_
          refine heldX H [] (.fst 0 (.fst 1 (.fst 2 (.fst 4 (.fst 5 (.fst 6 (.fst 3 (.fst 7 (.fst 8 .done))))))))) mixed [] trivial (by kernel_rfl) ?_; clear H; intro w180 H
          have hX : Ext w180 w180 := Upd.refl _ _
          have H0 := H
          obtain ⟨a187, e, hF188⟩ := bindS hF179; clear hF179
          obtain ⟨p185, m186, c181, c182, c183, c184⟩ := (H.rs (α := List Int) 0 rfl).at1 e; clear e
          refine idxE c181 c182 c183 ?_; clear c181 c182 c183
          obtain ⟨a195, e, hF196⟩ := bindS hF188; clear hF188
          obtain ⟨p193, m194, c189, c190, c191, c192⟩ := (H.rs (α := List Int) 1 rfl).at1 e; clear e
          refine idxE c189 c190 c191 ?_; clear c189 c190 c191
          refine load1X c184 ?_; clear c184
          refine load1X c192 ?_; clear c192
          obtain ⟨a197, e, hF198⟩ := bindS hF196; clear hF196
          refine boolO e ?_; clear e
          cases a197
          · have hF199 := condF hF198; clear hF198
            obtain ⟨a200, e, hF201⟩ := bindS hF199; clear hF199
            refine arO e ?_; clear e
            have hs := Option.some.inj hF201; subst hs; clear hF201
            exact ⟨a200, (), rfl, ⟨rfl, rfl, rfl, trivial⟩, H.sel [0, 1] rfl⟩
          · have hF202 := condT hF198; clear hF198
            have hs := Option.some.inj hF202; subst hs; clear hF202
            have hF203 : some _ = some _ := congrArg some (hrt _ rfl).symm
            have hs := Option.some.inj hF203; subst hs; clear hF203
            have hF204 : some _ = some _ := hF105; clear hF105
            cases hF204
            exact ⟨_, _, rfl, ⟨rfl, rfl⟩, (H.sel [] rfl).close trivial⟩
    · clear hF106 H
      rintro T206 _ w205 ⟨hr, (H : Cx w0 fp0 S0 w205 [])⟩
      subst hr
      cases hF105
      exact ⟨_, _, rfl, ⟨rfl, rfl⟩, (H.sel [] rfl).close trivial⟩
  · have hF207 := condT hF4; clear hF4
    cases hF207
    exact ⟨_, _, rfl, ⟨rfl, rfl⟩, (H.sel [] rfl).close trivial⟩

theorem laws_eqIntSS_c (a_ : List (List Int)) (a_h : Hd) (b_ : List (List Int)) (b_h : Hd) (y : Bool) (hF : F_laws_eqIntSS a_ b_ = some y) :
    ConF Tryd.prog 67 #[(a_h).v, (b_h).v] [Es (List (List Int)) a_ a_h, Es (List (List Int)) b_ b_h] [] (fun v Γ' => v = (.bool y) ∧ Γ' = []) := by
  intro w0 S0 fp0 hI hS
  have H : Cx w0 fp0 S0 w0 [Es (List (List Int)) a_ a_h, Es (List (List Int)) b_ b_h] := Cx.start hI hS
  clear hI hS
  refine enterC (args := [_, _]) gok Tryd.func67 rfl _ rfl rfl rfl ?_
  refine sq ?_
  refine lenE (H.rs (α := List (List Int)) 0 rfl).len ?_
  refine lenE (H.rs (α := List (List Int)) 1 rfl).len ?_
  obtain ⟨a3, e, hF4⟩ := bindS hF; clear hF
  refine boolO e ?_; clear e
  cases a3
  · have hF5 := condF hF4; clear hF4
    obtain ⟨r125, hF127, hF126⟩ := bindS hF5; clear hF5
    refine cut (fun (q128 : Unit) => []) (fun (q128 : Unit) w' => .inl () = r125 ∧ Cx w0 fp0 S0 w' []) ?_ ?_
    · skip
      refine loopW _ (fun (s201 : Int) (_ : Unit) => [(0, (a_h).v), (1, (b_h).v), (5, (.int .i64 s201))]) (fun (s201 : Int) (_ : Unit) w' => Cx w0 fp0 S0 w' [Es (List (List Int)) a_ a_h, Es (List (List Int)) b_ b_h]) 0 () hF127 ⟨rfl, rfl, rfl, trivial⟩ (H.sel [0, 1] rfl) ?_
      · clear H
        rintro T207 s201 _ w206 o208 (H : Cx w0 fp0 S0 w206 [Es (List (List Int)) a_ a_h, Es (List (List Int)) b_ b_h]) hrt hF209
        refine sq ?_
        refine lenE (H.rs (α := List (List Int)) 0 rfl).len ?_
        obtain ⟨a210, e, hF211⟩ := bindS hF209; clear hF209
        refine boolO e ?_; clear e
        cases a210
        · have hF212 := condF hF211; clear hF211
          have hs := Option.some.inj hF212; subst hs; clear hF212
          have hF213 : some _ = some _ := congrArg some (hrt _ rfl).symm
          exact ⟨(), trivial, Option.some.inj hF213, H.sel [] rfl⟩
        · have hF214 := condT hF211; clear hF211
          refine sq ?_
          refine heldX H [] (.fst 0 (.fst 1 (.fst 2 (.fst 4 (.fst 5 (.fst 6 (.fst 3 (.fst 7 (.act 8 (.fst 9 .done)))))))))) mixed [] trivial (by kernel_rfl) ?_; clear H; intro w215 H
          have hX : Ext w215 w215 := Upd.refl _ _
          have H0 := H
          obtain ⟨a222, e, hF223⟩ := bindS hF214; clear hF214
          have HH := H; clear H; obtain ⟨p220, m221, h224, c216, c217, c218, c219, H⟩ := HH.elL 0 rfl e; clear HH
          clear e
          refine idxE c216 c217 c218 ?_; clear c216 c217 c218
          obtain ⟨a232, e, hF233⟩ := bindS hF223; clear hF223
          have HH := H; clear H; obtain ⟨p230, m231, h234, c226, c227, c228, c229, H⟩ := HH.elL 2 rfl e; clear HH
          clear e
          refine idxE c226 c227 c228 ?_; clear c226 c227 c228
          refine load1X c219 ?_; clear c219
          refine load1X c229 ?_; clear c229
          obtain ⟨y236, e, hF237⟩ := bindS hF233; clear hF233
          have ey236 := e; clear e
          refine callFx (laws_eqIntS_c a222 h224 a232 h234 y236 ey236) H ⟨Vw.sh 1 rfl, Vw.sh 0 rfl, trivial⟩ ?_; clear H ey236
          rintro _ _ w238 ⟨rfl, rfl⟩ hx (H : Cx w0 fp0 S0 w238 [Es (List Int) a232 h234, Es (List Int) a222 h224, Es (List (List Int)) a_ a_h, Es (List (List Int)) b_ b_h])
          replace hX := hX.trans0 hx; clear hx
          refine hold hX ?_
          obtain ⟨a239, e, hF240⟩ := bindS hF237; clear hF237
          refine boolO e ?_; clear e
          cases a239
          · have hF241 := condF hF240; clear hF240
            obtain ⟨a242, e, hF243⟩ := bindS hF241; clear hF241
            refine arO e ?_; clear e
            have hs := Option.some.inj hF243; subst hs; clear hF243
            exact ⟨a242, (), rfl, ⟨rfl, rfl, rfl, trivial⟩, H.sel [2, 3] rfl⟩
          · have hF244 := condT hF240; clear hF240
            have hs := Option.some.inj hF244; subst hs; clear hF244
            have hF245 : some _ = some _ := congrArg some (hrt _ rfl).symm
            have hs := Option.some.inj hF245; subst hs; clear hF245
            have hF246 : some _ = some _ := hF126; clear hF126
            cases hF246
            exact ⟨_, _, rfl, ⟨rfl, rfl⟩, (H.sel [] rfl).close trivial⟩
    · clear hF127 H
      rintro T248 _ w247 ⟨hr, (H : Cx w0 fp0 S0 w247 [])⟩
      subst hr
      cases hF126
      exact ⟨_, _, rfl, ⟨rfl, rfl⟩, (H.sel [] rfl).close trivial⟩
  · have hF249 := condT hF4; clear hF4
    cases hF249
    exact ⟨_, _, rfl, ⟨rfl, rfl⟩, (H.sel [] rfl).close trivial⟩

theorem laws_eqMatrix_c (a__0 : Int) (a__1 : List (List Int)) (a__1h : Hd) (b__0 : Int) (b__1 : List (List Int)) (b__1h : Hd) (y : Bool) (hF : F_laws_eqMatrix (a__0, a__1) (b__0, b__1) = some y) :
    ConF Tryd.prog 59 #[(.agg #[(.int .i64 a__0), (a__1h).v]), (.agg #[(.int .i64 b__0), (b__1h).v])] [Es (List (List Int)) a__1 a__1h, Es (List (List Int)) b__1 b__1h] [] (fun v Γ' => v = (.bool y) ∧ Γ' = []) := by
  intro w0 S0 fp0 hI hS
  have H : Cx w0 fp0 S0 w0 [Es (List (List Int)) a__1 a__1h, Es (List (List Int)) b__1 b__1h] := Cx.start hI hS
  clear hI hS
  refine enterC (args := [_, _]) gok Tryd.func59 rfl _ rfl rfl rfl ?_
  refine box_ H ?_; clear H; intro b4 w3 hx H
  clear hx
  replace H : Cx w0 fp0 S0 w3 [Bx b4 [(.int .i64 a__0), (a__1h).v], Es (List (List Int)) a__1 a__1h, Es (List (List Int)) b__1 b__1h] := H
  refine box_ H ?_; clear H; intro b7 w6 hx H
  clear hx
  replace H : Cx w0 fp0 S0 w6 [Bx b7 [(.int .i64 b__0), (b__1h).v], Bx b4 [(.int .i64 a__0), (a__1h).v], Es (List (List Int)) a__1 a__1h, Es (List (List Int)) b__1 b__1h] := H
  refine sq ?_
  refine fld gok rfl rfl rfl rfl ?_
  refine load1 (H.bx 1 rfl (j := 0) rfl) ?_
  refine fld gok rfl rfl rfl rfl ?_
  refine load1 (H.bx 0 rfl (j := 0) rfl) ?_
  obtain ⟨a9, e, hF10⟩ := bindS hF; clear hF
  refine boolO e ?_; clear e
  cases a9
  · have hF11 := condF hF10; clear hF10
    refine sq ?_
    refine fld gok rfl rfl rfl rfl ?_
    refine load1 (H.bx 1 rfl (j := 1) rfl) ?_
    refine fld gok rfl rfl rfl rfl ?_
    refine load1 (H.bx 0 rfl (j := 1) rfl) ?_
    obtain ⟨y12, e, hF13⟩ := bindS hF11; clear hF11
    have ey12 := e; clear e
    refine callF (laws_eqIntSS_c a__1 a__1h b__1 b__1h y12 ey12) (Γi := []) H ⟨Vw.sh 2 rfl, Vw.sh 3 rfl, trivial⟩ ?_; clear H ey12
    rintro _ _ w14 ⟨rfl, rfl⟩ (H : Cx w0 fp0 S0 w14 [Bx b7 [(.int .i64 b__0), (b__1h).v], Bx b4 [(.int .i64 a__0), (a__1h).v], Es (List (List Int)) a__1 a__1h, Es (List (List Int)) b__1 b__1h])
    obtain ⟨a15, e, hF16⟩ := bindS hF13; clear hF13
    refine boolO e ?_; clear e
    cases a15
    · have hF17 := condF hF16; clear hF16
      cases hF17
      exact ⟨_, _, rfl, ⟨rfl, rfl⟩, (H.sel [] rfl).close trivial⟩
    · have hF18 := condT hF16; clear hF16
      cases hF18
      exact ⟨_, _, rfl, ⟨rfl, rfl⟩, (H.sel [] rfl).close trivial⟩
  · have hF19 := condT hF10; clear hF10
    cases hF19
    exact ⟨_, _, rfl, ⟨rfl, rfl⟩, (H.sel [] rfl).close trivial⟩

theorem laws_eqMatrixS_c (a_ : List (Int × List (List Int))) (a_h : Hd) (b_ : List (Int × List (List Int))) (b_h : Hd) (y : Bool) (hF : F_laws_eqMatrixS a_ b_ = some y) :
    ConF Tryd.prog 23 #[(a_h).v, (b_h).v] [Es (List (Int × List (List Int))) a_ a_h, Es (List (Int × List (List Int))) b_ b_h] [] (fun v Γ' => v = (.bool y) ∧ Γ' = []) := by
  intro w0 S0 fp0 hI hS
  have H : Cx w0 fp0 S0 w0 [Es (List (Int × List (List Int))) a_ a_h, Es (List (Int × List (List Int))) b_ b_h] := Cx.start hI hS
  clear hI hS
  refine enterC (args := [_, _]) gok Tryd.func23 rfl _ rfl rfl rfl ?_
  refine sq ?_
  refine lenE (H.rs (α := List (Int × List (List Int))) 0 rfl).len ?_
  refine lenE (H.rs (α := List (Int × List (List Int))) 1 rfl).len ?_
  obtain ⟨a3, e, hF4⟩ := bindS hF; clear hF
  refine boolO e ?_; clear e
  cases a3
  · have hF5 := condF hF4; clear hF4
    obtain ⟨r137, hF139, hF138⟩ := bindS hF5; clear hF5
    refine cut (fun (q140 : Unit) => []) (fun (q140 : Unit) w' => .inl () = r137 ∧ Cx w0 fp0 S0 w' []) ?_ ?_
    · skip
      refine loopW _ (fun (s221 : Int) (_ : Unit) => [(0, (a_h).v), (1, (b_h).v), (5, (.int .i64 s221))]) (fun (s221 : Int) (_ : Unit) w' => Cx w0 fp0 S0 w' [Es (List (Int × List (List Int))) a_ a_h, Es (List (Int × List (List Int))) b_ b_h]) 0 () hF139 ⟨rfl, rfl, rfl, trivial⟩ (H.sel [0, 1] rfl) ?_
      · clear H
        rintro T227 s221 _ w226 o228 (H : Cx w0 fp0 S0 w226 [Es (List (Int × List (List Int))) a_ a_h, Es (List (Int × List (List Int))) b_ b_h]) hrt hF229
        refine sq ?_
        refine lenE (H.rs (α := List (Int × List (List Int))) 0 rfl).len ?_
        obtain ⟨a230, e, hF231⟩ := bindS hF229; clear hF229
        refine boolO e ?_; clear e
        cases a230
        · have hF232 := condF hF231; clear hF231
          have hs := Option.some.inj hF232; subst hs; clear hF232
          have hF233 : some _ = some _ := congrArg some (hrt _ rfl).symm
          exact ⟨(), trivial, Option.some.inj hF233, H.sel [] rfl⟩
        · have hF234 := condT hF231; clear hF231
          refine sq ?_
          refine heldX H [] (.fst 0 (.fst 1 (.fst 2 (.fst 4 (.fst 5 (.fst 6 (.fst 3 (.fst 7 (.act 8 (.fst 9 .done)))))))))) mixed [] trivial (by kernel_rfl) ?_; clear H; intro w235 H
          have hX : Ext w235 w235 := Upd.refl _ _
          have H0 := H
          obtain ⟨a242, e, hF243⟩ := bindS hF234; clear hF234
          have HH := H; clear H; obtain ⟨p240, m241, g244, c236, c237, c238, c239, H⟩ := HH.el (α := Int × List (List Int)) 0 rfl e; clear HH
          clear e
          obtain ⟨a242_0, a242_1⟩ := a242
          obtain ⟨_, h246⟩ := g244
          replace H := H.part (β := List (List Int)) a242_1 (h246 : Hd) 0 rfl (fun S h => (And.right h))
          replace H := H.sel [0, 2, 3] rfl
          refine idxE c236 c237 c238 ?_; clear c236 c237 c238
          obtain ⟨a254, e, hF255⟩ := bindS hF243; clear hF243
          have HH := H; clear H; obtain ⟨p252, m253, g256, c248, c249, c250, c251, H⟩ := HH.el (α := Int × List (List Int)) 2 rfl e; clear HH
          clear e
          obtain ⟨a254_0, a254_1⟩ := a254
          obtain ⟨_, h258⟩ := g256
          replace H := H.part (β := List (List Int)) a254_1 (h258 : Hd) 0 rfl (fun S h => (And.right h))
          replace H := H.sel [0, 2, 3, 4] rfl
          refine idxE c248 c249 c250 ?_; clear c248 c249 c250
          refine loadNX [(.int .i64 a242_0), (h246).v] rfl c239 ?_; clear c239
          refine loadNX [(.int .i64 a254_0), (h258).v] rfl c251 ?_; clear c251
          obtain ⟨y260, e, hF261⟩ := bindS hF255; clear hF255
          have ey260 := e; clear e
          refine callFx (laws_eqMatrix_c a242_0 a242_1 h246 a254_0 a254_1 h258 y260 ey260) H ⟨Vw.sh 1 rfl, Vw.sh 0 rfl, trivial⟩ ?_; clear H ey260
          rintro _ _ w262 ⟨rfl, rfl⟩ hx (H : Cx w0 fp0 S0 w262 [Es (List (List Int)) a254_1 h258, Es (List (List Int)) a242_1 h246, Es (List (Int × List (List Int))) a_ a_h, Es (List (Int × List (List Int))) b_ b_h])
          replace hX := hX.trans0 hx; clear hx
          refine hold hX ?_
          obtain ⟨a263, e, hF264⟩ := bindS hF261; clear hF261
          refine boolO e ?_; clear e
          cases a263
          · have hF265 := condF hF264; clear hF264
            obtain ⟨a266, e, hF267⟩ := bindS hF265; clear hF265
            refine arO e ?_; clear e
            have hs := Option.some.inj hF267; subst hs; clear hF267
            exact ⟨a266, (), rfl, ⟨rfl, rfl, rfl, trivial⟩, H.sel [2, 3] rfl⟩
          · have hF268 := condT hF264; clear hF264
            have hs := Option.some.inj hF268; subst hs; clear hF268
            have hF269 : some _ = some _ := congrArg some (hrt _ rfl).symm
            have hs := Option.some.inj hF269; subst hs; clear hF269
            have hF270 : some _ = some _ := hF138; clear hF138
            cases hF270
            exact ⟨_, _, rfl, ⟨rfl, rfl⟩, (H.sel [] rfl).close trivial⟩
    · clear hF139 H
      rintro T272 _ w271 ⟨hr, (H : Cx w0 fp0 S0 w271 [])⟩
      subst hr
      cases hF138
      exact ⟨_, _, rfl, ⟨rfl, rfl⟩, (H.sel [] rfl).close trivial⟩
  · have hF273 := condT hF4; clear hF4
    cases hF273
    exact ⟨_, _, rfl, ⟨rfl, rfl⟩, (H.sel [] rfl).close trivial⟩

theorem laws_FnExactHankelRank_c (aP_ : Int) (aM_ : List (Int × List (List Int))) (aM_h : Hd) (y : Bool) (hF : F_laws_FnExactHankelRank aP_ aM_ = some y) :
    ConF Tryd.prog 4 #[(.int .i64 aP_), (aM_h).v] [Es (List (Int × List (List Int))) aM_ aM_h, Gl 0 [.int .i64 2, .int .i64 3, .int .i64 5, .int .i64 7]] [] (fun v Γ' => v = (.bool y) ∧ Γ' = []) := by
  intro w0 S0 fp0 hI hS
  have H : Cx w0 fp0 S0 w0 [Es (List (Int × List (List Int))) aM_ aM_h, Gl 0 [.int .i64 2, .int .i64 3, .int .i64 5, .int .i64 7]] := Cx.start hI hS
  clear hI hS
  refine enterC (args := [_, _]) gok Tryd.func4 rfl _ rfl rfl rfl ?_
  obtain ⟨y3, e, hF4⟩ := bindS hF; clear hF
  have ey3 := e; clear e
  refine callF (laws_szMatrixS_c aM_ aM_h 1048576 y3 ey3) (Γi := []) H ⟨Vw.sh 0 rfl, trivial⟩ ?_; clear H ey3
  rintro _ _ w5 ⟨rfl, rfl⟩ (H : Cx w0 fp0 S0 w5 [Es (List (Int × List (List Int))) aM_ aM_h, Gl 0 [.int .i64 2, .int .i64 3, .int .i64 5, .int .i64 7]])
  refine sq ?_
  obtain ⟨a6, e, hF7⟩ := bindS hF4; clear hF4
  refine boolO e ?_; clear e
  cases a6
  · have hF8 := condF hF7; clear hF7
    obtain ⟨y9, e, hF10⟩ := bindS hF8; clear hF8
    have ey9 := e; clear e
    refine callF (laws_toMatrixS_c aM_ aM_h y9 ey9) (Γi := []) H ⟨Vw.sh 0 rfl, trivial⟩ ?_; clear H ey9
    rintro _ _ w11 ⟨h12, rfl, rfl⟩ (H : Cx w0 fp0 S0 w11 [E (List (Int × List (List Int))) y9 h12, Es (List (Int × List (List Int))) aM_ aM_h, Gl 0 [.int .i64 2, .int .i64 3, .int .i64 5, .int .i64 7]])
    obtain ⟨y14, e, hF15⟩ := bindS hF10; clear hF10
    obtain ⟨y14_0, y14_1⟩ := y14
    have ey14 := e; clear e
    refine callF (spec_HankelRank_c aP_ y9 h12 y14_0 y14_1 ey14) (Γi := []) H ⟨Vw.own 0 rfl, trivial⟩ ?_; clear H ey14
    rintro _ _ w16 ⟨rfl, rfl⟩ (H : Cx w0 fp0 S0 w16 [E (List (Int × List (List Int))) y9 h12, Es (List (Int × List (List Int))) aM_ aM_h, Gl 0 [.int .i64 2, .int .i64 3, .int .i64 5, .int .i64 7]])
    obtain ⟨y17, e, hF18⟩ := bindS hF15; clear hF15
    have ey17 := e; clear e
    refine callF (laws_toMatrixS_c aM_ aM_h y17 ey17) (Γi := []) H ⟨Vw.sh 1 rfl, trivial⟩ ?_; clear H ey17
    rintro _ _ w19 ⟨h20, rfl, rfl⟩ (H : Cx w0 fp0 S0 w19 [E (List (Int × List (List Int))) y17 h20, E (List (Int × List (List Int))) y9 h12, Es (List (Int × List (List Int))) aM_ aM_h, Gl 0 [.int .i64 2, .int .i64 3, .int .i64 5, .int .i64 7]])
    obtain ⟨y22, e, hF23⟩ := bindS hF18; clear hF18
    obtain ⟨y22_0, y22_1⟩ := y22
    have ey22 := e; clear e
    refine callF (impl_HankelRank_c aP_ y17 h20 y22_0 y22_1 ey22) (Γi := []) H ⟨Vw.own 0 rfl, Vw.gl 3 rfl, trivial⟩ ?_; clear H ey22
    rintro _ _ w24 ⟨rfl, rfl⟩ (H : Cx w0 fp0 S0 w24 [E (List (Int × List (List Int))) y17 h20, E (List (Int × List (List Int))) y9 h12, Es (List (Int × List (List Int))) aM_ aM_h, Gl 0 [.int .i64 2, .int .i64 3, .int .i64 5, .int .i64 7]])
    refine sq ?_
    obtain ⟨r33, hF35, hF34⟩ := bindS hF23; clear hF23
    refine cut (fun (q36 : Bool) => [(1, (aM_h).v), (8, (h20).v), (38, (.bool q36))]) (fun (q36 : Bool) w' => q36 = r33 ∧ Cx w0 fp0 S0 w' [Es (List (Int × List (List Int))) aM_ aM_h, E (List (Int × List (List Int))) y17 h20, Gl 0 [.int .i64 2, .int .i64 3, .int .i64 5, .int .i64 7]]) ?_ ?_
    · skip
      obtain ⟨a37, e, hF38⟩ := bindS hF35; clear hF35
      refine boolO e ?_; clear e
      cases a37
      · have hF39 := condF hF38; clear hF38
        obtain ⟨a40, e, hF41⟩ := bindS hF39; clear hF39
        refine boolO e ?_; clear e
        exact ⟨a40, ⟨rfl, rfl, rfl, trivial⟩, Option.some.inj hF41, H.sel [2, 0, 3] rfl⟩
      · have hF42 := condT hF38; clear hF38
        exact ⟨true, ⟨rfl, rfl, rfl, trivial⟩, Option.some.inj hF42, H.sel [2, 0, 3] rfl⟩
    · clear hF35 H
      rintro T44 s31 w43 ⟨hr, (H : Cx w0 fp0 S0 w43 [Es (List (Int × List (List Int))) aM_ aM_h, E (List (Int × List (List Int))) y17 h20, Gl 0 [.int .i64 2, .int .i64 3, .int .i64 5, .int .i64 7]])⟩
      subst hr
      cases s31
      · have hF45 := condF hF34; clear hF34
        refine sq ?_
        obtain ⟨y46, e, hF47⟩ := bindS hF45; clear hF45
        have ey46 := e; clear e
        refine callF (laws_toMatrixS_c aM_ aM_h y46 ey46) (Γi := []) H ⟨Vw.sh 0 rfl, trivial⟩ ?_; clear H ey46
        rintro _ _ w48 ⟨h49, rfl, rfl⟩ (H : Cx w0 fp0 S0 w48 [E (List (Int × List (List Int))) y46 h49, Es (List (Int × List (List Int))) aM_ aM_h, E (List (Int × List (List Int))) y17 h20, Gl 0 [.int .i64 2, .int .i64 3, .int .i64 5, .int .i64 7]])
        obtain ⟨y51, e, hF52⟩ := bindS hF47; clear hF47
        have ey51 := e; clear e
        refine callF (laws_eqMatrixS_c y17 h20 y46 h49 y51 ey51) (Γi := []) H ⟨Vw.own 2 rfl, Vw.own 0 rfl, trivial⟩ ?_; clear H ey51
        rintro _ _ w53 ⟨rfl, rfl⟩ (H : Cx w0 fp0 S0 w53 [E (List (Int × List (List Int))) y46 h49, Es (List (Int × List (List Int))) aM_ aM_h, E (List (Int × List (List Int))) y17 h20, Gl 0 [.int .i64 2, .int .i64 3, .int .i64 5, .int .i64 7]])
        obtain ⟨a54, e, hF55⟩ := bindS hF52; clear hF52
        refine boolO e ?_; clear e
        cases a54
        · have hF56 := condF hF55; clear hF55
          cases hF56
          exact ⟨_, _, rfl, ⟨rfl, rfl⟩, (H.sel [] rfl).close trivial⟩
        · have hF57 := condT hF55; clear hF55
          cases hF57
          exact ⟨_, _, rfl, ⟨rfl, rfl⟩, (H.sel [] rfl).close trivial⟩
      · have hF58 := condT hF34; clear hF34
        cases hF58
        exact ⟨_, _, rfl, ⟨rfl, rfl⟩, (H.sel [] rfl).close trivial⟩
  · have hF59 := condT hF7; clear hF7
    cases hF59
    exact ⟨_, _, rfl, ⟨rfl, rfl⟩, (H.sel [] rfl).close trivial⟩

theorem laws_szStateSpace_c (a__0 : Int) (a__1 : Int) (a__2 : Int) (a__3 : List (List Int)) (a__3h : Hd) (a__4 : List (List Int)) (a__4h : Hd) (a__5 : List (List Int)) (a__5h : Hd) (a__6 : List (List Int)) (a__6h : Hd) (left_ : Int) (y : Int) (hF : F_laws_szStateSpace (a__0, a__1, a__2, a__3, a__4, a__5, a__6) left_ = some y) :
    ConF Tryd.prog 14 #[(.agg #[(.int .i64 a__0), (.int .i64 a__1), (.int .i64 a__2), (a__3h).v, (a__4h).v, (a__5h).v, (a__6h).v]), (.int .i64 left_)] [Es (List (List Int)) a__3 a__3h, Es (List (List Int)) a__4 a__4h, Es (List (List Int)) a__5 a__5h, Es (List (List Int)) a__6 a__6h] [] (fun v Γ' => v = (.int .i64 y) ∧ Γ' = []) := by
  intro w0 S0 fp0 hI hS
  have H : Cx w0 fp0 S0 w0 [Es (List (List Int)) a__3 a__3h, Es (List (List Int)) a__4 a__4h, Es (List (List Int)) a__5 a__5h, Es (List (List Int)) a__6 a__6h] := Cx.start hI hS
  clear hI hS
  refine enterC (args := [_, _]) gok Tryd.func14 rfl _ rfl rfl rfl ?_
  refine box_ H ?_; clear H; intro b6 w5 hx H
  clear hx
  replace H : Cx w0 fp0 S0 w5 [Bx b6 [(.int .i64 a__0), (.int .i64 a__1), (.int .i64 a__2), (a__3h).v, (a__4h).v, (a__5h).v, (a__6h).v], Es (List (List Int)) a__3 a__3h, Es (List (List Int)) a__4 a__4h, Es (List (List Int)) a__5 a__5h, Es (List (List Int)) a__6 a__6h] := H
  refine fld gok rfl rfl rfl rfl ?_
  refine load1 (H.bx 0 rfl (j := 3) rfl) ?_
  obtain ⟨y8, e, hF9⟩ := bindS hF; clear hF
  have ey8 := e; clear e
  refine callF (laws_szIntSS_c a__3 a__3h left_ y8 ey8) (Γi := []) H ⟨Vw.sh 1 rfl, trivial⟩ ?_; clear H ey8
  rintro _ _ w10 ⟨rfl, rfl⟩ (H : Cx w0 fp0 S0 w10 [Bx b6 [(.int .i64 a__0), (.int .i64 a__1), (.int .i64 a__2), (a__3h).v, (a__4h).v, (a__5h).v, (a__6h).v], Es (List (List Int)) a__3 a__3h, Es (List (List Int)) a__4 a__4h, Es (List (List Int)) a__5 a__5h, Es (List (List Int)) a__6 a__6h])
  refine sq ?_
  obtain ⟨a11, e, hF12⟩ := bindS hF9; clear hF9
  refine boolO e ?_; clear e
  cases a11
  · have hF13 := condF hF12; clear hF12
    refine fld gok rfl rfl rfl rfl ?_
    refine load1 (H.bx 0 rfl (j := 4) rfl) ?_
    obtain ⟨y14, e, hF15⟩ := bindS hF13; clear hF13
    have ey14 := e; clear e
    refine callF (laws_szIntSS_c a__4 a__4h y8 y14 ey14) (Γi := []) H ⟨Vw.sh 2 rfl, trivial⟩ ?_; clear H ey14
    rintro _ _ w16 ⟨rfl, rfl⟩ (H : Cx w0 fp0 S0 w16 [Bx b6 [(.int .i64 a__0), (.int .i64 a__1), (.int .i64 a__2), (a__3h).v, (a__4h).v, (a__5h).v, (a__6h).v], Es (List (List Int)) a__3 a__3h, Es (List (List Int)) a__4 a__4h, Es (List (List Int)) a__5 a__5h, Es (List (List Int)) a__6 a__6h])
    refine sq ?_
    obtain ⟨a17, e, hF18⟩ := bindS hF15; clear hF15
    refine boolO e ?_; clear e
    cases a17
    · have hF19 := condF hF18; clear hF18
      refine fld gok rfl rfl rfl rfl ?_
      refine load1 (H.bx 0 rfl (j := 5) rfl) ?_
      obtain ⟨y20, e, hF21⟩ := bindS hF19; clear hF19
      have ey20 := e; clear e
      refine callF (laws_szIntSS_c a__5 a__5h y14 y20 ey20) (Γi := []) H ⟨Vw.sh 3 rfl, trivial⟩ ?_; clear H ey20
      rintro _ _ w22 ⟨rfl, rfl⟩ (H : Cx w0 fp0 S0 w22 [Bx b6 [(.int .i64 a__0), (.int .i64 a__1), (.int .i64 a__2), (a__3h).v, (a__4h).v, (a__5h).v, (a__6h).v], Es (List (List Int)) a__3 a__3h, Es (List (List Int)) a__4 a__4h, Es (List (List Int)) a__5 a__5h, Es (List (List Int)) a__6 a__6h])
      refine sq ?_
      obtain ⟨a23, e, hF24⟩ := bindS hF21; clear hF21
      refine boolO e ?_; clear e
      cases a23
      · have hF25 := condF hF24; clear hF24
        refine fld gok rfl rfl rfl rfl ?_
        refine load1 (H.bx 0 rfl (j := 6) rfl) ?_
        obtain ⟨y26, e, hF27⟩ := bindS hF25; clear hF25
        have ey26 := e; clear e
        refine callF (laws_szIntSS_c a__6 a__6h y20 y26 ey26) (Γi := []) H ⟨Vw.sh 4 rfl, trivial⟩ ?_; clear H ey26
        rintro _ _ w28 ⟨rfl, rfl⟩ (H : Cx w0 fp0 S0 w28 [Bx b6 [(.int .i64 a__0), (.int .i64 a__1), (.int .i64 a__2), (a__3h).v, (a__4h).v, (a__5h).v, (a__6h).v], Es (List (List Int)) a__3 a__3h, Es (List (List Int)) a__4 a__4h, Es (List (List Int)) a__5 a__5h, Es (List (List Int)) a__6 a__6h])
        refine sq ?_
        obtain ⟨a29, e, hF30⟩ := bindS hF27; clear hF27
        refine boolO e ?_; clear e
        cases a29
        · have hF31 := condF hF30; clear hF30
          cases hF31
          exact ⟨_, _, rfl, ⟨rfl, rfl⟩, (H.sel [] rfl).close trivial⟩
        · have hF32 := condT hF30; clear hF30
          cases hF32
          exact ⟨_, _, rfl, ⟨rfl, rfl⟩, (H.sel [] rfl).close trivial⟩
      · have hF33 := condT hF24; clear hF24
        cases hF33
        exact ⟨_, _, rfl, ⟨rfl, rfl⟩, (H.sel [] rfl).close trivial⟩
    · have hF34 := condT hF18; clear hF18
      cases hF34
      exact ⟨_, _, rfl, ⟨rfl, rfl⟩, (H.sel [] rfl).close trivial⟩
  · have hF35 := condT hF12; clear hF12
    cases hF35
    exact ⟨_, _, rfl, ⟨rfl, rfl⟩, (H.sel [] rfl).close trivial⟩

theorem laws_toStateSpace_c (a__0 : Int) (a__1 : Int) (a__2 : Int) (a__3 : List (List Int)) (a__3h : Hd) (a__4 : List (List Int)) (a__4h : Hd) (a__5 : List (List Int)) (a__5h : Hd) (a__6 : List (List Int)) (a__6h : Hd) (y_0 : Int) (y_1 : Int) (y_2 : Int) (y_3 : List (List Int)) (y_4 : List (List Int)) (y_5 : List (List Int)) (y_6 : List (List Int)) (hF : F_laws_toStateSpace (a__0, a__1, a__2, a__3, a__4, a__5, a__6) = some (y_0, y_1, y_2, y_3, y_4, y_5, y_6)) :
    ConF Tryd.prog 16 #[(.agg #[(.int .i64 a__0), (.int .i64 a__1), (.int .i64 a__2), (a__3h).v, (a__4h).v, (a__5h).v, (a__6h).v])] [Es (List (List Int)) a__3 a__3h, Es (List (List Int)) a__4 a__4h, Es (List (List Int)) a__5 a__5h, Es (List (List Int)) a__6 a__6h] [] (fun v Γ' => ∃ z0 z1 z2 z3 : Hd, v = (.agg #[(.int .i64 y_0), (.int .i64 y_1), (.int .i64 y_2), (z0).v, (z1).v, (z2).v, (z3).v]) ∧ Γ' = [E (List (List Int)) y_3 z0, E (List (List Int)) y_4 z1, E (List (List Int)) y_5 z2, E (List (List Int)) y_6 z3]) := by
  intro w0 S0 fp0 hI hS
  have H : Cx w0 fp0 S0 w0 [Es (List (List Int)) a__3 a__3h, Es (List (List Int)) a__4 a__4h, Es (List (List Int)) a__5 a__5h, Es (List (List Int)) a__6 a__6h] := Cx.start hI hS
  clear hI hS
  refine enterC (args := [_]) gok Tryd.func16 rfl _ rfl rfl rfl ?_
  refine box_ H ?_; clear H; intro b6 w5 hx H
  clear hx
  replace H : Cx w0 fp0 S0 w5 [Bx b6 [(.int .i64 a__0), (.int .i64 a__1), (.int .i64 a__2), (a__3h).v, (a__4h).v, (a__5h).v, (a__6h).v], Es (List (List Int)) a__3 a__3h, Es (List (List Int)) a__4 a__4h, Es (List (List Int)) a__5 a__5h, Es (List (List Int)) a__6 a__6h] := H
  refine alloc_ gok rfl H ?_; clear H; intro b9 w8 hx H
  clear hx
  replace H : Cx w0 fp0 S0 w8 [Bx b9 [(.int .i64 0), (.int .i64 0), (.int .i64 0), (.slice none 0 0), (.slice none 0 0), (.slice none 0 0), (.slice none 0 0)], Bx b6 [(.int .i64 a__0), (.int .i64 a__1), (.int .i64 a__2), (a__3h).v, (a__4h).v, (a__5h).v, (a__6h).v], Es (List (List Int)) a__3 a__3h, Es (List (List Int)) a__4 a__4h, Es (List (List Int)) a__5 a__5h, Es (List (List Int)) a__6 a__6h] := H
  refine alloc_ gok rfl H ?_; clear H; intro b12 w11 hx H
  clear hx
  replace H : Cx w0 fp0 S0 w11 [Bx b12 [(.int .i64 0), (.int .i64 0), (.int .i64 0), (.slice none 0 0), (.slice none 0 0), (.slice none 0 0), (.slice none 0 0)], Bx b9 [(.int .i64 0), (.int .i64 0), (.int .i64 0), (.slice none 0 0), (.slice none 0 0), (.slice none 0 0), (.slice none 0 0)], Bx b6 [(.int .i64 a__0), (.int .i64 a__1), (.int .i64 a__2), (a__3h).v, (a__4h).v, (a__5h).v, (a__6h).v], Es (List (List Int)) a__3 a__3h, Es (List (List Int)) a__4 a__4h, Es (List (List Int)) a__5 a__5h, Es (List (List Int)) a__6 a__6h] := H
  refine fld gok rfl rfl rfl rfl ?_
  refine load1 (H.bx 2 rfl (j := 0) rfl) ?_
  refine fld gok rfl rfl rfl rfl ?_
  refine stB (j := 0) H rfl rfl ?_; clear H; intro w14 H
  replace H : Cx w0 fp0 S0 w14 [Bx b12 [(.int .i64 a__0), (.int .i64 0), (.int .i64 0), (.slice none 0 0), (.slice none 0 0), (.slice none 0 0), (.slice none 0 0)], Bx b9 [(.int .i64 0), (.int .i64 0), (.int .i64 0), (.slice none 0 0), (.slice none 0 0), (.slice none 0 0), (.slice none 0 0)], Bx b6 [(.int .i64 a__0), (.int .i64 a__1), (.int .i64 a__2), (a__3h).v, (a__4h).v, (a__5h).v, (a__6h).v], Es (List (List Int)) a__3 a__3h, Es (List (List Int)) a__4 a__4h, Es (List (List Int)) a__5 a__5h, Es (List (List Int)) a__6 a__6h] := H
  refine fld gok rfl rfl rfl rfl ?_
  refine load1 (H.bx 2 rfl (j := 1) rfl) ?_
  refine fld gok rfl rfl rfl rfl ?_
  refine stB (j := 1) H rfl rfl ?_; clear H; intro w15 H
  replace H : Cx w0 fp0 S0 w15 [Bx b12 [(.int .i64 a__0), (.int .i64 a__1), (.int .i64 0), (.slice none 0 0), (.slice none 0 0), (.slice none 0 0), (.slice none 0 0)], Bx b9 [(.int .i64 0), (.int .i64 0), (.int .i64 0), (.slice none 0 0), (.slice none 0 0), (.slice none 0 0), (.slice none 0 0)], Bx b6 [(.int .i64 a__0), (.int .i64 a__1), (.int .i64 a__2), (a__3h).v, (a__4h).v, (a__5h).v, (a__6h).v], Es (List (List Int)) a__3 a__3h, Es (List (List Int)) a__4 a__4h, Es (List (List Int)) a__5 a__5h, Es (List (List Int)) a__6 a__6h] := H
  refine fld gok rfl rfl rfl rfl ?_
  refine load1 (H.bx 2 rfl (j := 2) rfl) ?_
  refine fld gok rfl rfl rfl rfl ?_
  refine stB (j := 2) H rfl rfl ?_; clear H; intro w16 H
  replace H : Cx w0 fp0 S0 w16 [Bx b12 [(.int .i64 a__0), (.int .i64 a__1), (.int .i64 a__2), (.slice none 0 0), (.slice none 0 0), (.slice none 0 0), (.slice none 0 0)], Bx b9 [(.int .i64 0), (.int .i64 0), (.int .i64 0), (.slice none 0 0), (.slice none 0 0), (.slice none 0 0), (.slice none 0 0)], Bx b6 [(.int .i64 a__0), (.int .i64 a__1), (.int .i64 a__2), (a__3h).v, (a__4h).v, (a__5h).v, (a__6h).v], Es (List (List Int)) a__3 a__3h, Es (List (List Int)) a__4 a__4h, Es (List (List Int)) a__5 a__5h, Es (List (List Int)) a__6 a__6h] := H
  refine fld gok rfl rfl rfl rfl ?_
  refine load1 (H.bx 2 rfl (j := 3) rfl) ?_
  obtain ⟨y17, e, hF18⟩ := bindS hF; clear hF
  have ey17 := e; clear e
  refine callF (laws_toIntSS_c a__3 a__3h y17 ey17) (Γi := []) H ⟨Vw.sh 3 rfl, trivial⟩ ?_; clear H ey17
  rintro _ _ w19 ⟨h20, rfl, rfl⟩ (H : Cx w0 fp0 S0 w19 [E (List (List Int)) y17 h20, Bx b12 [(.int .i64 a__0), (.int .i64 a__1), (.int .i64 a__2), (.slice none 0 0), (.slice none 0 0), (.slice none 0 0), (.slice none 0 0)], Bx b9 [(.int .i64 0), (.int .i64 0), (.int .i64 0), (.slice none 0 0), (.slice none 0 0), (.slice none 0 0), (.slice none 0 0)], Bx b6 [(.int .i64 a__0), (.int .i64 a__1), (.int .i64 a__2), (a__3h).v, (a__4h).v, (a__5h).v, (a__6h).v], Es (List (List Int)) a__3 a__3h, Es (List (List Int)) a__4 a__4h, Es (List (List Int)) a__5 a__5h, Es (List (List Int)) a__6 a__6h])
  refine fld gok rfl rfl rfl rfl ?_
  replace H := H.sel [1, 0, 2, 3, 4, 5, 6, 7] rfl
  refine stB (j := 3) H rfl rfl ?_; clear H; intro w22 H
  replace H : Cx w0 fp0 S0 w22 [Bx b12 [(.int .i64 a__0), (.int .i64 a__1), (.int .i64 a__2), (h20).v, (.slice none 0 0), (.slice none 0 0), (.slice none 0 0)], E (List (List Int)) y17 h20, Bx b9 [(.int .i64 0), (.int .i64 0), (.int .i64 0), (.slice none 0 0), (.slice none 0 0), (.slice none 0 0), (.slice none 0 0)], Bx b6 [(.int .i64 a__0), (.int .i64 a__1), (.int .i64 a__2), (a__3h).v, (a__4h).v, (a__5h).v, (a__6h).v], Es (List (List Int)) a__3 a__3h, Es (List (List Int)) a__4 a__4h, Es (List (List Int)) a__5 a__5h, Es (List (List Int)) a__6 a__6h] := H
  refine fld gok rfl rfl rfl rfl ?_
  refine load1 (H.bx 3 rfl (j := 4) rfl) ?_
  obtain ⟨y23, e, hF24⟩ := bindS hF18; clear hF18
  have ey23 := e; clear e
  refine callF (laws_toIntSS_c a__4 a__4h y23 ey23) (Γi := []) H ⟨Vw.sh 5 rfl, trivial⟩ ?_; clear H ey23
  rintro _ _ w25 ⟨h26, rfl, rfl⟩ (H : Cx w0 fp0 S0 w25 [E (List (List Int)) y23 h26, Bx b12 [(.int .i64 a__0), (.int .i64 a__1), (.int .i64 a__2), (h20).v, (.slice none 0 0), (.slice none 0 0), (.slice none 0 0)], E (List (List Int)) y17 h20, Bx b9 [(.int .i64 0), (.int .i64 0), (.int .i64 0), (.slice none 0 0), (.slice none 0 0), (.slice none 0 0), (.slice none 0 0)], Bx b6 [(.int .i64 a__0), (.int .i64 a__1), (.int .i64 a__2), (a__3h).v, (a__4h).v, (a__5h).v, (a__6h).v], Es (List (List Int)) a__3 a__3h, Es (List (List Int)) a__4 a__4h, Es (List (List Int)) a__5 a__5h, Es (List (List Int)) a__6 a__6h])
  refine fld gok rfl rfl rfl rfl ?_
  replace H := H.sel [1, 0, 2, 3, 4, 5, 6, 7, 8] rfl
  refine stB (j := 4) H rfl rfl ?_; clear H; intro w28 H
  replace H : Cx w0 fp0 S0 w28 [Bx b12 [(.int .i64 a__0), (.int .i64 a__1), (.int .i64 a__2), (h20).v, (h26).v, (.slice none 0 0), (.slice none 0 0)], E (List (List Int)) y23 h26, E (List (List Int)) y17 h20, Bx b9 [(.int .i64 0), (.int .i64 0), (.int .i64 0), (.slice none 0 0), (.slice none 0 0), (.slice none 0 0), (.slice none 0 0)], Bx b6 [(.int .i64 a__0), (.int .i64 a__1), (.int .i64 a__2), (a__3h).v, (a__4h).v, (a__5h).v, (a__6h).v], Es (List (List Int)) a__3 a__3h, Es (List (List Int)) a__4 a__4h, Es (List (List Int)) a__5 a__5h, Es (List (List Int)) a__6 a__6h] := H
  refine fld gok rfl rfl rfl rfl ?_
  refine load1 (H.bx 4 rfl (j := 5) rfl) ?_
  obtain ⟨y29, e, hF30⟩ := bindS hF24; clear hF24
  have ey29 := e; clear e
  refine callF (laws_toIntSS_c a__5 a__5h y29 ey29) (Γi := []) H ⟨Vw.sh 7 rfl, trivial⟩ ?_; clear H ey29
  rintro _ _ w31 ⟨h32, rfl, rfl⟩ (H : Cx w0 fp0 S0 w31 [E (List (List Int)) y29 h32, Bx b12 [(.int .i64 a__0), (.int .i64 a__1), (.int .i64 a__2), (h20).v, (h26).v, (.slice none 0 0), (.slice none 0 0)], E (List (List Int)) y23 h26, E (List (List Int)) y17 h20, Bx b9 [(.int .i64 0), (.int .i64 0), (.int .i64 0), (.slice none 0 0), (.slice none 0 0), (.slice none 0 0), (.slice none 0 0)], Bx b6 [(.int .i64 a__0), (.int .i64 a__1), (.int .i64 a__2), (a__3h).v, (a__4h).v, (a__5h).v, (a__6h).v], Es (List (List Int)) a__3 a__3h, Es (List (List Int)) a__4 a__4h, Es (List (List Int)) a__5 a__5h, Es (List (List Int)) a__6 a__6h])
  refine fld gok rfl rfl rfl rfl ?_
  replace H := H.sel [1, 0, 2, 3, 4, 5, 6, 7, 8, 9] rfl
  refine stB (j := 5) H rfl rfl ?_; clear H; intro w34 H
  replace H : Cx w0 fp0 S0 w34 [Bx b12 [(.int .i64 a__0), (.int .i64 a__1), (.int .i64 a__2), (h20).v, (h26).v, (h32).v, (.slice none 0 0)], E (List (List Int)) y29 h32, E (List (List Int)) y23 h26, E (List (List Int)) y17 h20, Bx b9 [(.int .i64 0), (.int .i64 0), (.int .i64 0), (.slice none 0 0), (.slice none 0 0), (.slice none 0 0), (.slice none 0 0)], Bx b6 [(.int .i64 a__0), (.int .i64 a__1), (.int .i64 a__2), (a__3h).v, (a__4h).v, (a__5h).v, (a__6h).v], Es (List (List Int)) a__3 a__3h, Es (List (List Int)) a__4 a__4h, Es (List (List Int)) a__5 a__5h, Es (List (List Int)) a__6 a__6h] := H
  refine fld gok rfl rfl rfl rfl ?_
  refine load1 (H.bx 5 rfl (j := 6) rfl) ?_
  obtain ⟨y35, e, hF36⟩ := bindS hF30; clear hF30
  have ey35 := e; clear e
  refine callF (laws_toIntSS_c a__6 a__6h y35 ey35) (Γi := []) H ⟨Vw.sh 9 rfl, trivial⟩ ?_; clear H ey35
  rintro _ _ w37 ⟨h38, rfl, rfl⟩ (H : Cx w0 fp0 S0 w37 [E (List (List Int)) y35 h38, Bx b12 [(.int .i64 a__0), (.int .i64 a__1), (.int .i64 a__2), (h20).v, (h26).v, (h32).v, (.slice none 0 0)], E (List (List Int)) y29 h32, E (List (List Int)) y23 h26, E (List (List Int)) y17 h20, Bx b9 [(.int .i64 0), (.int .i64 0), (.int .i64 0), (.slice none 0 0), (.slice none 0 0), (.slice none 0 0), (.slice none 0 0)], Bx b6 [(.int .i64 a__0), (.int .i64 a__1), (.int .i64 a__2), (a__3h).v, (a__4h).v, (a__5h).v, (a__6h).v], Es (List (List Int)) a__3 a__3h, Es (List (List Int)) a__4 a__4h, Es (List (List Int)) a__5 a__5h, Es (List (List Int)) a__6 a__6h])
  refine fld gok rfl rfl rfl rfl ?_
  replace H := H.sel [1, 0, 2, 3, 4, 5, 6, 7, 8, 9, 10] rfl
  refine stB (j := 6) H rfl rfl ?_; clear H; intro w40 H
  replace H : Cx w0 fp0 S0 w40 [Bx b12 [(.int .i64 a__0), (.int .i64 a__1), (.int .i64 a__2), (h20).v, (h26).v, (h32).v, (h38).v], E (List (List Int)) y35 h38, E (List (List Int)) y29 h32, E (List (List Int)) y23 h26, E (List (List Int)) y17 h20, Bx b9 [(.int .i64 0), (.int .i64 0), (.int .i64 0), (.slice none 0 0), (.slice none 0 0), (.slice none 0 0), (.slice none 0 0)], Bx b6 [(.int .i64 a__0), (.int .i64 a__1), (.int .i64 a__2), (a__3h).v, (a__4h).v, (a__5h).v, (a__6h).v], Es (List (List Int)) a__3 a__3h, Es (List (List Int)) a__4 a__4h, Es (List (List Int)) a__5 a__5h, Es (List (List Int)) a__6 a__6h] := H
  refine loadN [(.int .i64 a__0), (.int .i64 a__1), (.int .i64 a__2), (h20).v, (h26).v, (h32).v, (h38).v] rfl (fun j u hj => H.bx 0 rfl hj) ?_
  replace H := H.sel [5, 0, 1, 2, 3, 4, 6, 7, 8, 9, 10] rfl
  refine stA gok [(.int .i64 a__0), (.int .i64 a__1), (.int .i64 a__2), (h20).v, (h26).v, (h32).v, (h38).v] rfl H rfl rfl rfl ?_; clear H; intro w41 H
  replace H : Cx w0 fp0 S0 w41 [Bx b9 [(.int .i64 a__0), (.int .i64 a__1), (.int .i64 a__2), (h20).v, (h26).v, (h32).v, (h38).v], Bx b12 [(.int .i64 a__0), (.int .i64 a__1), (.int .i64 a__2), (h20).v, (h26).v, (h32).v, (h38).v], E (List (List Int)) y35 h38, E (List (List Int)) y29 h32, E (List (List Int)) y23 h26, E (List (List Int)) y17 h20, Bx b6 [(.int .i64 a__0), (.int .i64 a__1), (.int .i64 a__2), (a__3h).v, (a__4h).v, (a__5h).v, (a__6h).v], Es (List (List Int)) a__3 a__3h, Es (List (List Int)) a__4 a__4h, Es (List (List Int)) a__5 a__5h, Es (List (List Int)) a__6 a__6h] := H
  refine loadN [(.int .i64 a__0), (.int .i64 a__1), (.int .i64 a__2), (h20).v, (h26).v, (h32).v, (h38).v] rfl (fun j u hj => H.bx 0 rfl hj) ?_
  cases hF36
  exact ⟨_, _, rfl, ⟨h20, h26, h32, h38, rfl, rfl⟩, (H.sel [5, 4, 3, 2] rfl).close ⟨cloE, cloE, cloE, cloE, trivial⟩⟩

theorem spec_spRows_c (p_ : Int) (size_ : Int) (rows_ : List (List Int)) (rows_h : Hd) (y : Bool) (hF : F_spec_spRows p_ size_ rows_ = some y) :
    ConF Tryd.prog 151 #[(.int .i64 p_), (.int .i64 size_), (rows_h).v] [Es (List (List Int)) rows_ rows_h] [] (fun v Γ' => v = (.bool y) ∧ Γ' = []) := by
  intro w0 S0 fp0 hI hS
  have H : Cx w0 fp0 S0 w0 [Es (List (List Int)) rows_ rows_h] := Cx.start hI hS
  clear hI hS
  refine enterC (args := [_, _, _]) gok Tryd.func151 rfl _ rfl rfl rfl ?_
  refine sq ?_
  refine lenE (H.rs (α := List (List Int)) 0 rfl).len ?_
  have hmx45 := (H.rs (α := List (List Int)) 0 rfl).max
  obtain ⟨r46, e, hF47⟩ := bindS hF; clear hF
  refine loopO _ rows_.length (fun (k2 : Nat) (_ : Unit) (_ : Unit) => [(0, (.int .i64 p_)), (1, (.int .i64 size_)), (9, (rows_h).v), (10, (.int .i64 ((rows_.length : Nat) : Int))), (11, (.int .i64 ((k2 : Nat) : Int)))]) (fun _ (_ : Unit) (_ : Unit) w' => Cx w0 fp0 S0 w' [Es (List (List Int)) rows_ rows_h]) () () e ⟨rfl, rfl, rfl, rfl, rfl, trivial⟩ (H.sel [0] rfl) ?_ ?_
  · clear H e
    rintro T49 k2 _ _ w48 o50 hk (H : Cx w0 fp0 S0 w48 [Es (List (List Int)) rows_ rows_h]) hrt hF51
    refine boolE (z := true) (ltLen hk) ?_
    refine sq ?_
    refine sq ?_
    obtain ⟨a58, e, hF59⟩ := bindS hF51; clear hF51
    have HH := H; clear H; obtain ⟨p56, m57, h60, c52, c53, c54, c55, H⟩ := HH.elL 0 rfl e; clear HH
    clear e
    refine idxE c52 c53 c54 ?_; clear c52 c53 c54
    refine load1 c55 ?_; clear c55
    obtain ⟨r73, hF75, hF74⟩ := bindS hF59; clear hF59
    refine cut (fun (q76 : Bool) => [(0, (.int .i64 p_)), (1, (.int .i64 size_)), (9, (rows_h).v), (10, (.int .i64 ((rows_.length : Nat) : Int))), (11, (.int .i64 ((k2 : Nat) : Int))), (24, (.bool q76))]) (fun (q76 : Bool) w' => q76 = r73 ∧ Cx w0 fp0 S0 w' [Es (List (List Int)) rows_ rows_h]) ?_ ?_
    · skip
      refine lenE (H.rs (α := List Int) 0 rfl).len ?_
      obtain ⟨a77, e, hF78⟩ := bindS hF75; clear hF75
      refine boolO e ?_; clear e
      cases a77
      · have hF79 := condF hF78; clear hF78
        obtain ⟨y80, e, hF81⟩ := bindS hF79; clear hF79
        have ey80 := e; clear e
        refine callF (spec_fdIn_c p_ a58 h60 y80 ey80) (Γi := []) H ⟨Vw.sh 0 rfl, trivial⟩ ?_; clear H ey80
        rintro _ _ w82 ⟨rfl, rfl⟩ (H : Cx w0 fp0 S0 w82 [Es (List Int) a58 h60, Es (List (List Int)) rows_ rows_h])
        obtain ⟨a83, e, hF84⟩ := bindS hF81; clear hF81
        refine boolO e ?_; clear e
        exact ⟨a83, ⟨rfl, rfl, rfl, rfl, rfl, rfl, trivial⟩, Option.some.inj hF84, H.sel [1] rfl⟩
      · have hF85 := condT hF78; clear hF78
        exact ⟨true, ⟨rfl, rfl, rfl, rfl, rfl, rfl, trivial⟩, Option.some.inj hF85, H.sel [1] rfl⟩
    · clear hF75 H
      rintro T87 s71 w86 ⟨hr, (H : Cx w0 fp0 S0 w86 [Es (List (List Int)) rows_ rows_h])⟩
      subst hr
      cases s71
      · have hF88 := condF hF74; clear hF74
        refine arK hk hmx45 ?_
        have hs := Option.some.inj hF88; subst hs; clear hF88
        exact ⟨(), (), rfl, ⟨rfl, rfl, rfl, rfl, rfl, trivial⟩, H.sel [0] rfl⟩
      · have hF89 := condT hF74; clear hF74
        have hs := Option.some.inj hF89; subst hs; clear hF89
        have hr := hrt _ rfl; subst hr
        have hF90 : some _ = some _ := hF47
        cases hF90
        exact ⟨_, _, rfl, ⟨rfl, rfl⟩, (H.sel [] rfl).close trivial⟩
  · clear H e
    rintro T92 _ _ w91 hr (H : Cx w0 fp0 S0 w91 [Es (List (List Int)) rows_ rows_h])
    subst hr
    refine boolE (z := false) geLen ?_
    refine sq ?_
    cases hF47
    exact ⟨_, _, rfl, ⟨rfl, rfl⟩, (H.sel [] rfl).close trivial⟩

theorem spec_ssTable_c (p_ : Int) (rows_ : Int) (cols_ : Int) (m_ : List (List Int)) (m_h : Hd) (y : Bool) (hF : F_spec_ssTable p_ rows_ cols_ m_ = some y) :
    ConF Tryd.prog 123 #[(.int .i64 p_), (.int .i64 rows_), (.int .i64 cols_), (m_h).v] [Es (List (List Int)) m_ m_h] [] (fun v Γ' => v = (.bool y) ∧ Γ' = []) := by
  intro w0 S0 fp0 hI hS
  have H : Cx w0 fp0 S0 w0 [Es (List (List Int)) m_ m_h] := Cx.start hI hS
  clear hI hS
  refine enterC (args := [_, _, _, _]) gok Tryd.func123 rfl _ rfl rfl rfl ?_
  obtain ⟨r11, hF13, hF12⟩ := bindS hF; clear hF
  refine cut (fun (q14 : Bool) => [(8, (.bool q14))]) (fun (q14 : Bool) w' => q14 = r11 ∧ Cx w0 fp0 S0 w' []) ?_ ?_
  · skip
    refine lenE (H.rs (α := List (List Int)) 0 rfl).len ?_
    obtain ⟨a15, e, hF16⟩ := bindS hF13; clear hF13
    refine boolO e ?_; clear e
    cases a15
    · have hF17 := condF hF16; clear hF16
      exact ⟨false, ⟨rfl, trivial⟩, Option.some.inj hF17, H.sel [] rfl⟩
    · have hF18 := condT hF16; clear hF16
      obtain ⟨y19, e, hF20⟩ := bindS hF18; clear hF18
      have ey19 := e; clear e
      refine callF (spec_spRows_c p_ cols_ m_ m_h y19 ey19) (Γi := []) H ⟨Vw.sh 0 rfl, trivial⟩ ?_; clear H ey19
      rintro _ _ w21 ⟨rfl, rfl⟩ (H : Cx w0 fp0 S0 w21 [Es (List (List Int)) m_ m_h])
      exact ⟨y19, ⟨rfl, trivial⟩, Option.some.inj hF20, H.sel [] rfl⟩
  · clear hF13 H
    rintro T23 s9 w22 ⟨hr, (H : Cx w0 fp0 S0 w22 [])⟩
    subst hr
    cases hF12
    exact ⟨_, _, rfl, ⟨rfl, rfl⟩, (H.sel [] rfl).close trivial⟩

theorem spec_ssGood_c (p_ : Int) (s__0 : Int) (s__1 : Int) (s__2 : Int) (s__3 : List (List Int)) (s__3h : Hd) (s__4 : List (List Int)) (s__4h : Hd) (s__5 : List (List Int)) (s__5h : Hd) (s__6 : List (List Int)) (s__6h : Hd) (y : Bool) (hF : F_spec_ssGood p_ (s__0, s__1, s__2, s__3, s__4, s__5, s__6) = some y) :
    ConF Tryd.prog 74 #[(.int .i64 p_), (.agg #[(.int .i64 s__0), (.int .i64 s__1), (.int .i64 s__2), (s__3h).v, (s__4h).v, (s__5h).v, (s__6h).v])] [Es (List (List Int)) s__3 s__3h, Es (List (List Int)) s__4 s__4h, Es (List (List Int)) s__5 s__5h, Es (List (List Int)) s__6 s__6h] [] (fun v Γ' => v = (.bool y) ∧ Γ' = []) := by
  intro w0 S0 fp0 hI hS
  have H : Cx w0 fp0 S0 w0 [Es (List (List Int)) s__3 s__3h, Es (List (List Int)) s__4 s__4h, Es (List (List Int)) s__5 s__5h, Es (List (List Int)) s__6 s__6h] := Cx.start hI hS
  clear hI hS
  refine enterC (args := [_, _]) gok Tryd.func74 rfl _ rfl rfl rfl ?_
  refine box_ H ?_; clear H; intro b6 w5 hx H
  clear hx
  replace H : Cx w0 fp0 S0 w5 [Bx b6 [(.int .i64 s__0), (.int .i64 s__1), (.int .i64 s__2), (s__3h).v, (s__4h).v, (s__5h).v, (s__6h).v], Es (List (List Int)) s__3 s__3h, Es (List (List Int)) s__4 s__4h, Es (List (List Int)) s__5 s__5h, Es (List (List Int)) s__6 s__6h] := H
  obtain ⟨r48, hF50, hF49⟩ := bindS hF; clear hF
  refine cut (fun (q51 : Bool) => [(4, (.bool q51))]) (fun (q51 : Bool) w' => q51 = r48 ∧ Cx w0 fp0 S0 w' []) ?_ ?_
  · skip
    obtain ⟨y52, e, hF53⟩ := bindS hF50; clear hF50
    have ey52 := e; clear e
    refine callF (spec_fdGood_c p_ y52 ey52) (Γi := []) H trivial ?_; clear H ey52
    rintro _ _ w54 ⟨rfl, rfl⟩ (H : Cx w0 fp0 S0 w54 [Bx b6 [(.int .i64 s__0), (.int .i64 s__1), (.int .i64 s__2), (s__3h).v, (s__4h).v, (s__5h).v, (s__6h).v], Es (List (List Int)) s__3 s__3h, Es (List (List Int)) s__4 s__4h, Es (List (List Int)) s__5 s__5h, Es (List (List Int)) s__6 s__6h])
    cases y52
    · have hF55 := condF hF53; clear hF53
      exact ⟨false, ⟨rfl, trivial⟩, Option.some.inj hF55, H.sel [] rfl⟩
    · have hF56 := condT hF53; clear hF53
      refine fld gok rfl rfl rfl rfl ?_
      refine load1 (H.bx 0 rfl (j := 0) rfl) ?_
      obtain ⟨y57, e, hF58⟩ := bindS hF56; clear hF56
      have ey57 := e; clear e
      refine callF (spec_l1In_c s__0 0 24 y57 ey57) (Γi := []) H trivial ?_; clear H ey57
      rintro _ _ w59 ⟨rfl, rfl⟩ (H : Cx w0 fp0 S0 w59 [Bx b6 [(.int .i64 s__0), (.int .i64 s__1), (.int .i64 s__2), (s__3h).v, (s__4h).v, (s__5h).v, (s__6h).v], Es (List (List Int)) s__3 s__3h, Es (List (List Int)) s__4 s__4h, Es (List (List Int)) s__5 s__5h, Es (List (List Int)) s__6 s__6h])
      cases y57
      · have hF60 := condF hF58; clear hF58
        exact ⟨false, ⟨rfl, trivial⟩, Option.some.inj hF60, H.sel [] rfl⟩
      · have hF61 := condT hF58; clear hF58
        refine fld gok rfl rfl rfl rfl ?_
        refine load1 (H.bx 0 rfl (j := 1) rfl) ?_
        obtain ⟨y62, e, hF63⟩ := bindS hF61; clear hF61
        have ey62 := e; clear e
        refine callF (spec_l1In_c s__1 0 8 y62 ey62) (Γi := []) H trivial ?_; clear H ey62
        rintro _ _ w64 ⟨rfl, rfl⟩ (H : Cx w0 fp0 S0 w64 [Bx b6 [(.int .i64 s__0), (.int .i64 s__1), (.int .i64 s__2), (s__3h).v, (s__4h).v, (s__5h).v, (s__6h).v], Es (List (List Int)) s__3 s__3h, Es (List (List Int)) s__4 s__4h, Es (List (List Int)) s__5 s__5h, Es (List (List Int)) s__6 s__6h])
        cases y62
        · have hF65 := condF hF63; clear hF63
          exact ⟨false, ⟨rfl, trivial⟩, Option.some.inj hF65, H.sel [] rfl⟩
        · have hF66 := condT hF63; clear hF63
          refine fld gok rfl rfl rfl rfl ?_
          refine load1 (H.bx 0 rfl (j := 2) rfl) ?_
          obtain ⟨y67, e, hF68⟩ := bindS hF66; clear hF66
          have ey67 := e; clear e
          refine callF (spec_l1In_c s__2 0 8 y67 ey67) (Γi := []) H trivial ?_; clear H ey67
          rintro _ _ w69 ⟨rfl, rfl⟩ (H : Cx w0 fp0 S0 w69 [Bx b6 [(.int .i64 s__0), (.int .i64 s__1), (.int .i64 s__2), (s__3h).v, (s__4h).v, (s__5h).v, (s__6h).v], Es (List (List Int)) s__3 s__3h, Es (List (List Int)) s__4 s__4h, Es (List (List Int)) s__5 s__5h, Es (List (List Int)) s__6 s__6h])
          cases y67
          · have hF70 := condF hF68; clear hF68
            exact ⟨false, ⟨rfl, trivial⟩, Option.some.inj hF70, H.sel [] rfl⟩
          · have hF71 := condT hF68; clear hF68
            refine fld gok rfl rfl rfl rfl ?_
            refine load1 (H.bx 0 rfl (j := 0) rfl) ?_
            refine fld gok rfl rfl rfl rfl ?_
            refine load1 (H.bx 0 rfl (j := 0) rfl) ?_
            refine fld gok rfl rfl rfl rfl ?_
            refine load1 (H.bx 0 rfl (j := 3) rfl) ?_
            obtain ⟨y72, e, hF73⟩ := bindS hF71; clear hF71
            have ey72 := e; clear e
            refine callF (spec_ssTable_c p_ s__0 s__0 s__3 s__3h y72 ey72) (Γi := []) H ⟨Vw.sh 1 rfl, trivial⟩ ?_; clear H ey72
            rintro _ _ w74 ⟨rfl, rfl⟩ (H : Cx w0 fp0 S0 w74 [Bx b6 [(.int .i64 s__0), (.int .i64 s__1), (.int .i64 s__2), (s__3h).v, (s__4h).v, (s__5h).v, (s__6h).v], Es (List (List Int)) s__3 s__3h, Es (List (List Int)) s__4 s__4h, Es (List (List Int)) s__5 s__5h, Es (List (List Int)) s__6 s__6h])
            cases y72
            · have hF75 := condF hF73; clear hF73
              exact ⟨false, ⟨rfl, trivial⟩, Option.some.inj hF75, H.sel [] rfl⟩
            · have hF76 := condT hF73; clear hF73
              refine fld gok rfl rfl rfl rfl ?_
              refine load1 (H.bx 0 rfl (j := 1) rfl) ?_
              refine fld gok rfl rfl rfl rfl ?_
              refine load1 (H.bx 0 rfl (j := 0) rfl) ?_
              refine fld gok rfl rfl rfl rfl ?_
              refine load1 (H.bx 0 rfl (j := 4) rfl) ?_
              obtain ⟨y77, e, hF78⟩ := bindS hF76; clear hF76
              have ey77 := e; clear e
              refine callF (spec_ssTable_c p_ s__1 s__0 s__4 s__4h y77 ey77) (Γi := []) H ⟨Vw.sh 2 rfl, trivial⟩ ?_; clear H ey77
              rintro _ _ w79 ⟨rfl, rfl⟩ (H : Cx w0 fp0 S0 w79 [Bx b6 [(.int .i64 s__0), (.int .i64 s__1), (.int .i64 s__2), (s__3h).v, (s__4h).v, (s__5h).v, (s__6h).v], Es (List (List Int)) s__3 s__3h, Es (List (List Int)) s__4 s__4h, Es (List (List Int)) s__5 s__5h, Es (List (List Int)) s__6 s__6h])
              cases y77
              · have hF80 := condF hF78; clear hF78
                exact ⟨false, ⟨rfl, trivial⟩, Option.some.inj hF80, H.sel [] rfl⟩
              · have hF81 := condT hF78; clear hF78
                refine fld gok rfl rfl rfl rfl ?_
                refine load1 (H.bx 0 rfl (j := 0) rfl) ?_
                refine fld gok rfl rfl rfl rfl ?_
                refine load1 (H.bx 0 rfl (j := 2) rfl) ?_
                refine fld gok rfl rfl rfl rfl ?_
                refine load1 (H.bx 0 rfl (j := 5) rfl) ?_
                obtain ⟨y82, e, hF83⟩ := bindS hF81; clear hF81
                have ey82 := e; clear e
                refine callF (spec_ssTable_c p_ s__0 s__2 s__5 s__5h y82 ey82) (Γi := []) H ⟨Vw.sh 3 rfl, trivial⟩ ?_; clear H ey82
                rintro _ _ w84 ⟨rfl, rfl⟩ (H : Cx w0 fp0 S0 w84 [Bx b6 [(.int .i64 s__0), (.int .i64 s__1), (.int .i64 s__2), (s__3h).v, (s__4h).v, (s__5h).v, (s__6h).v], Es (List (List Int)) s__3 s__3h, Es (List (List Int)) s__4 s__4h, Es (List (List Int)) s__5 s__5h, Es (List (List Int)) s__6 s__6h])
                cases y82
                · have hF85 := condF hF83; clear hF83
                  exact ⟨false, ⟨rfl, trivial⟩, Option.some.inj hF85, H.sel [] rfl⟩
                · have hF86 := condT hF83; clear hF83
                  refine fld gok rfl rfl rfl rfl ?_
                  refine load1 (H.bx 0 rfl (j := 1) rfl) ?_
                  refine fld gok rfl rfl rfl rfl ?_
                  refine load1 (H.bx 0 rfl (j := 2) rfl) ?_
                  refine fld gok rfl rfl rfl rfl ?_
                  refine load1 (H.bx 0 rfl (j := 6) rfl) ?_
                  obtain ⟨y87, e, hF88⟩ := bindS hF86; clear hF86
                  have ey87 := e; clear e
                  refine callF (spec_ssTable_c p_ s__1 s__2 s__6 s__6h y87 ey87) (Γi := []) H ⟨Vw.sh 4 rfl, trivial⟩ ?_; clear H ey87
                  rintro _ _ w89 ⟨rfl, rfl⟩ (H : Cx w0 fp0 S0 w89 [Bx b6 [(.int .i64 s__0), (.int .i64 s__1), (.int .i64 s__2), (s__3h).v, (s__4h).v, (s__5h).v, (s__6h).v], Es (List (List Int)) s__3 s__3h, Es (List (List Int)) s__4 s__4h, Es (List (List Int)) s__5 s__5h, Es (List (List Int)) s__6 s__6h])
                  exact ⟨y87, ⟨rfl, trivial⟩, Option.some.inj hF88, H.sel [] rfl⟩
  · clear hF50 H
    rintro T91 s46 w90 ⟨hr, (H : Cx w0 fp0 S0 w90 [])⟩
    subst hr
    cases hF49
    exact ⟨_, _, rfl, ⟨rfl, rfl⟩, (H.sel [] rfl).close trivial⟩

theorem spec_ssCopy_c (m_ : List (List Int)) (m_h : Hd) (y : List (List Int)) (hF : F_spec_ssCopy m_ = some y) :
    ConF Tryd.prog 124 #[(m_h).v] [Es (List (List Int)) m_ m_h] [] (fun v Γ' => ∃ z0 : Hd, v = (z0).v ∧ Γ' = [E (List (List Int)) y z0]) := by
  intro w0 S0 fp0 hI hS
  have H : Cx w0 fp0 S0 w0 [Es (List (List Int)) m_ m_h] := Cx.start hI hS
  clear hI hS
  refine enterC (args := [_]) gok Tryd.func124 rfl _ rfl rfl rfl ?_
  refine sq ?_
  refine lenE (H.rs (α := List (List Int)) 0 rfl).len ?_
  have hmx58 := (H.rs (α := List (List Int)) 0 rfl).max
  obtain ⟨r59, e, hF60⟩ := bindS hF; clear hF
  replace H := H.nil (α := List Int)
  refine loopS _ m_.length (fun (k2 : Nat) (s55 : List (List Int)) (g56 : Hd) => [(3, (g56).v), (6, (m_h).v), (7, (.int .i64 ((m_.length : Nat) : Int))), (8, (.int .i64 ((k2 : Nat) : Int)))]) (fun _ (s55 : List (List Int)) (g56 : Hd) w' => Cx w0 fp0 S0 w' [E (List (List Int)) s55 g56, Es (List (List Int)) m_ m_h]) [] nilH e ⟨rfl, rfl, rfl, rfl, trivial⟩ (H.sel [0, 1] rfl) ?_ ?_
  · clear H e
    rintro T63 k2 s55 g56 w62 o64 hk (H : Cx w0 fp0 S0 w62 [E (List (List Int)) s55 g56, Es (List (List Int)) m_ m_h]) hF65
    refine boolE (z := true) (ltLen hk) ?_
    refine sq ?_
    refine sq ?_
    obtain ⟨a72, e, hF73⟩ := bindS hF65; clear hF65
    have HH := H; clear H; obtain ⟨p70, m71, h74, c66, c67, c68, c69, H⟩ := HH.elL 1 rfl e; clear HH
    clear e
    refine idxE c66 c67 c68 ?_; clear c66 c67 c68
    refine load1 c69 ?_; clear c69
    obtain ⟨y76, e, hF77⟩ := bindS hF73; clear hF73
    have ey76 := e; clear e
    refine callF (spec_l1Own_c a72 h74 y76 ey76) (Γi := []) H ⟨Vw.sh 0 rfl, trivial⟩ ?_; clear H ey76
    rintro _ _ w78 ⟨h79, rfl, rfl⟩ (H : Cx w0 fp0 S0 w78 [E (List Int) y76 h79, Es (List Int) a72 h74, E (List (List Int)) s55 g56, Es (List (List Int)) m_ m_h])
    refine lit1 (α := List Int) (g := h79) gok rfl rfl rfl rfl rfl H ?_; clear H; intro h82 w81 hx H
    clear hx
    obtain ⟨a84, e, hF85⟩ := bindS hF77; clear hF77
    replace H := H.sel [2, 0, 1, 3] rfl
    refine append_ (α := List Int) gok rfl rfl rfl rfl H e ?_; clear e H; intro h87 w86 H
    refine arK hk hmx58 ?_
    have hs := Option.some.inj hF85; subst hs; clear hF85
    exact ⟨h87, ⟨rfl, rfl, rfl, rfl, trivial⟩, H.sel [0, 2] rfl⟩
  · clear H e
    rintro T90 g92 w89 (H : Cx w0 fp0 S0 w89 [E (List (List Int)) r59 g92, Es (List (List Int)) m_ m_h])
    refine boolE (z := false) geLen ?_
    refine sq ?_
    cases hF60
    exact ⟨_, _, rfl, ⟨g92, rfl, rfl⟩, (H.sel [0] rfl).close ⟨cloE, trivial⟩⟩

theorem spec_spSum_c (p_ : Int) (size_ : Int) (rows_ : List (List Int)) (rows_h : Hd) (coefs_ : List Int) (coefs_h : Hd) (y : List Int) (hF : F_spec_spSum p_ size_ rows_ coefs_ = some y) :
    ConF Tryd.prog 131 #[(.int .i64 p_), (.int .i64 size_), (rows_h).v, (coefs_h).v] [Es (List (List Int)) rows_ rows_h, Es (List Int) coefs_ coefs_h] [] (fun v Γ' => ∃ z0 : Hd, v = (z0).v ∧ Γ' = [E (List Int) y z0]) := by
  intro w0 S0 fp0 hI hS
  have H : Cx w0 fp0 S0 w0 [Es (List (List Int)) rows_ rows_h, Es (List Int) coefs_ coefs_h] := Cx.start hI hS
  clear hI hS
  refine enterC (args := [_, _, _, _]) gok Tryd.func131 rfl _ rfl rfl rfl ?_
  obtain ⟨a3, e, hF4⟩ := bindS hF; clear hF
  refine make_ (α := Int) gok rfl rfl rfl rfl (makeCO_of e) H ?_; clear e H; intro h6 w5 hx H
  clear hx
  refine sq ?_
  refine lenE (H.rs (α := List (List Int)) 1 rfl).len ?_
  have hmx311 := (H.rs (α := List (List Int)) 1 rfl).max
  obtain ⟨r312, e, hF313⟩ := bindS hF4; clear hF4
  refine loopS _ rows_.length (fun (k8 : Nat) (s309 : List Int) (_ : Unit) => [(0, (.int .i64 p_)), (3, (coefs_h).v), (9, (h6).v), (16, (rows_h).v), (17, (.int .i64 ((rows_.length : Nat) : Int))), (18, (.int .i64 ((k8 : Nat) : Int)))]) (fun _ (s309 : List Int) (_ : Unit) w' => Cx w0 fp0 S0 w' [Es (List Int) coefs_ coefs_h, E (List Int) s309 h6, Es (List (List Int)) rows_ rows_h]) a3 () e ⟨rfl, rfl, rfl, rfl, rfl, rfl, trivial⟩ (H.sel [2, 0, 1] rfl) ?_ ?_
  · clear H e
    rintro T315 k8 s309 _ w314 o316 hk (H : Cx w0 fp0 S0 w314 [Es (List Int) coefs_ coefs_h, E (List Int) s309 h6, Es (List (List Int)) rows_ rows_h]) hF317
    refine boolE (z := true) (ltLen hk) ?_
    refine sq ?_
    refine sq ?_
    obtain ⟨a324, e, hF325⟩ := bindS hF317; clear hF317
    have HH := H; clear H; obtain ⟨p322, m323, h326, c318, c319, c320, c321, H⟩ := HH.elL 2 rfl e; clear HH
    clear e
    refine idxE c318 c319 c320 ?_; clear c318 c319 c320
    refine load1 c321 ?_; clear c321
    refine lenE (H.rs (α := List Int) 0 rfl).len ?_
    have hmx415 := (H.rs (α := List Int) 0 rfl).max
    obtain ⟨r416, e, hF417⟩ := bindS hF325; clear hF325
    refine loopS _ a324.length (fun (k328 : Nat) (s413 : List Int) (_ : Unit) => [(0, (.int .i64 p_)), (3, (coefs_h).v), (9, (h6).v), (10, (.int .i64 ((k8 : Nat) : Int))), (16, (rows_h).v), (17, (.int .i64 ((rows_.length : Nat) : Int))), (18, (.int .i64 ((k8 : Nat) : Int))), (23, (h326).v), (24, (.int .i64 ((a324.length : Nat) : Int))), (25, (.int .i64 ((k328 : Nat) : Int)))]) (fun _ (s413 : List Int) (_ : Unit) w' => Cx w0 fp0 S0 w' [Es (List Int) coefs_ coefs_h, E (List Int) s413 h6, Es (List (List Int)) rows_ rows_h, Es (List Int) a324 h326]) s309 () e ⟨rfl, rfl, rfl, rfl, rfl, rfl, rfl, rfl, rfl, rfl, trivial⟩ (H.sel [1, 2, 3, 0] rfl) ?_ ?_
    · clear H e
      rintro T419 k328 s413 _ w418 o420 hk (H : Cx w0 fp0 S0 w418 [Es (List Int) coefs_ coefs_h, E (List Int) s413 h6, Es (List (List Int)) rows_ rows_h, Es (List Int) a324 h326]) hF421
      refine boolE (z := true) (ltLen hk) ?_
      refine sq ?_
      refine sq ?_
      obtain ⟨a428, e, hF429⟩ := bindS hF421; clear hF421
      obtain ⟨p426, m427, c422, c423, c424, c425⟩ := (H.rs (α := List Int) 3 rfl).at1 e; clear e
      refine idxE c422 c423 c424 ?_; clear c422 c423 c424
      refine load1 c425 ?_; clear c425
      refine heldX H [16] (.fst 0 (.fst 1 (.fst 2 (.fst 3 (.fst 4 (.fst 6 (.fst 7 (.fst 8 (.fst 10 (.fst 13 (.fst 5 (.fst 9 (.fst 11 (.fst 12 (.fst 14 (.fst 15 (.act 16 .done))))))))))))))))) mixed [] trivial (by kernel_rfl) ?_; clear H; intro w430 H
      have hX : Ext w430 w430 := Upd.refl _ _
      have H0 := H
      obtain ⟨a437, e, hF438⟩ := bindS hF429; clear hF429
      obtain ⟨p435, m436, c431, c432, c433, c434⟩ := (H.ro (α := List Int) 1 rfl).at1 e; clear e
      refine idxE c431 c432 c433 ?_; clear c431 c432 c433
      obtain ⟨a445, e, hF446⟩ := bindS hF438; clear hF438
      obtain ⟨p443, m444, c439, c440, c441, c442⟩ := (H.rs (α := List Int) 0 rfl).at1 e; clear e
      refine idxE c439 c440 c441 ?_; clear c439 c440 c441
      refine load1X c434 ?_; clear c434
      refine load1X c442 ?_; clear c442
      obtain ⟨a447, e, hF448⟩ := bindS hF446; clear hF446
      refine arO e ?_; clear e
      obtain ⟨a449, e, hF450⟩ := bindS hF448; clear hF448
      refine arO e ?_; clear e
      obtain ⟨a451, e, hF452⟩ := bindS hF450; clear hF450
      refine remO_ e ?_; clear e
      obtain ⟨a459, e, hF460⟩ := bindS hF452; clear hF452
      have ea459 := e; clear e
      obtain ⟨p457, m458, c453, c454, c455⟩ := (H.ro (α := List Int) 1 rfl).setp ea459
      refine idxE c453 c454 c455 ?_
      replace H := H.sel [1, 0, 2, 3] rfl
      refine setS (α := Int) H c453 c454 ea459 ?_; clear H c453 c454 c455 ea459; intro w461 H
      refine hold trivial ?_
      refine arK hk hmx415 ?_
      have hs := Option.some.inj hF460; subst hs; clear hF460
      exact ⟨(), ⟨rfl, rfl, rfl, rfl, rfl, rfl, rfl, rfl, rfl, rfl, trivial⟩, H.sel [1, 0, 2, 3] rfl⟩
    · clear H e
      rintro T463 _ w462 (H : Cx w0 fp0 S0 w462 [Es (List Int) coefs_ coefs_h, E (List Int) r416 h6, Es (List (List Int)) rows_ rows_h, Es (List Int) a324 h326])
      refine boolE (z := false) geLen ?_
      refine sq ?_
      refine arK hk hmx311 ?_
      have hs := Option.some.inj hF417; subst hs; clear hF417
      exact ⟨(), ⟨rfl, rfl, rfl, rfl, rfl, rfl, trivial⟩, H.sel [0, 1, 2] rfl⟩
  · clear H e
    rintro T467 _ w466 (H : Cx w0 fp0 S0 w466 [Es (List Int) coefs_ coefs_h, E (List Int) r312 h6, Es (List (List Int)) rows_ rows_h])
    refine boolE (z := false) geLen ?_
    refine sq ?_
    cases hF313
    exact ⟨_, _, rfl, ⟨h6, rfl, rfl⟩, (H.sel [1] rfl).close ⟨cloE, trivial⟩⟩
end Go.Proofs.YtnlbhdepagkjgaaDoor
