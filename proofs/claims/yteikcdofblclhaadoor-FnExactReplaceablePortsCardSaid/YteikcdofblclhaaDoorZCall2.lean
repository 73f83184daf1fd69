/-
  Contracts, printed by a program (wip/y/gen.py): each function of Go computes its partial function. Condition of each: its partial function yields a value.
-/
import Derived.Test.YteikcdofblclhaaDoorZCall
namespace Go.Proofs.YteikcdofblclhaaDoor
open Go Go.Proofs.YteikcdofblclhaaDoor.RW
set_option maxRecDepth 100000
set_option linter.unusedVariables false

theorem laws_eqIntSS_c (a_ : List (List Int)) (a_h : Hd) (b_ : List (List Int)) (b_h : Hd) (y : Bool) (hF : F_laws_eqIntSS a_ b_ = some y) :
    ConF Tryd.prog 75 #[(a_h).v, (b_h).v] [Es (List (List Int)) a_ a_h, Es (List (List Int)) b_ b_h] [] (fun v Γ' => v = (.bool y) ∧ Γ' = []) := by
  intro w0 S0 fp0 hI hS
  have H : Cx w0 fp0 S0 w0 [Es (List (List Int)) a_ a_h, Es (List (List Int)) b_ b_h] := Cx.start hI hS
  clear hI hS
  refine enterC (args := [_, _]) gok Tryd.func75 rfl _ rfl rfl rfl ?_
  refine sq ?_
  refine lenE (H.rs (α := List (List Int)) 0 rfl).len ?_
  refine lenE (H.rs (α := List (List Int)) 1 rfl).len ?_
  obtain ⟨a3, e, hF4⟩ := bindS hF; clear hF
  refine boolO e ?_; clear e
  cases a3
  · have hF5 := condF hF4; clear hF4
    obtain ⟨r125, hF127, hF126⟩ := bindS hF5; clear hF5
    refine cut (fun (q128 : Unit) => []) (fun (q128 : Unit) w' => .inl () = r125 ∧ Cx w0 fp0 S0 w' []) ?_ ?_
    · skip
      refine loopW _ (fun (s201 : Int) (_ : Unit) => [(0, (a_h).v), (1, (b_h).v), (5, (.int .i64 s201))]) (fun (s201 : Int) (_ : Unit) w' => Cx w0 fp0 S0 w' [Es (List (List Int)) a_ a_h, Es (List (List Int)) b_ b_h]) 0 () hF127 ⟨rfl, rfl, rfl, trivial⟩ (H.sel [0, 1] rfl) ?_
      · clear H
        rintro T207 s201 _ w206 o208 (H : Cx w0 fp0 S0 w206 [Es (List (List Int)) a_ a_h, Es (List (List Int)) b_ b_h]) hrt hF209
        refine sq ?_
        refine lenE (H.rs (α := List (List Int)) 0 rfl).len ?_
        obtain ⟨a210, e, hF211⟩ := bindS hF209; clear hF209
        refine boolO e ?_; clear e
        cases a210
        · have hF212 := condF hF211; clear hF211
          have hs := Option.some.inj hF212; subst hs; clear hF212
          have hF213 : some _ = some _ := congrArg some (hrt _ rfl).symm
          exact ⟨(), trivial, Option.some.inj hF213, H.sel [] rfl⟩
        · have hF214 := condT hF211; clear hF211
          refine sq ?_
          refine heldX H [] (.fst 0 (.fst 1 (.fst 2 (.fst 4 (.fst 5 (.fst 6 (.fst 3 (.fst 7 (.act 8 (.fst 9 .done)))))))))) mixed [] trivial (by kernel_rfl) ?_
          clear H; intro w215 H
          have hX : Ext w215 w215 := Upd.refl _ _
          have H0 := H
          obtain ⟨a222, e, hF223⟩ := bindS hF214; clear hF214
          have HH := H; clear H; obtain ⟨p220, m221, h224, c216, c217, c218, c219, H⟩ := HH.elL 0 rfl e; clear HH
          clear e
          refine idxE c216 c217 c218 ?_; clear c216 c217 c218
          obtain ⟨a232, e, hF233⟩ := bindS hF223; clear hF223
          have HH := H; clear H; obtain ⟨p230, m231, h234, c226, c227, c228, c229, H⟩ := HH.elL 2 rfl e; clear HH
          clear e
          refine idxE c226 c227 c228 ?_; clear c226 c227 c228
          refine load1X c219 ?_; clear c219
          refine load1X c229 ?_; clear c229
          obtain ⟨y236, e, hF237⟩ := bindS hF233; clear hF233
          have ey236 := e; clear e
          refine callFx (laws_eqIntS_c a222 h224 a232 h234 y236 ey236) H ⟨Vw.sh 1 rfl, Vw.sh 0 rfl, trivial⟩ ?_; clear H ey236
          rintro _ _ w238 ⟨rfl, rfl⟩ hx (H : Cx w0 fp0 S0 w238 [Es (List Int) a232 h234, Es (List Int) a222 h224, Es (List (List Int)) a_ a_h, Es (List (List Int)) b_ b_h])
          replace hX := hX.trans0 hx; clear hx
          refine hold hX ?_
          obtain ⟨a239, e, hF240⟩ := bindS hF237; clear hF237
          refine boolO e ?_; clear e
          cases a239
          · have hF241 := condF hF240; clear hF240
            obtain ⟨a242, e, hF243⟩ := bindS hF241; clear hF241
            refine arO e ?_; clear e
            have hs := Option.some.inj hF243; subst hs; clear hF243
            exact ⟨a242, (), rfl, ⟨rfl, rfl, rfl, trivial⟩, H.sel [2, 3] rfl⟩
          · have hF244 := condT hF240; clear hF240
            have hs := Option.some.inj hF244; subst hs; clear hF244
            have hF245 : some _ = some _ := congrArg some (hrt _ rfl).symm
            have hs := Option.some.inj hF245; subst hs; clear hF245
            have hF246 : some _ = some _ := hF126; clear hF126
            cases hF246
            exact ⟨_, _, rfl, ⟨rfl, rfl⟩, (H.sel [] rfl).close trivial⟩
    · clear hF127 H
      rintro T248 _ w247 ⟨hr, (H : Cx w0 fp0 S0 w247 [])⟩
      subst hr
      cases hF126
      exact ⟨_, _, rfl, ⟨rfl, rfl⟩, (H.sel [] rfl).close trivial⟩
  · have hF249 := condT hF4; clear hF4
    cases hF249
    exact ⟨_, _, rfl, ⟨rfl, rfl⟩, (H.sel [] rfl).close trivial⟩

theorem laws_eqRelation_c (a__0 : Int) (a__1 : Int) (a__2 : List (List Int)) (a__2h : Hd) (b__0 : Int) (b__1 : Int) (b__2 : List (List Int)) (b__2h : Hd) (y : Bool) (hF : F_laws_eqRelation (a__0, a__1, a__2) (b__0, b__1, b__2) = some y) :
    ConF Tryd.prog 34 #[(.agg #[(.int .i64 a__0), (.int .i64 a__1), (a__2h).v]), (.agg #[(.int .i64 b__0), (.int .i64 b__1), (b__2h).v])] [Es (List (List Int)) a__2 a__2h, Es (List (List Int)) b__2 b__2h] [] (fun v Γ' => v = (.bool y) ∧ Γ' = []) := by
  intro w0 S0 fp0 hI hS
  have H : Cx w0 fp0 S0 w0 [Es (List (List Int)) a__2 a__2h, Es (List (List Int)) b__2 b__2h] := Cx.start hI hS
  clear hI hS
  refine enterC (args := [_, _]) gok Tryd.func34 rfl _ rfl rfl rfl ?_
  refine box_ H ?_; clear H; intro b4 w3 hx H
  clear hx
  replace H : Cx w0 fp0 S0 w3 [Bx b4 [(.int .i64 a__0), (.int .i64 a__1), (a__2h).v], Es (List (List Int)) a__2 a__2h, Es (List (List Int)) b__2 b__2h] := H
  refine box_ H ?_; clear H; intro b7 w6 hx H
  clear hx
  replace H : Cx w0 fp0 S0 w6 [Bx b7 [(.int .i64 b__0), (.int .i64 b__1), (b__2h).v], Bx b4 [(.int .i64 a__0), (.int .i64 a__1), (a__2h).v], Es (List (List Int)) a__2 a__2h, Es (List (List Int)) b__2 b__2h] := H
  refine sq ?_
  refine fld gok rfl rfl rfl rfl ?_
  refine load1 (H.bx 1 rfl (j := 0) rfl) ?_
  refine fld gok rfl rfl rfl rfl ?_
  refine load1 (H.bx 0 rfl (j := 0) rfl) ?_
  obtain ⟨a9, e, hF10⟩ := bindS hF; clear hF
  refine boolO e ?_; clear e
  cases a9
  · have hF11 := condF hF10; clear hF10
    refine sq ?_
    refine fld gok rfl rfl rfl rfl ?_
    refine load1 (H.bx 1 rfl (j := 1) rfl) ?_
    refine fld gok rfl rfl rfl rfl ?_
    refine load1 (H.bx 0 rfl (j := 1) rfl) ?_
    obtain ⟨a12, e, hF13⟩ := bindS hF11; clear hF11
    refine boolO e ?_; clear e
    cases a12
    · have hF14 := condF hF13; clear hF13
      refine sq ?_
      refine fld gok rfl rfl rfl rfl ?_
      refine load1 (H.bx 1 rfl (j := 2) rfl) ?_
      refine fld gok rfl rfl rfl rfl ?_
      refine load1 (H.bx 0 rfl (j := 2) rfl) ?_
      obtain ⟨y15, e, hF16⟩ := bindS hF14; clear hF14
      have ey15 := e; clear e
      refine callF (laws_eqIntSS_c a__2 a__2h b__2 b__2h y15 ey15) (Γi := []) H ⟨Vw.sh 2 rfl, Vw.sh 3 rfl, trivial⟩ ?_; clear H ey15
      rintro _ _ w17 ⟨rfl, rfl⟩ (H : Cx w0 fp0 S0 w17 [Bx b7 [(.int .i64 b__0), (.int .i64 b__1), (b__2h).v], Bx b4 [(.int .i64 a__0), (.int .i64 a__1), (a__2h).v], Es (List (List Int)) a__2 a__2h, Es (List (List Int)) b__2 b__2h])
      obtain ⟨a18, e, hF19⟩ := bindS hF16; clear hF16
      refine boolO e ?_; clear e
      cases a18
      · have hF20 := condF hF19; clear hF19
        cases hF20
        exact ⟨_, _, rfl, ⟨rfl, rfl⟩, (H.sel [] rfl).close trivial⟩
      · have hF21 := condT hF19; clear hF19
        cases hF21
        exact ⟨_, _, rfl, ⟨rfl, rfl⟩, (H.sel [] rfl).close trivial⟩
    · have hF22 := condT hF13; clear hF13
      cases hF22
      exact ⟨_, _, rfl, ⟨rfl, rfl⟩, (H.sel [] rfl).close trivial⟩
  · have hF23 := condT hF10; clear hF10
    cases hF23
    exact ⟨_, _, rfl, ⟨rfl, rfl⟩, (H.sel [] rfl).close trivial⟩

theorem laws_markIntS_c (a_ : List Int) (a_h : Hd) (k_ : Int) (y0 : List Int) (y1 : Int) (hF : F_laws_markIntS a_ k_ = some (y0, y1)) :
    ConF Tryd.prog 37 #[(a_h).v, (.int .i64 k_)] [] [E (List Int) a_ a_h] (fun v Γ' => v = (.int .i64 y1) ∧ Γ' = [E (List Int) y0 a_h]) := by
  intro w0 S0 fp0 hI hS
  have H : Cx w0 fp0 S0 w0 [E (List Int) a_ a_h] := Cx.start hI hS
  clear hI hS
  refine enterC (args := [_, _]) gok Tryd.func37 rfl _ rfl rfl rfl ?_
  obtain ⟨r69, hF71, hF70⟩ := bindS hF; clear hF
  refine cut (fun (q72 : List Int × Int) => [(1, (.int .i64 q72.2))]) (fun (q72 : List Int × Int) w' => (q72.1, q72.2) = r69 ∧ Cx w0 fp0 S0 w' [E (List Int) q72.1 a_h]) ?_ ?_
  · skip
    refine loopW _ (fun (s111 : List Int × Int × Int) (_ : Unit) => [(0, (a_h).v), (1, (.int .i64 s111.2.1)), (5, (.int .i64 s111.2.2))]) (fun (s111 : List Int × Int × Int) (_ : Unit) w' => Cx w0 fp0 S0 w' [E (List Int) s111.1 a_h]) (a_, k_, 0) () hF71 ⟨rfl, rfl, rfl, trivial⟩ (H.sel [0] rfl) ?_
    · clear H
      rintro T117 ⟨s111_0, s111_1, s111_2⟩ _ w116 o118 (H : Cx w0 fp0 S0 w116 [E (List Int) s111_0 a_h]) hrt hF119
      refine sq ?_
      refine lenE (H.ro (α := List Int) 0 rfl).len ?_
      obtain ⟨a120, e, hF121⟩ := bindS hF119; clear hF119
      refine boolO e ?_; clear e
      cases a120
      · have hF122 := condF hF121; clear hF121
        have hs := Option.some.inj hF122; subst hs; clear hF122
        have hF123 : some _ = some _ := congrArg some (hrt _ rfl).symm
        exact ⟨(s111_0, s111_1), ⟨rfl, trivial⟩, Option.some.inj hF123, H.sel [0] rfl⟩
      · have hF124 := condT hF121; clear hF121
        refine sq ?_
        obtain ⟨a131, e, hF132⟩ := bindS hF124; clear hF124
        have ea131 := e; clear e
        obtain ⟨p129, m130, c125, c126, c127⟩ := (H.ro (α := List Int) 0 rfl).setp ea131
        refine idxE c125 c126 c127 ?_
        refine setS (α := Int) H c125 c126 ea131 ?_; clear H c125 c126 c127 ea131; intro w133 H
        obtain ⟨a134, e, hF135⟩ := bindS hF132; clear hF132
        refine arO e ?_; clear e
        obtain ⟨a136, e, hF137⟩ := bindS hF135; clear hF135
        refine arO e ?_; clear e
        have hs := Option.some.inj hF137; subst hs; clear hF137
        exact ⟨(a131, a134, a136), (), rfl, ⟨rfl, rfl, rfl, trivial⟩, H.sel [0] rfl⟩
  · clear hF71 H
    rintro T139 ⟨s67_0, s67_1⟩ w138 ⟨hr, (H : Cx w0 fp0 S0 w138 [E (List Int) s67_0 a_h])⟩
    subst hr
    cases hF70
    exact ⟨_, _, rfl, ⟨rfl, rfl⟩, (H.sel [0] rfl).close ⟨cloE, trivial⟩⟩

theorem laws_markIntSS_c (a_ : List (List Int)) (a_h : Hd) (k_ : Int) (y0 : List (List Int)) (y1 : Int) (hF : F_laws_markIntSS a_ k_ = some (y0, y1)) :
    ConF Tryd.prog 78 #[(a_h).v, (.int .i64 k_)] [] [E (List (List Int)) a_ a_h] (fun v Γ' => v = (.int .i64 y1) ∧ Γ' = [E (List (List Int)) y0 a_h]) := by
  intro w0 S0 fp0 hI hS
  have H : Cx w0 fp0 S0 w0 [E (List (List Int)) a_ a_h] := Cx.start hI hS
  clear hI hS
  refine enterC (args := [_, _]) gok Tryd.func78 rfl _ rfl rfl rfl ?_
  obtain ⟨r81, hF83, hF82⟩ := bindS hF; clear hF
  refine cut (fun (q84 : List (List Int) × Int) => [(1, (.int .i64 q84.2))]) (fun (q84 : List (List Int) × Int) w' => (q84.1, q84.2) = r81 ∧ Cx w0 fp0 S0 w' [E (List (List Int)) q84.1 a_h]) ?_ ?_
  · skip
    refine loopW _ (fun (s131 : List (List Int) × Int × Int) (_ : Unit) => [(0, (a_h).v), (1, (.int .i64 s131.2.1)), (5, (.int .i64 s131.2.2))]) (fun (s131 : List (List Int) × Int × Int) (_ : Unit) w' => Cx w0 fp0 S0 w' [E (List (List Int)) s131.1 a_h]) (a_, k_, 0) () hF83 ⟨rfl, rfl, rfl, trivial⟩ (H.sel [0] rfl) ?_
    · clear H
      rintro T137 ⟨s131_0, s131_1, s131_2⟩ _ w136 o138 (H : Cx w0 fp0 S0 w136 [E (List (List Int)) s131_0 a_h]) hrt hF139
      refine sq ?_
      refine lenE (H.ro (α := List (List Int)) 0 rfl).len ?_
      obtain ⟨a140, e, hF141⟩ := bindS hF139; clear hF139
      refine boolO e ?_; clear e
      cases a140
      · have hF142 := condF hF141; clear hF141
        have hs := Option.some.inj hF142; subst hs; clear hF142
        have hF143 : some _ = some _ := congrArg some (hrt _ rfl).symm
        exact ⟨(s131_0, s131_1), ⟨rfl, trivial⟩, Option.some.inj hF143, H.sel [0] rfl⟩
      · have hF144 := condT hF141; clear hF141
        refine sq ?_
        obtain ⟨a151, e, hF152⟩ := bindS hF144; clear hF144
        replace H := H.toEH (α := List Int)
        have HH := H; clear H; obtain ⟨p149, m150, h153, c145, c146, c147, c148, H⟩ := HH.peekL e; clear HH
        clear e
        refine idxE c145 c146 c147 ?_
        refine load1 c148 ?_; clear c148
        obtain ⟨y154, e, hF155⟩ := bindS hF152; clear hF152
        obtain ⟨y154_0, y154_1⟩ := y154
        have ey154 := e; clear e
        replace H := H.takeK 0 rfl
        refine callF (laws_markIntS_c a151 h153 s131_1 y154_0 y154_1 ey154) (Γi := [E (List Int) a151 h153]) H trivial ?_; clear H ey154
        rintro _ _ w157 ⟨rfl, rfl⟩ (H : Cx w0 fp0 S0 w157 [E (List Int) y154_0 h153, EX (List Int) m150 [(h153).v] s131_0 a_h])
        obtain ⟨a158, e, hF159⟩ := bindS hF155; clear hF155
        replace H := H.put c146 e; clear e
        obtain ⟨a160, e, hF161⟩ := bindS hF159; clear hF159
        refine arO e ?_; clear e
        have hs := Option.some.inj hF161; subst hs; clear hF161
        exact ⟨(a158, y154_1, a160), (), rfl, ⟨rfl, rfl, rfl, trivial⟩, H.sel [0] rfl⟩
  · clear hF83 H
    rintro T163 ⟨s79_0, s79_1⟩ w162 ⟨hr, (H : Cx w0 fp0 S0 w162 [E (List (List Int)) s79_0 a_h])⟩
    subst hr
    cases hF82
    exact ⟨_, _, rfl, ⟨rfl, rfl⟩, (H.sel [0] rfl).close ⟨cloE, trivial⟩⟩

theorem laws_markRelation_c (a__0 : Int) (a__1 : Int) (a__2 : List (List Int)) (a__2h : Hd) (k_ : Int) (y0_0 : Int) (y0_1 : Int) (y0_2 : List (List Int)) (y1 : Int) (hF : F_laws_markRelation (a__0, a__1, a__2) k_ = some ((y0_0, y0_1, y0_2), y1)) :
    ConF Tryd.prog 39 #[(.agg #[(.int .i64 a__0), (.int .i64 a__1), (a__2h).v]), (.int .i64 k_)] [] [E (List (List Int)) a__2 a__2h] (fun v Γ' => v = (.int .i64 y1) ∧ Γ' = [E (List (List Int)) y0_2 a__2h]) := by
  intro w0 S0 fp0 hI hS
  have H : Cx w0 fp0 S0 w0 [E (List (List Int)) a__2 a__2h] := Cx.start hI hS
  clear hI hS
  refine enterC (args := [_, _]) gok Tryd.func39 rfl _ rfl rfl rfl ?_
  refine box_ H ?_; clear H; intro b3 w2 hx H
  clear hx
  replace H : Cx w0 fp0 S0 w2 [Bx b3 [(.int .i64 a__0), (.int .i64 a__1), (a__2h).v], E (List (List Int)) a__2 a__2h] := H
  refine fld gok rfl rfl rfl rfl ?_
  refine load1 (H.bx 0 rfl (j := 2) rfl) ?_
  obtain ⟨y5, e, hF6⟩ := bindS hF; clear hF
  obtain ⟨y5_0, y5_1⟩ := y5
  have ey5 := e; clear e
  replace H := H.sel [1, 0] rfl
  refine callF (laws_markIntSS_c a__2 a__2h k_ y5_0 y5_1 ey5) (Γi := [E (List (List Int)) a__2 a__2h]) H trivial ?_; clear H ey5
  rintro _ _ w7 ⟨rfl, rfl⟩ (H : Cx w0 fp0 S0 w7 [E (List (List Int)) y5_0 a__2h, Bx b3 [(.int .i64 a__0), (.int .i64 a__1), (a__2h).v]])
  cases hF6
  exact ⟨_, _, rfl, ⟨rfl, rfl⟩, (H.sel [0] rfl).close ⟨cloE, trivial⟩⟩

theorem laws_heldIntS_c (a_ : List Int) (a_h : Hd) (k_ : Int) (y : Int) (hF : F_laws_heldIntS a_ k_ = some y) :
    ConF Tryd.prog 45 #[(a_h).v, (.int .i64 k_)] [Es (List Int) a_ a_h] [] (fun v Γ' => v = (.int .i64 y) ∧ Γ' = []) := by
  intro w0 S0 fp0 hI hS
  have H : Cx w0 fp0 S0 w0 [Es (List Int) a_ a_h] := Cx.start hI hS
  clear hI hS
  refine enterC (args := [_, _]) gok Tryd.func45 rfl _ rfl rfl rfl ?_
  obtain ⟨r79, hF81, hF80⟩ := bindS hF; clear hF
  refine cut (fun (q82 : Int) => [(1, (.int .i64 q82))]) (fun (q82 : Int) w' => .inl q82 = r79 ∧ Cx w0 fp0 S0 w' []) ?_ ?_
  · skip
    refine loopW _ (fun (s127 : Int × Int) (_ : Unit) => [(0, (a_h).v), (1, (.int .i64 s127.1)), (5, (.int .i64 s127.2))]) (fun (s127 : Int × Int) (_ : Unit) w' => Cx w0 fp0 S0 w' [Es (List Int) a_ a_h]) (k_, 0) () hF81 ⟨rfl, rfl, rfl, trivial⟩ (H.sel [0] rfl) ?_
    · clear H
      rintro T133 ⟨s127_0, s127_1⟩ _ w132 o134 (H : Cx w0 fp0 S0 w132 [Es (List Int) a_ a_h]) hrt hF135
      refine sq ?_
      refine lenE (H.rs (α := List Int) 0 rfl).len ?_
      obtain ⟨a136, e, hF137⟩ := bindS hF135; clear hF135
      refine boolO e ?_; clear e
      cases a136
      · have hF138 := condF hF137; clear hF137
        have hs := Option.some.inj hF138; subst hs; clear hF138
        have hF139 : some _ = some _ := congrArg some (hrt _ rfl).symm
        exact ⟨s127_0, ⟨rfl, trivial⟩, Option.some.inj hF139, H.sel [] rfl⟩
      · have hF140 := condT hF137; clear hF137
        refine sq ?_
        refine sq ?_
        obtain ⟨a147, e, hF148⟩ := bindS hF140; clear hF140
        obtain ⟨p145, m146, c141, c142, c143, c144⟩ := (H.rs (α := List Int) 0 rfl).at1 e; clear e
        refine idxE c141 c142 c143 ?_; clear c141 c142 c143
        refine load1 c144 ?_; clear c144
        obtain ⟨a149, e, hF150⟩ := bindS hF148; clear hF148
        refine boolO e ?_; clear e
        cases a149
        · have hF151 := condF hF150; clear hF150
          obtain ⟨a152, e, hF153⟩ := bindS hF151; clear hF151
          refine arO e ?_; clear e
          obtain ⟨a154, e, hF155⟩ := bindS hF153; clear hF153
          refine arO e ?_; clear e
          have hs := Option.some.inj hF155; subst hs; clear hF155
          exact ⟨(a152, a154), (), rfl, ⟨rfl, rfl, rfl, trivial⟩, H.sel [0] rfl⟩
        · have hF156 := condT hF150; clear hF150
          have hs := Option.some.inj hF156; subst hs; clear hF156
          have hF157 : some _ = some _ := congrArg some (hrt _ rfl).symm
          have hs := Option.some.inj hF157; subst hs; clear hF157
          have hF158 : some _ = some _ := hF80; clear hF80
          cases hF158
          exact ⟨_, _, rfl, ⟨rfl, rfl⟩, (H.sel [] rfl).close trivial⟩
  · clear hF81 H
    rintro T160 s77 w159 ⟨hr, (H : Cx w0 fp0 S0 w159 [])⟩
    subst hr
    cases hF80
    exact ⟨_, _, rfl, ⟨rfl, rfl⟩, (H.sel [] rfl).close trivial⟩

theorem laws_FnExactReplaceablePorts_c (aP_ : Int) (aR__0 : Int) (aR__1 : Int) (aR__2 : List (List Int)) (aR__2h : Hd) (aPorts_ : List Int) (aPorts_h : Hd) (aQ_ : Int) (y : Bool) (hF : F_laws_FnExactReplaceablePorts aP_ (aR__0, aR__1, aR__2) aPorts_ aQ_ = some y) :
    ConF Tryd.prog 9 #[(.int .i64 aP_), (.agg #[(.int .i64 aR__0), (.int .i64 aR__1), (aR__2h).v]), (aPorts_h).v, (.int .i64 aQ_)] [Es (List (List Int)) aR__2 aR__2h, Es (List Int) aPorts_ aPorts_h, Gl 0 [.int .i64 2, .int .i64 3, .int .i64 5, .int .i64 7]] [] (fun v Γ' => v = (.bool y) ∧ Γ' = []) := by
  intro w0 S0 fp0 hI hS
  have H : Cx w0 fp0 S0 w0 [Es (List (List Int)) aR__2 aR__2h, Es (List Int) aPorts_ aPorts_h, Gl 0 [.int .i64 2, .int .i64 3, .int .i64 5, .int .i64 7]] := Cx.start hI hS
  clear hI hS
  refine enterC (args := [_, _, _, _]) gok Tryd.func9 rfl _ rfl rfl rfl ?_
  refine box_ H ?_; clear H; intro b5 w4 hx H
  clear hx
  replace H : Cx w0 fp0 S0 w4 [Bx b5 [(.int .i64 aR__0), (.int .i64 aR__1), (aR__2h).v], Es (List (List Int)) aR__2 aR__2h, Es (List Int) aPorts_ aPorts_h, Gl 0 [.int .i64 2, .int .i64 3, .int .i64 5, .int .i64 7]] := H
  refine sq ?_
  refine lenE (H.rs (α := List Int) 2 rfl).len ?_
  obtain ⟨a7, e, hF8⟩ := bindS hF; clear hF
  refine boolO e ?_; clear e
  cases a7
  · have hF9 := condF hF8; clear hF8
    refine loadN [(.int .i64 aR__0), (.int .i64 aR__1), (aR__2h).v] rfl (fun j u hj => H.bx 0 rfl hj) ?_
    obtain ⟨y10, e, hF11⟩ := bindS hF9; clear hF9
    have ey10 := e; clear e
    refine callF (laws_szRelation_c aR__0 aR__1 aR__2 aR__2h 1048576 y10 ey10) (Γi := []) H ⟨Vw.sh 1 rfl, trivial⟩ ?_; clear H ey10
    rintro _ _ w12 ⟨rfl, rfl⟩ (H : Cx w0 fp0 S0 w12 [Bx b5 [(.int .i64 aR__0), (.int .i64 aR__1), (aR__2h).v], Es (List (List Int)) aR__2 aR__2h, Es (List Int) aPorts_ aPorts_h, Gl 0 [.int .i64 2, .int .i64 3, .int .i64 5, .int .i64 7]])
    refine sq ?_
    obtain ⟨a13, e, hF14⟩ := bindS hF11; clear hF11
    refine boolO e ?_; clear e
    cases a13
    · have hF15 := condF hF14; clear hF14
      refine loadN [(.int .i64 aR__0), (.int .i64 aR__1), (aR__2h).v] rfl (fun j u hj => H.bx 0 rfl hj) ?_
      obtain ⟨y16, e, hF17⟩ := bindS hF15; clear hF15
      obtain ⟨y16_0, y16_1, y16_2⟩ := y16
      have ey16 := e; clear e
      refine callF (laws_toRelation_c aR__0 aR__1 aR__2 aR__2h y16_0 y16_1 y16_2 ey16) (Γi := []) H ⟨Vw.sh 1 rfl, trivial⟩ ?_; clear H ey16
      rintro _ _ w18 ⟨h19, rfl, rfl⟩ (H : Cx w0 fp0 S0 w18 [E (List (List Int)) y16_2 h19, Bx b5 [(.int .i64 aR__0), (.int .i64 aR__1), (aR__2h).v], Es (List (List Int)) aR__2 aR__2h, Es (List Int) aPorts_ aPorts_h, Gl 0 [.int .i64 2, .int .i64 3, .int .i64 5, .int .i64 7]])
      obtain ⟨y21, e, hF22⟩ := bindS hF17; clear hF17
      have ey21 := e; clear e
      refine callF (laws_toIntS_c aPorts_ aPorts_h y21 ey21) (Γi := []) H ⟨Vw.sh 3 rfl, trivial⟩ ?_; clear H ey21
      rintro _ _ w23 ⟨h24, rfl, rfl⟩ (H : Cx w0 fp0 S0 w23 [E (List Int) y21 h24, E (List (List Int)) y16_2 h19, Bx b5 [(.int .i64 aR__0), (.int .i64 aR__1), (aR__2h).v], Es (List (List Int)) aR__2 aR__2h, Es (List Int) aPorts_ aPorts_h, Gl 0 [.int .i64 2, .int .i64 3, .int .i64 5, .int .i64 7]])
      obtain ⟨y26, e, hF27⟩ := bindS hF22; clear hF22
      obtain ⟨y26_0, y26_1⟩ := y26
      have ey26 := e; clear e
      refine callF (spec_ReplaceablePorts_c aP_ y16_0 y16_1 y16_2 h19 y21 h24 aQ_ y26_0 y26_1 ey26) (Γi := []) H ⟨Vw.own 1 rfl, Vw.own 0 rfl, trivial⟩ ?_; clear H ey26
      rintro _ _ w28 ⟨h29, rfl, rfl⟩ (H : Cx w0 fp0 S0 w28 [E (List Int) y26_0 h29, E (List Int) y21 h24, E (List (List Int)) y16_2 h19, Bx b5 [(.int .i64 aR__0), (.int .i64 aR__1), (aR__2h).v], Es (List (List Int)) aR__2 aR__2h, Es (List Int) aPorts_ aPorts_h, Gl 0 [.int .i64 2, .int .i64 3, .int .i64 5, .int .i64 7]])
      refine loadN [(.int .i64 aR__0), (.int .i64 aR__1), (aR__2h).v] rfl (fun j u hj => H.bx 3 rfl hj) ?_
      obtain ⟨y31, e, hF32⟩ := bindS hF27; clear hF27
      obtain ⟨y31_0, y31_1, y31_2⟩ := y31
      have ey31 := e; clear e
      refine callF (laws_toRelation_c aR__0 aR__1 aR__2 aR__2h y31_0 y31_1 y31_2 ey31) (Γi := []) H ⟨Vw.sh 4 rfl, trivial⟩ ?_; clear H ey31
      rintro _ _ w33 ⟨h34, rfl, rfl⟩ (H : Cx w0 fp0 S0 w33 [E (List (List Int)) y31_2 h34, E (List Int) y26_0 h29, E (List Int) y21 h24, E (List (List Int)) y16_2 h19, Bx b5 [(.int .i64 aR__0), (.int .i64 aR__1), (aR__2h).v], Es (List (List Int)) aR__2 aR__2h, Es (List Int) aPorts_ aPorts_h, Gl 0 [.int .i64 2, .int .i64 3, .int .i64 5, .int .i64 7]])
      refine alloc_ gok rfl H ?_; clear H; intro b37 w36 hx H
      clear hx
      replace H : Cx w0 fp0 S0 w36 [Bx b37 [(.int .i64 0), (.int .i64 0), (.slice none 0 0)], E (List (List Int)) y31_2 h34, E (List Int) y26_0 h29, E (List Int) y21 h24, E (List (List Int)) y16_2 h19, Bx b5 [(.int .i64 aR__0), (.int .i64 aR__1), (aR__2h).v], Es (List (List Int)) aR__2 aR__2h, Es (List Int) aPorts_ aPorts_h, Gl 0 [.int .i64 2, .int .i64 3, .int .i64 5, .int .i64 7]] := H
      refine stA gok [(.int .i64 y31_0), (.int .i64 y31_1), (h34).v] rfl H rfl rfl rfl ?_; clear H; intro w39 H
      replace H : Cx w0 fp0 S0 w39 [Bx b37 [(.int .i64 y31_0), (.int .i64 y31_1), (h34).v], E (List (List Int)) y31_2 h34, E (List Int) y26_0 h29, E (List Int) y21 h24, E (List (List Int)) y16_2 h19, Bx b5 [(.int .i64 aR__0), (.int .i64 aR__1), (aR__2h).v], Es (List (List Int)) aR__2 aR__2h, Es (List Int) aPorts_ aPorts_h, Gl 0 [.int .i64 2, .int .i64 3, .int .i64 5, .int .i64 7]] := H
      obtain ⟨y40, e, hF41⟩ := bindS hF32; clear hF32
      have ey40 := e; clear e
      refine callF (laws_toIntS_c aPorts_ aPorts_h y40 ey40) (Γi := []) H ⟨Vw.sh 7 rfl, trivial⟩ ?_; clear H ey40
      rintro _ _ w42 ⟨h43, rfl, rfl⟩ (H : Cx w0 fp0 S0 w42 [E (List Int) y40 h43, Bx b37 [(.int .i64 y31_0), (.int .i64 y31_1), (h34).v], E (List (List Int)) y31_2 h34, E (List Int) y26_0 h29, E (List Int) y21 h24, E (List (List Int)) y16_2 h19, Bx b5 [(.int .i64 aR__0), (.int .i64 aR__1), (aR__2h).v], Es (List (List Int)) aR__2 aR__2h, Es (List Int) aPorts_ aPorts_h, Gl 0 [.int .i64 2, .int .i64 3, .int .i64 5, .int .i64 7]])
      refine loadN [(.int .i64 y31_0), (.int .i64 y31_1), (h34).v] rfl (fun j u hj => H.bx 1 rfl hj) ?_
      obtain ⟨y45, e, hF46⟩ := bindS hF41; clear hF41
      obtain ⟨y45_0, y45_1⟩ := y45
      have ey45 := e; clear e
      refine callF (impl_ReplaceablePorts_c aP_ y31_0 y31_1 y31_2 h34 y40 h43 aQ_ y45_0 y45_1 ey45) (Γi := []) H ⟨Vw.own 2 rfl, Vw.own 0 rfl, Vw.gl 9 rfl, trivial⟩ ?_; clear H ey45
      rintro _ _ w47 ⟨h48, rfl, rfl⟩ (H : Cx w0 fp0 S0 w47 [E (List Int) y45_0 h48, E (List Int) y40 h43, Bx b37 [(.int .i64 y31_0), (.int .i64 y31_1), (h34).v], E (List (List Int)) y31_2 h34, E (List Int) y26_0 h29, E (List Int) y21 h24, E (List (List Int)) y16_2 h19, Bx b5 [(.int .i64 aR__0), (.int .i64 aR__1), (aR__2h).v], Es (List (List Int)) aR__2 aR__2h, Es (List Int) aPorts_ aPorts_h, Gl 0 [.int .i64 2, .int .i64 3, .int .i64 5, .int .i64 7]])
      refine sq ?_
      obtain ⟨r61, hF63, hF62⟩ := bindS hF46; clear hF46
      refine cut (fun (q64 : Bool) => [(0, (.int .i64 aP_)), (2, (aPorts_h).v), (3, (.int .i64 aQ_)), (5, (.pointer (some ⟨b5, 0, none⟩))), (10, (h29).v), (11, (.bool y26_1)), (12, (.pointer (some ⟨b37, 0, none⟩))), (13, (h43).v), (14, (h48).v), (15, (.bool y45_1)), (59, (.bool q64))]) (fun (q64 : Bool) w' => q64 = r61 ∧ Cx w0 fp0 S0 w' [Es (List Int) aPorts_ aPorts_h, Bx b5 [(.int .i64 aR__0), (.int .i64 aR__1), (aR__2h).v], Es (List (List Int)) aR__2 aR__2h, E (List Int) y26_0 h29, Bx b37 [(.int .i64 y31_0), (.int .i64 y31_1), (h34).v], E (List (List Int)) y31_2 h34, E (List Int) y40 h43, E (List Int) y45_0 h48, Gl 0 [.int .i64 2, .int .i64 3, .int .i64 5, .int .i64 7]]) ?_ ?_
      · skip
        obtain ⟨y65, e, hF66⟩ := bindS hF63; clear hF63
        have ey65 := e; clear e
        refine callF (laws_eqIntS_c y45_0 h48 y26_0 h29 y65 ey65) (Γi := []) H ⟨Vw.own 0 rfl, Vw.own 4 rfl, trivial⟩ ?_; clear H ey65
        rintro _ _ w67 ⟨rfl, rfl⟩ (H : Cx w0 fp0 S0 w67 [E (List Int) y45_0 h48, E (List Int) y40 h43, Bx b37 [(.int .i64 y31_0), (.int .i64 y31_1), (h34).v], E (List (List Int)) y31_2 h34, E (List Int) y26_0 h29, E (List Int) y21 h24, E (List (List Int)) y16_2 h19, Bx b5 [(.int .i64 aR__0), (.int .i64 aR__1), (aR__2h).v], Es (List (List Int)) aR__2 aR__2h, Es (List Int) aPorts_ aPorts_h, Gl 0 [.int .i64 2, .int .i64 3, .int .i64 5, .int .i64 7]])
        obtain ⟨a68, e, hF69⟩ := bindS hF66; clear hF66
        refine boolO e ?_; clear e
        cases a68
        · have hF70 := condF hF69; clear hF69
          obtain ⟨a71, e, hF72⟩ := bindS hF70; clear hF70
          refine boolO e ?_; clear e
          exact ⟨a71, ⟨rfl, rfl, rfl, rfl, rfl, rfl, rfl, rfl, rfl, rfl, rfl, trivial⟩, Option.some.inj hF72, H.sel [9, 7, 8, 4, 2, 3, 1, 0, 10] rfl⟩
        · have hF73 := condT hF69; clear hF69
          exact ⟨true, ⟨rfl, rfl, rfl, rfl, rfl, rfl, rfl, rfl, rfl, rfl, rfl, trivial⟩, Option.some.inj hF73, H.sel [9, 7, 8, 4, 2, 3, 1, 0, 10] rfl⟩
      · clear hF63 H
        rintro T75 s59 w74 ⟨hr, (H : Cx w0 fp0 S0 w74 [Es (List Int) aPorts_ aPorts_h, Bx b5 [(.int .i64 aR__0), (.int .i64 aR__1), (aR__2h).v], Es (List (List Int)) aR__2 aR__2h, E (List Int) y26_0 h29, Bx b37 [(.int .i64 y31_0), (.int .i64 y31_1), (h34).v], E (List (List Int)) y31_2 h34, E (List Int) y40 h43, E (List Int) y45_0 h48, Gl 0 [.int .i64 2, .int .i64 3, .int .i64 5, .int .i64 7]])⟩
        subst hr
        cases s59
        · have hF76 := condF hF62; clear hF62
          refine sq ?_
          refine heldX H [] (.fst 0 (.fst 1 (.act 2 (.act 3 (.fst 4 .done))))) mixed [] trivial (by kernel_rfl) ?_
          clear H; intro w77 H
          have hX : Ext w77 w77 := Upd.refl _ _
          have H0 := H
          refine loadNX [(.int .i64 y31_0), (.int .i64 y31_1), (h34).v] rfl (fun j u hj => H.bx 4 rfl hj) ?_
          refine loadNX [(.int .i64 aR__0), (.int .i64 aR__1), (aR__2h).v] rfl (fun j u hj => H.bx 1 rfl hj) ?_
          obtain ⟨y78, e, hF79⟩ := bindS hF76; clear hF76
          obtain ⟨y78_0, y78_1, y78_2⟩ := y78
          have ey78 := e; clear e
          refine callFx (laws_toRelation_c aR__0 aR__1 aR__2 aR__2h y78_0 y78_1 y78_2 ey78) H ⟨Vw.sh 2 rfl, trivial⟩ ?_; clear H ey78
          rintro _ _ w80 ⟨h81, rfl, rfl⟩ hx (H : Cx w0 fp0 S0 w80 [E (List (List Int)) y78_2 h81, Es (List Int) aPorts_ aPorts_h, Bx b5 [(.int .i64 aR__0), (.int .i64 aR__1), (aR__2h).v], Es (List (List Int)) aR__2 aR__2h, E (List Int) y26_0 h29, Bx b37 [(.int .i64 y31_0), (.int .i64 y31_1), (h34).v], E (List (List Int)) y31_2 h34, E (List Int) y40 h43, E (List Int) y45_0 h48, Gl 0 [.int .i64 2, .int .i64 3, .int .i64 5, .int .i64 7]])
          replace hX := hX.trans0 hx; clear hx
          refine hold hX ?_
          obtain ⟨y83, e, hF84⟩ := bindS hF79; clear hF79
          have ey83 := e; clear e
          refine callFx (laws_eqRelation_c y31_0 y31_1 y31_2 h34 y78_0 y78_1 y78_2 h81 y83 ey83) H ⟨Vw.own 6 rfl, Vw.own 0 rfl, trivial⟩ ?_; clear H ey83
          rintro _ _ w85 ⟨rfl, rfl⟩ hx (H : Cx w0 fp0 S0 w85 [E (List (List Int)) y78_2 h81, Es (List Int) aPorts_ aPorts_h, Bx b5 [(.int .i64 aR__0), (.int .i64 aR__1), (aR__2h).v], Es (List (List Int)) aR__2 aR__2h, E (List Int) y26_0 h29, Bx b37 [(.int .i64 y31_0), (.int .i64 y31_1), (h34).v], E (List (List Int)) y31_2 h34, E (List Int) y40 h43, E (List Int) y45_0 h48, Gl 0 [.int .i64 2, .int .i64 3, .int .i64 5, .int .i64 7]])
          replace hX := hX.trans0 hx; clear hx
          refine hold hX ?_
          obtain ⟨a86, e, hF87⟩ := bindS hF84; clear hF84
          refine boolO e ?_; clear e
          cases a86
          · have hF88 := condF hF87; clear hF87
            refine sq ?_
            obtain ⟨y89, e, hF90⟩ := bindS hF88; clear hF88
            have ey89 := e; clear e
            refine callF (laws_toIntS_c aPorts_ aPorts_h y89 ey89) (Γi := []) H ⟨Vw.sh 1 rfl, trivial⟩ ?_; clear H ey89
            rintro _ _ w91 ⟨h92, rfl, rfl⟩ (H : Cx w0 fp0 S0 w91 [E (List Int) y89 h92, E (List (List Int)) y78_2 h81, Es (List Int) aPorts_ aPorts_h, Bx b5 [(.int .i64 aR__0), (.int .i64 aR__1), (aR__2h).v], Es (List (List Int)) aR__2 aR__2h, E (List Int) y26_0 h29, Bx b37 [(.int .i64 y31_0), (.int .i64 y31_1), (h34).v], E (List (List Int)) y31_2 h34, E (List Int) y40 h43, E (List Int) y45_0 h48, Gl 0 [.int .i64 2, .int .i64 3, .int .i64 5, .int .i64 7]])
            obtain ⟨y94, e, hF95⟩ := bindS hF90; clear hF90
            have ey94 := e; clear e
            refine callF (laws_eqIntS_c y40 h43 y89 h92 y94 ey94) (Γi := []) H ⟨Vw.own 8 rfl, Vw.own 0 rfl, trivial⟩ ?_; clear H ey94
            rintro _ _ w96 ⟨rfl, rfl⟩ (H : Cx w0 fp0 S0 w96 [E (List Int) y89 h92, E (List (List Int)) y78_2 h81, Es (List Int) aPorts_ aPorts_h, Bx b5 [(.int .i64 aR__0), (.int .i64 aR__1), (aR__2h).v], Es (List (List Int)) aR__2 aR__2h, E (List Int) y26_0 h29, Bx b37 [(.int .i64 y31_0), (.int .i64 y31_1), (h34).v], E (List (List Int)) y31_2 h34, E (List Int) y40 h43, E (List Int) y45_0 h48, Gl 0 [.int .i64 2, .int .i64 3, .int .i64 5, .int .i64 7]])
            obtain ⟨a97, e, hF98⟩ := bindS hF95; clear hF95
            refine boolO e ?_; clear e
            cases a97
            · have hF99 := condF hF98; clear hF98
              refine loadN [(.int .i64 y31_0), (.int .i64 y31_1), (h34).v] rfl (fun j u hj => H.bx 6 rfl hj) ?_
              obtain ⟨y100, e, hF101⟩ := bindS hF99; clear hF99
              obtain ⟨⟨y100_0_0, y100_0_1, y100_0_2⟩, y100_1⟩ := y100
              have ey100 := e; clear e
              replace H := H.sel [7, 0, 1, 2, 3, 4, 5, 6, 8, 9, 10] rfl
              refine callF (laws_markRelation_c y31_0 y31_1 y31_2 h34 1 y100_0_0 y100_0_1 y100_0_2 y100_1 ey100) (Γi := [E (List (List Int)) y31_2 h34]) H trivial ?_; clear H ey100
              rintro _ _ w102 ⟨rfl, rfl⟩ (H : Cx w0 fp0 S0 w102 [E (List (List Int)) y100_0_2 h34, E (List Int) y89 h92, E (List (List Int)) y78_2 h81, Es (List Int) aPorts_ aPorts_h, Bx b5 [(.int .i64 aR__0), (.int .i64 aR__1), (aR__2h).v], Es (List (List Int)) aR__2 aR__2h, E (List Int) y26_0 h29, Bx b37 [(.int .i64 y31_0), (.int .i64 y31_1), (h34).v], E (List Int) y40 h43, E (List Int) y45_0 h48, Gl 0 [.int .i64 2, .int .i64 3, .int .i64 5, .int .i64 7]])
              obtain ⟨y103, e, hF104⟩ := bindS hF101; clear hF101
              obtain ⟨y103_0, y103_1⟩ := y103
              have ey103 := e; clear e
              replace H := H.sel [8, 0, 1, 2, 3, 4, 5, 6, 7, 9, 10] rfl
              refine callF (laws_markIntS_c y40 h43 y100_1 y103_0 y103_1 ey103) (Γi := [E (List Int) y40 h43]) H trivial ?_; clear H ey103
              rintro _ _ w105 ⟨rfl, rfl⟩ (H : Cx w0 fp0 S0 w105 [E (List Int) y103_0 h43, E (List (List Int)) y100_0_2 h34, E (List Int) y89 h92, E (List (List Int)) y78_2 h81, Es (List Int) aPorts_ aPorts_h, Bx b5 [(.int .i64 aR__0), (.int .i64 aR__1), (aR__2h).v], Es (List (List Int)) aR__2 aR__2h, E (List Int) y26_0 h29, Bx b37 [(.int .i64 y31_0), (.int .i64 y31_1), (h34).v], E (List Int) y45_0 h48, Gl 0 [.int .i64 2, .int .i64 3, .int .i64 5, .int .i64 7]])
              refine sq ?_
              obtain ⟨r121, hF123, hF122⟩ := bindS hF104; clear hF104
              refine cut (fun (q124 : Bool) => [(0, (.int .i64 aP_)), (2, (aPorts_h).v), (3, (.int .i64 aQ_)), (5, (.pointer (some ⟨b5, 0, none⟩))), (10, (h29).v), (11, (.bool y26_1)), (14, (h48).v), (88, (.bool q124))]) (fun (q124 : Bool) w' => q124 = r121 ∧ Cx w0 fp0 S0 w' [Es (List Int) aPorts_ aPorts_h, Bx b5 [(.int .i64 aR__0), (.int .i64 aR__1), (aR__2h).v], Es (List (List Int)) aR__2 aR__2h, E (List Int) y26_0 h29, E (List Int) y45_0 h48, Gl 0 [.int .i64 2, .int .i64 3, .int .i64 5, .int .i64 7]]) ?_ ?_
              · skip
                obtain ⟨a125, e, hF126⟩ := bindS hF123; clear hF123
                refine boolO e ?_; clear e
                cases a125
                · have hF127 := condF hF126; clear hF126
                  obtain ⟨y128, e, hF129⟩ := bindS hF127; clear hF127
                  have ey128 := e; clear e
                  refine callF (laws_eqIntS_c y45_0 h48 y26_0 h29 y128 ey128) (Γi := []) H ⟨Vw.own 9 rfl, Vw.own 7 rfl, trivial⟩ ?_; clear H ey128
                  rintro _ _ w130 ⟨rfl, rfl⟩ (H : Cx w0 fp0 S0 w130 [E (List Int) y103_0 h43, E (List (List Int)) y100_0_2 h34, E (List Int) y89 h92, E (List (List Int)) y78_2 h81, Es (List Int) aPorts_ aPorts_h, Bx b5 [(.int .i64 aR__0), (.int .i64 aR__1), (aR__2h).v], Es (List (List Int)) aR__2 aR__2h, E (List Int) y26_0 h29, Bx b37 [(.int .i64 y31_0), (.int .i64 y31_1), (h34).v], E (List Int) y45_0 h48, Gl 0 [.int .i64 2, .int .i64 3, .int .i64 5, .int .i64 7]])
                  obtain ⟨a131, e, hF132⟩ := bindS hF129; clear hF129
                  refine boolO e ?_; clear e
                  cases a131
                  · have hF133 := condF hF132; clear hF132
                    obtain ⟨a134, e, hF135⟩ := bindS hF133; clear hF133
                    refine boolO e ?_; clear e
                    exact ⟨a134, ⟨rfl, rfl, rfl, rfl, rfl, rfl, rfl, rfl, trivial⟩, Option.some.inj hF135, H.sel [4, 5, 6, 7, 9, 10] rfl⟩
                  · have hF136 := condT hF132; clear hF132
                    exact ⟨true, ⟨rfl, rfl, rfl, rfl, rfl, rfl, rfl, rfl, trivial⟩, Option.some.inj hF136, H.sel [4, 5, 6, 7, 9, 10] rfl⟩
                · have hF137 := condT hF126; clear hF126
                  exact ⟨true, ⟨rfl, rfl, rfl, rfl, rfl, rfl, rfl, rfl, trivial⟩, Option.some.inj hF137, H.sel [4, 5, 6, 7, 9, 10] rfl⟩
              · clear hF123 H
                rintro T139 s119 w138 ⟨hr, (H : Cx w0 fp0 S0 w138 [Es (List Int) aPorts_ aPorts_h, Bx b5 [(.int .i64 aR__0), (.int .i64 aR__1), (aR__2h).v], Es (List (List Int)) aR__2 aR__2h, E (List Int) y26_0 h29, E (List Int) y45_0 h48, Gl 0 [.int .i64 2, .int .i64 3, .int .i64 5, .int .i64 7]])⟩
                subst hr
                cases s119
                · have hF140 := condF hF122; clear hF122
                  obtain ⟨y141, e, hF142⟩ := bindS hF140; clear hF140
                  obtain ⟨y141_0, y141_1⟩ := y141
                  have ey141 := e; clear e
                  replace H := H.sel [4, 0, 1, 2, 3, 5] rfl
                  refine callF (laws_markIntS_c y45_0 h48 1 y141_0 y141_1 ey141) (Γi := [E (List Int) y45_0 h48]) H trivial ?_; clear H ey141
                  rintro _ _ w143 ⟨rfl, rfl⟩ (H : Cx w0 fp0 S0 w143 [E (List Int) y141_0 h48, Es (List Int) aPorts_ aPorts_h, Bx b5 [(.int .i64 aR__0), (.int .i64 aR__1), (aR__2h).v], Es (List (List Int)) aR__2 aR__2h, E (List Int) y26_0 h29, Gl 0 [.int .i64 2, .int .i64 3, .int .i64 5, .int .i64 7]])
                  obtain ⟨y144, e, hF145⟩ := bindS hF142; clear hF142
                  have ey144 := e; clear e
                  refine callF (laws_heldIntS_c y141_0 h48 1 y144 ey144) (Γi := []) H ⟨Vw.own 0 rfl, trivial⟩ ?_; clear H ey144
                  rintro _ _ w146 ⟨rfl, rfl⟩ (H : Cx w0 fp0 S0 w146 [E (List Int) y141_0 h48, Es (List Int) aPorts_ aPorts_h, Bx b5 [(.int .i64 aR__0), (.int .i64 aR__1), (aR__2h).v], Es (List (List Int)) aR__2 aR__2h, E (List Int) y26_0 h29, Gl 0 [.int .i64 2, .int .i64 3, .int .i64 5, .int .i64 7]])
                  refine sq ?_
                  obtain ⟨a147, e, hF148⟩ := bindS hF145; clear hF145
                  refine boolO e ?_; clear e
                  cases a147
                  · have hF149 := condF hF148; clear hF148
                    refine sq ?_
                    obtain ⟨a150, e, hF151⟩ := bindS hF149; clear hF149
                    refine boolO e ?_; clear e
                    cases a150
                    · have hF152 := condF hF151; clear hF151
                      refine loadN [(.int .i64 aR__0), (.int .i64 aR__1), (aR__2h).v] rfl (fun j u hj => H.bx 2 rfl hj) ?_
                      obtain ⟨y153, e, hF154⟩ := bindS hF152; clear hF152
                      obtain ⟨y153_0, y153_1, y153_2⟩ := y153
                      have ey153 := e; clear e
                      refine callF (laws_toRelation_c aR__0 aR__1 aR__2 aR__2h y153_0 y153_1 y153_2 ey153) (Γi := []) H ⟨Vw.sh 3 rfl, trivial⟩ ?_; clear H ey153
                      rintro _ _ w155 ⟨h156, rfl, rfl⟩ (H : Cx w0 fp0 S0 w155 [E (List (List Int)) y153_2 h156, E (List Int) y141_0 h48, Es (List Int) aPorts_ aPorts_h, Bx b5 [(.int .i64 aR__0), (.int .i64 aR__1), (aR__2h).v], Es (List (List Int)) aR__2 aR__2h, E (List Int) y26_0 h29, Gl 0 [.int .i64 2, .int .i64 3, .int .i64 5, .int .i64 7]])
                      obtain ⟨y158, e, hF159⟩ := bindS hF154; clear hF154
                      have ey158 := e; clear e
                      refine callF (laws_toIntS_c aPorts_ aPorts_h y158 ey158) (Γi := []) H ⟨Vw.sh 2 rfl, trivial⟩ ?_; clear H ey158
                      rintro _ _ w160 ⟨h161, rfl, rfl⟩ (H : Cx w0 fp0 S0 w160 [E (List Int) y158 h161, E (List (List Int)) y153_2 h156, E (List Int) y141_0 h48, Es (List Int) aPorts_ aPorts_h, Bx b5 [(.int .i64 aR__0), (.int .i64 aR__1), (aR__2h).v], Es (List (List Int)) aR__2 aR__2h, E (List Int) y26_0 h29, Gl 0 [.int .i64 2, .int .i64 3, .int .i64 5, .int .i64 7]])
                      obtain ⟨y163, e, hF164⟩ := bindS hF159; clear hF159
                      obtain ⟨y163_0, y163_1⟩ := y163
                      have ey163 := e; clear e
                      refine callF (impl_ReplaceablePorts_c aP_ y153_0 y153_1 y153_2 h156 y158 h161 aQ_ y163_0 y163_1 ey163) (Γi := []) H ⟨Vw.own 1 rfl, Vw.own 0 rfl, Vw.gl 7 rfl, trivial⟩ ?_; clear H ey163
                      rintro _ _ w165 ⟨h166, rfl, rfl⟩ (H : Cx w0 fp0 S0 w165 [E (List Int) y163_0 h166, E (List Int) y158 h161, E (List (List Int)) y153_2 h156, E (List Int) y141_0 h48, Es (List Int) aPorts_ aPorts_h, Bx b5 [(.int .i64 aR__0), (.int .i64 aR__1), (aR__2h).v], Es (List (List Int)) aR__2 aR__2h, E (List Int) y26_0 h29, Gl 0 [.int .i64 2, .int .i64 3, .int .i64 5, .int .i64 7]])
                      refine sq ?_
                      obtain ⟨r179, hF181, hF180⟩ := bindS hF164; clear hF164
                      refine cut (fun (q182 : Bool) => [(14, (h48).v), (17, (.int .i64 y141_1)), (118, (.bool q182))]) (fun (q182 : Bool) w' => q182 = r179 ∧ Cx w0 fp0 S0 w' [E (List Int) y141_0 h48, Gl 0 [.int .i64 2, .int .i64 3, .int .i64 5, .int .i64 7]]) ?_ ?_
                      · skip
                        obtain ⟨y183, e, hF184⟩ := bindS hF181; clear hF181
                        have ey183 := e; clear e
                        refine callF (laws_eqIntS_c y163_0 h166 y26_0 h29 y183 ey183) (Γi := []) H ⟨Vw.own 0 rfl, Vw.own 7 rfl, trivial⟩ ?_; clear H ey183
                        rintro _ _ w185 ⟨rfl, rfl⟩ (H : Cx w0 fp0 S0 w185 [E (List Int) y163_0 h166, E (List Int) y158 h161, E (List (List Int)) y153_2 h156, E (List Int) y141_0 h48, Es (List Int) aPorts_ aPorts_h, Bx b5 [(.int .i64 aR__0), (.int .i64 aR__1), (aR__2h).v], Es (List (List Int)) aR__2 aR__2h, E (List Int) y26_0 h29, Gl 0 [.int .i64 2, .int .i64 3, .int .i64 5, .int .i64 7]])
                        obtain ⟨a186, e, hF187⟩ := bindS hF184; clear hF184
                        refine boolO e ?_; clear e
                        cases a186
                        · have hF188 := condF hF187; clear hF187
                          obtain ⟨a189, e, hF190⟩ := bindS hF188; clear hF188
                          refine boolO e ?_; clear e
                          exact ⟨a189, ⟨rfl, rfl, rfl, trivial⟩, Option.some.inj hF190, H.sel [3, 8] rfl⟩
                        · have hF191 := condT hF187; clear hF187
                          exact ⟨true, ⟨rfl, rfl, rfl, trivial⟩, Option.some.inj hF191, H.sel [3, 8] rfl⟩
                      · clear hF181 H
                        rintro T193 s177 w192 ⟨hr, (H : Cx w0 fp0 S0 w192 [E (List Int) y141_0 h48, Gl 0 [.int .i64 2, .int .i64 3, .int .i64 5, .int .i64 7]])⟩
                        subst hr
                        cases s177
                        · have hF194 := condF hF180; clear hF180
                          obtain ⟨y195, e, hF196⟩ := bindS hF194; clear hF194
                          have ey195 := e; clear e
                          refine callF (laws_heldIntS_c y141_0 h48 1 y195 ey195) (Γi := []) H ⟨Vw.own 0 rfl, trivial⟩ ?_; clear H ey195
                          rintro _ _ w197 ⟨rfl, rfl⟩ (H : Cx w0 fp0 S0 w197 [E (List Int) y141_0 h48, Gl 0 [.int .i64 2, .int .i64 3, .int .i64 5, .int .i64 7]])
                          refine sq ?_
                          obtain ⟨a198, e, hF199⟩ := bindS hF196; clear hF196
                          refine boolO e ?_; clear e
                          cases a198
                          · have hF200 := condF hF199; clear hF199
                            refine sq ?_
                            obtain ⟨a201, e, hF202⟩ := bindS hF200; clear hF200
                            refine boolO e ?_; clear e
                            cases a201
                            · have hF203 := condF hF202; clear hF202
                              cases hF203
                              exact ⟨_, _, rfl, ⟨rfl, rfl⟩, (H.sel [] rfl).close trivial⟩
                            · have hF204 := condT hF202; clear hF202
                              cases hF204
                              exact ⟨_, _, rfl, ⟨rfl, rfl⟩, (H.sel [] rfl).close trivial⟩
                          · have hF205 := condT hF199; clear hF199
                            cases hF205
                            exact ⟨_, _, rfl, ⟨rfl, rfl⟩, (H.sel [] rfl).close trivial⟩
                        · have hF206 := condT hF180; clear hF180
                          cases hF206
                          exact ⟨_, _, rfl, ⟨rfl, rfl⟩, (H.sel [] rfl).close trivial⟩
                    · have hF207 := condT hF151; clear hF151
                      cases hF207
                      exact ⟨_, _, rfl, ⟨rfl, rfl⟩, (H.sel [] rfl).close trivial⟩
                  · have hF208 := condT hF148; clear hF148
                    cases hF208
                    exact ⟨_, _, rfl, ⟨rfl, rfl⟩, (H.sel [] rfl).close trivial⟩
                · have hF209 := condT hF122; clear hF122
                  cases hF209
                  exact ⟨_, _, rfl, ⟨rfl, rfl⟩, (H.sel [] rfl).close trivial⟩
            · have hF210 := condT hF98; clear hF98
              cases hF210
              exact ⟨_, _, rfl, ⟨rfl, rfl⟩, (H.sel [] rfl).close trivial⟩
          · have hF211 := condT hF87; clear hF87
            cases hF211
            exact ⟨_, _, rfl, ⟨rfl, rfl⟩, (H.sel [] rfl).close trivial⟩
        · have hF212 := condT hF62; clear hF62
          cases hF212
          exact ⟨_, _, rfl, ⟨rfl, rfl⟩, (H.sel [] rfl).close trivial⟩
    · have hF213 := condT hF14; clear hF14
      cases hF213
      exact ⟨_, _, rfl, ⟨rfl, rfl⟩, (H.sel [] rfl).close trivial⟩
  · have hF214 := condT hF8; clear hF8
    cases hF214
    exact ⟨_, _, rfl, ⟨rfl, rfl⟩, (H.sel [] rfl).close trivial⟩
end Go.Proofs.YteikcdofblclhaaDoor
