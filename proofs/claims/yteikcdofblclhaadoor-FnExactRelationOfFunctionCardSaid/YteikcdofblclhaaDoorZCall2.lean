/-
  Contracts, printed by a program (wip/y/gen.py): each function of Go computes its partial function. Condition of each: its partial function yields a value.
-/
import Derived.Test.YteikcdofblclhaaDoorZCall
namespace Go.Proofs.YteikcdofblclhaaDoor
open Go Go.Proofs.YteikcdofblclhaaDoor.RW
set_option maxRecDepth 100000
set_option linter.unusedVariables false

theorem laws_FnExactRelationOfFunction_c (aP_ : Int) (aLeft_ : Int) (aRight_ : Int) (aPorts_ : List Int) (aPorts_h : Hd) (aM__0 : Int) (aM__1 : List (List Int)) (aM__1h : Hd) (y : Bool) (hF : F_laws_FnExactRelationOfFunction aP_ aLeft_ aRight_ aPorts_ (aM__0, aM__1) = some y) :
    ConF Tryd.prog 5 #[(.int .i64 aP_), (.int .i64 aLeft_), (.int .i64 aRight_), (aPorts_h).v, (.agg #[(.int .i64 aM__0), (aM__1h).v])] [Es (List Int) aPorts_ aPorts_h, Es (List (List Int)) aM__1 aM__1h, Gl 0 [.int .i64 2, .int .i64 3, .int .i64 5, .int .i64 7]] [] (fun v Γ' => v = (.bool y) ∧ Γ' = []) := by
  intro w0 S0 fp0 hI hS
  have H : Cx w0 fp0 S0 w0 [Es (List Int) aPorts_ aPorts_h, Es (List (List Int)) aM__1 aM__1h, Gl 0 [.int .i64 2, .int .i64 3, .int .i64 5, .int .i64 7]] := Cx.start hI hS
  clear hI hS
  refine enterC (args := [_, _, _, _, _]) gok Tryd.func5 rfl _ rfl rfl rfl ?_
  refine box_ H ?_; clear H; intro b5 w4 hx H
  clear hx
  replace H : Cx w0 fp0 S0 w4 [Bx b5 [(.int .i64 aM__0), (aM__1h).v], Es (List Int) aPorts_ aPorts_h, Es (List (List Int)) aM__1 aM__1h, Gl 0 [.int .i64 2, .int .i64 3, .int .i64 5, .int .i64 7]] := H
  refine sq ?_
  refine lenE (H.rs (α := List Int) 1 rfl).len ?_
  obtain ⟨a7, e, hF8⟩ := bindS hF; clear hF
  refine boolO e ?_; clear e
  cases a7
  · have hF9 := condF hF8; clear hF8
    refine loadN [(.int .i64 aM__0), (aM__1h).v] rfl (fun j u hj => H.bx 0 rfl hj) ?_
    obtain ⟨y10, e, hF11⟩ := bindS hF9; clear hF9
    have ey10 := e; clear e
    refine callF (laws_szMatrix_c aM__0 aM__1 aM__1h 1048576 y10 ey10) (Γi := []) H ⟨Vw.sh 2 rfl, trivial⟩ ?_; clear H ey10
    rintro _ _ w12 ⟨rfl, rfl⟩ (H : Cx w0 fp0 S0 w12 [Bx b5 [(.int .i64 aM__0), (aM__1h).v], Es (List Int) aPorts_ aPorts_h, Es (List (List Int)) aM__1 aM__1h, Gl 0 [.int .i64 2, .int .i64 3, .int .i64 5, .int .i64 7]])
    refine sq ?_
    obtain ⟨a13, e, hF14⟩ := bindS hF11; clear hF11
    refine boolO e ?_; clear e
    cases a13
    · have hF15 := condF hF14; clear hF14
      obtain ⟨r130, hF132, hF131⟩ := bindS hF15; clear hF15
      refine heldJ H [12, 13, 10] (.fst 0 (.fst 1 (.fst 2 (.fst 3 (.fst 5 (.alts (.alt 4 (.alts (.alt 6 (.alts (.alt 7 (.fst 8 (.pure 10 (.fst 9 (.act 11 (.act 12 (.act 13 .done)))))) (.alt 11 (.act 7 (.fst 8 (.pure 10 (.fst 9 (.act 12 (.act 13 .done)))))) .no))) (.alt 11 (.act 6 (.act 7 (.fst 8 (.pure 10 (.fst 9 (.act 12 (.act 13 .done))))))) .no))) (.alt 11 (.act 4 (.act 6 (.act 7 (.fst 8 (.pure 10 (.fst 9 (.act 12 (.act 13 .done)))))))) .no)))))))) mixed [] trivial (by kernel_rfl) (fun (q133 : (Int × Int × List (List Int) × Bool) × (Hd × Nat)) => [(0, (.int .i64 aP_)), (1, (.int .i64 aLeft_)), (2, (.int .i64 aRight_)), (3, (aPorts_h).v), (9, (.pointer (some ⟨b5, 0, none⟩))), (12, (.pointer (some ⟨q133.2.2, 0, none⟩))), (13, (.bool q133.1.2.2.2))]) (fun (q133 : (Int × Int × List (List Int) × Bool) × (Hd × Nat)) w' => (q133.1.1, q133.1.2.1, q133.1.2.2.1, q133.1.2.2.2) = r130 ∧ Cx w0 fp0 S0 w' [Es (List Int) aPorts_ aPorts_h, Bx b5 [(.int .i64 aM__0), (aM__1h).v], Es (List (List Int)) aM__1 aM__1h, Bx q133.2.2 [(.int .i64 q133.1.1), (.int .i64 q133.1.2.1), (q133.2.1).v], E (List (List Int)) q133.1.2.2.1 q133.2.1, Gl 0 [.int .i64 2, .int .i64 3, .int .i64 5, .int .i64 7]]) ?_ ?_
      · skip
        clear H; intro w134 H
        have hX : Ext w134 w134 := Upd.refl _ _
        have H0 := H
        refine loadNX [(.int .i64 aM__0), (aM__1h).v] rfl (fun j u hj => H.bx 0 rfl hj) ?_
        refine both ?_ ?_
        · skip
          obtain ⟨y154, e, hF155⟩ := bindS hF132; clear hF132
          have ey154 := e; clear e
          refine callFx (laws_toIntS_c aPorts_ aPorts_h y154 ey154) H ⟨Vw.sh 1 rfl, trivial⟩ ?_; clear H ey154
          rintro _ _ w156 ⟨h157, rfl, rfl⟩ hx (H : Cx w0 fp0 S0 w156 [E (List Int) y154 h157, Bx b5 [(.int .i64 aM__0), (aM__1h).v], Es (List Int) aPorts_ aPorts_h, Es (List (List Int)) aM__1 aM__1h, Gl 0 [.int .i64 2, .int .i64 3, .int .i64 5, .int .i64 7]])
          replace hX := hX.trans0 hx; clear hx
          refine hold hX ?_
          refine both ?_ ?_
          · skip
            obtain ⟨y173, e, hF174⟩ := bindS hF155; clear hF155
            obtain ⟨y173_0, y173_1⟩ := y173
            have ey173 := e; clear e
            refine callFx (laws_toMatrix_c aM__0 aM__1 aM__1h y173_0 y173_1 ey173) H ⟨Vw.sh 3 rfl, trivial⟩ ?_; clear H ey173
            rintro _ _ w175 ⟨h176, rfl, rfl⟩ hx (H : Cx w0 fp0 S0 w175 [E (List (List Int)) y173_1 h176, E (List Int) y154 h157, Bx b5 [(.int .i64 aM__0), (aM__1h).v], Es (List Int) aPorts_ aPorts_h, Es (List (List Int)) aM__1 aM__1h, Gl 0 [.int .i64 2, .int .i64 3, .int .i64 5, .int .i64 7]])
            replace hX := hX.trans0 hx; clear hx
            refine hold hX ?_
            refine both ?_ ?_
            · skip
              obtain ⟨y187, e, hF188⟩ := bindS hF174; clear hF174
              obtain ⟨⟨y187_0_0, y187_0_1, y187_0_2⟩, y187_1⟩ := y187
              have ey187 := e; clear e
              refine callFx (spec_RelationOfFunction_c aP_ aLeft_ aRight_ y154 h157 y173_0 y173_1 h176 y187_0_0 y187_0_1 y187_0_2 y187_1 ey187) H ⟨Vw.own 1 rfl, Vw.own 0 rfl, trivial⟩ ?_; clear H ey187
              rintro _ _ w189 ⟨h190, rfl, rfl⟩ hx (H : Cx w0 fp0 S0 w189 [E (List (List Int)) y187_0_2 h190, E (List (List Int)) y173_1 h176, E (List Int) y154 h157, Bx b5 [(.int .i64 aM__0), (aM__1h).v], Es (List Int) aPorts_ aPorts_h, Es (List (List Int)) aM__1 aM__1h, Gl 0 [.int .i64 2, .int .i64 3, .int .i64 5, .int .i64 7]])
              replace hX := hX.trans0 hx; clear hx
              refine hold hX ?_
              refine alloc_ gok rfl H ?_; clear H; intro b193 w192 hx H
              replace hX := hX.trans0 hx; clear hx
              replace H : Cx w0 fp0 S0 w192 [Bx b193 [(.int .i64 0), (.int .i64 0), (.slice none 0 0)], E (List (List Int)) y187_0_2 h190, E (List (List Int)) y173_1 h176, E (List Int) y154 h157, Bx b5 [(.int .i64 aM__0), (aM__1h).v], Es (List Int) aPorts_ aPorts_h, Es (List (List Int)) aM__1 aM__1h, Gl 0 [.int .i64 2, .int .i64 3, .int .i64 5, .int .i64 7]] := H
              refine hold hX ?_
              refine stA gok [(.int .i64 y187_0_0), (.int .i64 y187_0_1), (h190).v] rfl H rfl rfl rfl ?_; clear H; intro w195 H
              replace H : Cx w0 fp0 S0 w195 [Bx b193 [(.int .i64 y187_0_0), (.int .i64 y187_0_1), (h190).v], E (List (List Int)) y187_0_2 h190, E (List (List Int)) y173_1 h176, E (List Int) y154 h157, Bx b5 [(.int .i64 aM__0), (aM__1h).v], Es (List Int) aPorts_ aPorts_h, Es (List (List Int)) aM__1 aM__1h, Gl 0 [.int .i64 2, .int .i64 3, .int .i64 5, .int .i64 7]] := H
              refine hold trivial ?_
              refine hold trivial ?_
              exact ⟨((y187_0_0, y187_0_1, y187_0_2, y187_1), (h190, b193)), ⟨rfl, rfl, rfl, rfl, rfl, rfl, rfl, trivial⟩, Option.some.inj hF188, H.sel [5, 4, 6, 0, 1, 7] rfl⟩
            · skip
              refine both ?_ ?_
              · skip
                obtain ⟨a196, eq197, hF198⟩ := bindS hF174; clear hF174
                refine alloc_ gok rfl H ?_; clear H; intro b200 w199 hx H
                replace hX := hX.trans0 hx; clear hx
                replace H : Cx w0 fp0 S0 w199 [Bx b200 [(.int .i64 0), (.int .i64 0), (.slice none 0 0)], E (List (List Int)) y173_1 h176, E (List Int) y154 h157, Bx b5 [(.int .i64 aM__0), (aM__1h).v], Es (List Int) aPorts_ aPorts_h, Es (List (List Int)) aM__1 aM__1h, Gl 0 [.int .i64 2, .int .i64 3, .int .i64 5, .int .i64 7]] := H
                refine hold hX ?_
                have e := eq197; clear eq197
                obtain ⟨⟨a196_0_0, a196_0_1, a196_0_2⟩, a196_1⟩ := a196
                have ea196 := e; clear e
                refine callFx (spec_RelationOfFunction_c aP_ aLeft_ aRight_ y154 h157 y173_0 y173_1 h176 a196_0_0 a196_0_1 a196_0_2 a196_1 ea196) H ⟨Vw.own 2 rfl, Vw.own 1 rfl, trivial⟩ ?_; clear H ea196
                rintro _ _ w202 ⟨h203, rfl, rfl⟩ hx (H : Cx w0 fp0 S0 w202 [E (List (List Int)) a196_0_2 h203, Bx b200 [(.int .i64 0), (.int .i64 0), (.slice none 0 0)], E (List (List Int)) y173_1 h176, E (List Int) y154 h157, Bx b5 [(.int .i64 aM__0), (aM__1h).v], Es (List Int) aPorts_ aPorts_h, Es (List (List Int)) aM__1 aM__1h, Gl 0 [.int .i64 2, .int .i64 3, .int .i64 5, .int .i64 7]])
                replace hX := hX.trans0 hx; clear hx
                refine hold hX ?_
                replace H := H.sel [1, 0, 2, 3, 4, 5, 6, 7] rfl
                refine stA gok [(.int .i64 a196_0_0), (.int .i64 a196_0_1), (h203).v] rfl H rfl rfl rfl ?_; clear H; intro w205 H
                replace H : Cx w0 fp0 S0 w205 [Bx b200 [(.int .i64 a196_0_0), (.int .i64 a196_0_1), (h203).v], E (List (List Int)) a196_0_2 h203, E (List (List Int)) y173_1 h176, E (List Int) y154 h157, Bx b5 [(.int .i64 aM__0), (aM__1h).v], Es (List Int) aPorts_ aPorts_h, Es (List (List Int)) aM__1 aM__1h, Gl 0 [.int .i64 2, .int .i64 3, .int .i64 5, .int .i64 7]] := H
                refine hold trivial ?_
                refine hold trivial ?_
                exact ⟨((a196_0_0, a196_0_1, a196_0_2, a196_1), (h203, b200)), ⟨rfl, rfl, rfl, rfl, rfl, rfl, rfl, trivial⟩, Option.some.inj hF198, H.sel [5, 4, 6, 0, 1, 7] rfl⟩
              · skip
                exact trivial
          · skip
            refine both ?_ ?_
            · skip
              obtain ⟨a206, eq207, hF208⟩ := bindS hF155; clear hF155
              obtain ⟨a209, eq210, hF211⟩ := bindS hF208; clear hF208
              refine alloc_ gok rfl H ?_; clear H; intro b213 w212 hx H
              replace hX := hX.trans0 hx; clear hx
              replace H : Cx w0 fp0 S0 w212 [Bx b213 [(.int .i64 0), (.int .i64 0), (.slice none 0 0)], E (List Int) y154 h157, Bx b5 [(.int .i64 aM__0), (aM__1h).v], Es (List Int) aPorts_ aPorts_h, Es (List (List Int)) aM__1 aM__1h, Gl 0 [.int .i64 2, .int .i64 3, .int .i64 5, .int .i64 7]] := H
              refine hold hX ?_
              have e := eq207; clear eq207
              obtain ⟨a206_0, a206_1⟩ := a206
              have ea206 := e; clear e
              refine callFx (laws_toMatrix_c aM__0 aM__1 aM__1h a206_0 a206_1 ea206) H ⟨Vw.sh 4 rfl, trivial⟩ ?_; clear H ea206
              rintro _ _ w215 ⟨h216, rfl, rfl⟩ hx (H : Cx w0 fp0 S0 w215 [E (List (List Int)) a206_1 h216, Bx b213 [(.int .i64 0), (.int .i64 0), (.slice none 0 0)], E (List Int) y154 h157, Bx b5 [(.int .i64 aM__0), (aM__1h).v], Es (List Int) aPorts_ aPorts_h, Es (List (List Int)) aM__1 aM__1h, Gl 0 [.int .i64 2, .int .i64 3, .int .i64 5, .int .i64 7]])
              replace hX := hX.trans0 hx; clear hx
              refine hold hX ?_
              have e := eq210; clear eq210
              obtain ⟨⟨a209_0_0, a209_0_1, a209_0_2⟩, a209_1⟩ := a209
              have ea209 := e; clear e
              refine callFx (spec_RelationOfFunction_c aP_ aLeft_ aRight_ y154 h157 a206_0 a206_1 h216 a209_0_0 a209_0_1 a209_0_2 a209_1 ea209) H ⟨Vw.own 2 rfl, Vw.own 0 rfl, trivial⟩ ?_; clear H ea209
              rintro _ _ w218 ⟨h219, rfl, rfl⟩ hx (H : Cx w0 fp0 S0 w218 [E (List (List Int)) a209_0_2 h219, E (List (List Int)) a206_1 h216, Bx b213 [(.int .i64 0), (.int .i64 0), (.slice none 0 0)], E (List Int) y154 h157, Bx b5 [(.int .i64 aM__0), (aM__1h).v], Es (List Int) aPorts_ aPorts_h, Es (List (List Int)) aM__1 aM__1h, Gl 0 [.int .i64 2, .int .i64 3, .int .i64 5, .int .i64 7]])
              replace hX := hX.trans0 hx; clear hx
              refine hold hX ?_
              replace H := H.sel [2, 0, 1, 3, 4, 5, 6, 7] rfl
              refine stA gok [(.int .i64 a209_0_0), (.int .i64 a209_0_1), (h219).v] rfl H rfl rfl rfl ?_; clear H; intro w221 H
              replace H : Cx w0 fp0 S0 w221 [Bx b213 [(.int .i64 a209_0_0), (.int .i64 a209_0_1), (h219).v], E (List (List Int)) a209_0_2 h219, E (List (List Int)) a206_1 h216, E (List Int) y154 h157, Bx b5 [(.int .i64 aM__0), (aM__1h).v], Es (List Int) aPorts_ aPorts_h, Es (List (List Int)) aM__1 aM__1h, Gl 0 [.int .i64 2, .int .i64 3, .int .i64 5, .int .i64 7]] := H
              refine hold trivial ?_
              refine hold trivial ?_
              exact ⟨((a209_0_0, a209_0_1, a209_0_2, a209_1), (h219, b213)), ⟨rfl, rfl, rfl, rfl, rfl, rfl, rfl, trivial⟩, Option.some.inj hF211, H.sel [5, 4, 6, 0, 1, 7] rfl⟩
            · skip
              exact trivial
        · skip
          refine both ?_ ?_
          · skip
            obtain ⟨a222, eq223, hF224⟩ := bindS hF132; clear hF132
            obtain ⟨a225, eq226, hF227⟩ := bindS hF224; clear hF224
            obtain ⟨a228, eq229, hF230⟩ := bindS hF227; clear hF227
            refine alloc_ gok rfl H ?_; clear H; intro b232 w231 hx H
            replace hX := hX.trans0 hx; clear hx
            replace H : Cx w0 fp0 S0 w231 [Bx b232 [(.int .i64 0), (.int .i64 0), (.slice none 0 0)], Bx b5 [(.int .i64 aM__0), (aM__1h).v], Es (List Int) aPorts_ aPorts_h, Es (List (List Int)) aM__1 aM__1h, Gl 0 [.int .i64 2, .int .i64 3, .int .i64 5, .int .i64 7]] := H
            refine hold hX ?_
            have e := eq223; clear eq223
            have ea222 := e; clear e
            refine callFx (laws_toIntS_c aPorts_ aPorts_h a222 ea222) H ⟨Vw.sh 2 rfl, trivial⟩ ?_; clear H ea222
            rintro _ _ w234 ⟨h235, rfl, rfl⟩ hx (H : Cx w0 fp0 S0 w234 [E (List Int) a222 h235, Bx b232 [(.int .i64 0), (.int .i64 0), (.slice none 0 0)], Bx b5 [(.int .i64 aM__0), (aM__1h).v], Es (List Int) aPorts_ aPorts_h, Es (List (List Int)) aM__1 aM__1h, Gl 0 [.int .i64 2, .int .i64 3, .int .i64 5, .int .i64 7]])
            replace hX := hX.trans0 hx; clear hx
            refine hold hX ?_
            have e := eq226; clear eq226
            obtain ⟨a225_0, a225_1⟩ := a225
            have ea225 := e; clear e
            refine callFx (laws_toMatrix_c aM__0 aM__1 aM__1h a225_0 a225_1 ea225) H ⟨Vw.sh 4 rfl, trivial⟩ ?_; clear H ea225
            rintro _ _ w237 ⟨h238, rfl, rfl⟩ hx (H : Cx w0 fp0 S0 w237 [E (List (List Int)) a225_1 h238, E (List Int) a222 h235, Bx b232 [(.int .i64 0), (.int .i64 0), (.slice none 0 0)], Bx b5 [(.int .i64 aM__0), (aM__1h).v], Es (List Int) aPorts_ aPorts_h, Es (List (List Int)) aM__1 aM__1h, Gl 0 [.int .i64 2, .int .i64 3, .int .i64 5, .int .i64 7]])
            replace hX := hX.trans0 hx; clear hx
            refine hold hX ?_
            have e := eq229; clear eq229
            obtain ⟨⟨a228_0_0, a228_0_1, a228_0_2⟩, a228_1⟩ := a228
            have ea228 := e; clear e
            refine callFx (spec_RelationOfFunction_c aP_ aLeft_ aRight_ a222 h235 a225_0 a225_1 h238 a228_0_0 a228_0_1 a228_0_2 a228_1 ea228) H ⟨Vw.own 1 rfl, Vw.own 0 rfl, trivial⟩ ?_; clear H ea228
            rintro _ _ w240 ⟨h241, rfl, rfl⟩ hx (H : Cx w0 fp0 S0 w240 [E (List (List Int)) a228_0_2 h241, E (List (List Int)) a225_1 h238, E (List Int) a222 h235, Bx b232 [(.int .i64 0), (.int .i64 0), (.slice none 0 0)], Bx b5 [(.int .i64 aM__0), (aM__1h).v], Es (List Int) aPorts_ aPorts_h, Es (List (List Int)) aM__1 aM__1h, Gl 0 [.int .i64 2, .int .i64 3, .int .i64 5, .int .i64 7]])
            replace hX := hX.trans0 hx; clear hx
            refine hold hX ?_
            replace H := H.sel [3, 0, 1, 2, 4, 5, 6, 7] rfl
            refine stA gok [(.int .i64 a228_0_0), (.int .i64 a228_0_1), (h241).v] rfl H rfl rfl rfl ?_; clear H; intro w243 H
            replace H : Cx w0 fp0 S0 w243 [Bx b232 [(.int .i64 a228_0_0), (.int .i64 a228_0_1), (h241).v], E (List (List Int)) a228_0_2 h241, E (List (List Int)) a225_1 h238, E (List Int) a222 h235, Bx b5 [(.int .i64 aM__0), (aM__1h).v], Es (List Int) aPorts_ aPorts_h, Es (List (List Int)) aM__1 aM__1h, Gl 0 [.int .i64 2, .int .i64 3, .int .i64 5, .int .i64 7]] := H
            refine hold trivial ?_
            refine hold trivial ?_
            exact ⟨((a228_0_0, a228_0_1, a228_0_2, a228_1), (h241, b232)), ⟨rfl, rfl, rfl, rfl, rfl, rfl, rfl, trivial⟩, Option.some.inj hF230, H.sel [5, 4, 6, 0, 1, 7] rfl⟩
          · skip
            exact trivial
      · clear hF132 H
        rintro T245 ⟨⟨s126_0, s126_1, s126_2, s126_3⟩, ⟨g127_0, g127_1⟩⟩ w244 ⟨hr, (H : Cx w0 fp0 S0 w244 [Es (List Int) aPorts_ aPorts_h, Bx b5 [(.int .i64 aM__0), (aM__1h).v], Es (List (List Int)) aM__1 aM__1h, Bx g127_1 [(.int .i64 s126_0), (.int .i64 s126_1), (g127_0).v], E (List (List Int)) s126_2 g127_0, Gl 0 [.int .i64 2, .int .i64 3, .int .i64 5, .int .i64 7]])⟩
        subst hr
        obtain ⟨y246, e, hF247⟩ := bindS hF131; clear hF131
        have ey246 := e; clear e
        refine callF (laws_toIntS_c aPorts_ aPorts_h y246 ey246) (Γi := []) H ⟨Vw.sh 0 rfl, trivial⟩ ?_; clear H ey246
        rintro _ _ w248 ⟨h249, rfl, rfl⟩ (H : Cx w0 fp0 S0 w248 [E (List Int) y246 h249, Es (List Int) aPorts_ aPorts_h, Bx b5 [(.int .i64 aM__0), (aM__1h).v], Es (List (List Int)) aM__1 aM__1h, Bx g127_1 [(.int .i64 s126_0), (.int .i64 s126_1), (g127_0).v], E (List (List Int)) s126_2 g127_0, Gl 0 [.int .i64 2, .int .i64 3, .int .i64 5, .int .i64 7]])
        refine loadN [(.int .i64 aM__0), (aM__1h).v] rfl (fun j u hj => H.bx 2 rfl hj) ?_
        obtain ⟨y251, e, hF252⟩ := bindS hF247; clear hF247
        obtain ⟨y251_0, y251_1⟩ := y251
        have ey251 := e; clear e
        refine callF (laws_toMatrix_c aM__0 aM__1 aM__1h y251_0 y251_1 ey251) (Γi := []) H ⟨Vw.sh 3 rfl, trivial⟩ ?_; clear H ey251
        rintro _ _ w253 ⟨h254, rfl, rfl⟩ (H : Cx w0 fp0 S0 w253 [E (List (List Int)) y251_1 h254, E (List Int) y246 h249, Es (List Int) aPorts_ aPorts_h, Bx b5 [(.int .i64 aM__0), (aM__1h).v], Es (List (List Int)) aM__1 aM__1h, Bx g127_1 [(.int .i64 s126_0), (.int .i64 s126_1), (g127_0).v], E (List (List Int)) s126_2 g127_0, Gl 0 [.int .i64 2, .int .i64 3, .int .i64 5, .int .i64 7]])
        refine alloc_ gok rfl H ?_; clear H; intro b257 w256 hx H
        clear hx
        replace H : Cx w0 fp0 S0 w256 [Bx b257 [(.int .i64 0), (.slice none 0 0)], E (List (List Int)) y251_1 h254, E (List Int) y246 h249, Es (List Int) aPorts_ aPorts_h, Bx b5 [(.int .i64 aM__0), (aM__1h).v], Es (List (List Int)) aM__1 aM__1h, Bx g127_1 [(.int .i64 s126_0), (.int .i64 s126_1), (g127_0).v], E (List (List Int)) s126_2 g127_0, Gl 0 [.int .i64 2, .int .i64 3, .int .i64 5, .int .i64 7]] := H
        refine stA gok [(.int .i64 y251_0), (h254).v] rfl H rfl rfl rfl ?_; clear H; intro w259 H
        replace H : Cx w0 fp0 S0 w259 [Bx b257 [(.int .i64 y251_0), (h254).v], E (List (List Int)) y251_1 h254, E (List Int) y246 h249, Es (List Int) aPorts_ aPorts_h, Bx b5 [(.int .i64 aM__0), (aM__1h).v], Es (List (List Int)) aM__1 aM__1h, Bx g127_1 [(.int .i64 s126_0), (.int .i64 s126_1), (g127_0).v], E (List (List Int)) s126_2 g127_0, Gl 0 [.int .i64 2, .int .i64 3, .int .i64 5, .int .i64 7]] := H
        refine loadN [(.int .i64 y251_0), (h254).v] rfl (fun j u hj => H.bx 0 rfl hj) ?_
        obtain ⟨y260, e, hF261⟩ := bindS hF252; clear hF252
        obtain ⟨⟨y260_0_0, y260_0_1, y260_0_2⟩, y260_1⟩ := y260
        have ey260 := e; clear e
        refine callF (impl_RelationOfFunction_c aP_ aLeft_ aRight_ y246 h249 y251_0 y251_1 h254 y260_0_0 y260_0_1 y260_0_2 y260_1 ey260) (Γi := []) H ⟨Vw.own 2 rfl, Vw.own 1 rfl, Vw.gl 8 rfl, trivial⟩ ?_; clear H ey260
        rintro _ _ w262 ⟨h263, rfl, rfl⟩ (H : Cx w0 fp0 S0 w262 [E (List (List Int)) y260_0_2 h263, Bx b257 [(.int .i64 y251_0), (h254).v], E (List (List Int)) y251_1 h254, E (List Int) y246 h249, Es (List Int) aPorts_ aPorts_h, Bx b5 [(.int .i64 aM__0), (aM__1h).v], Es (List (List Int)) aM__1 aM__1h, Bx g127_1 [(.int .i64 s126_0), (.int .i64 s126_1), (g127_0).v], E (List (List Int)) s126_2 g127_0, Gl 0 [.int .i64 2, .int .i64 3, .int .i64 5, .int .i64 7]])
        refine alloc_ gok rfl H ?_; clear H; intro b266 w265 hx H
        clear hx
        replace H : Cx w0 fp0 S0 w265 [Bx b266 [(.int .i64 0), (.int .i64 0), (.slice none 0 0)], E (List (List Int)) y260_0_2 h263, Bx b257 [(.int .i64 y251_0), (h254).v], E (List (List Int)) y251_1 h254, E (List Int) y246 h249, Es (List Int) aPorts_ aPorts_h, Bx b5 [(.int .i64 aM__0), (aM__1h).v], Es (List (List Int)) aM__1 aM__1h, Bx g127_1 [(.int .i64 s126_0), (.int .i64 s126_1), (g127_0).v], E (List (List Int)) s126_2 g127_0, Gl 0 [.int .i64 2, .int .i64 3, .int .i64 5, .int .i64 7]] := H
        refine stA gok [(.int .i64 y260_0_0), (.int .i64 y260_0_1), (h263).v] rfl H rfl rfl rfl ?_; clear H; intro w268 H
        replace H : Cx w0 fp0 S0 w268 [Bx b266 [(.int .i64 y260_0_0), (.int .i64 y260_0_1), (h263).v], E (List (List Int)) y260_0_2 h263, Bx b257 [(.int .i64 y251_0), (h254).v], E (List (List Int)) y251_1 h254, E (List Int) y246 h249, Es (List Int) aPorts_ aPorts_h, Bx b5 [(.int .i64 aM__0), (aM__1h).v], Es (List (List Int)) aM__1 aM__1h, Bx g127_1 [(.int .i64 s126_0), (.int .i64 s126_1), (g127_0).v], E (List (List Int)) s126_2 g127_0, Gl 0 [.int .i64 2, .int .i64 3, .int .i64 5, .int .i64 7]] := H
        refine sq ?_
        obtain ⟨r280, hF282, hF281⟩ := bindS hF261; clear hF261
        refine cut (fun (q283 : Bool) => [(0, (.int .i64 aP_)), (1, (.int .i64 aLeft_)), (2, (.int .i64 aRight_)), (3, (aPorts_h).v), (9, (.pointer (some ⟨b5, 0, none⟩))), (12, (.pointer (some ⟨g127_1, 0, none⟩))), (13, (.bool s126_3)), (14, (h249).v), (15, (.pointer (some ⟨b257, 0, none⟩))), (16, (.pointer (some ⟨b266, 0, none⟩))), (17, (.bool y260_1)), (63, (.bool q283))]) (fun (q283 : Bool) w' => q283 = r280 ∧ Cx w0 fp0 S0 w' [Es (List Int) aPorts_ aPorts_h, Bx b5 [(.int .i64 aM__0), (aM__1h).v], Es (List (List Int)) aM__1 aM__1h, Bx g127_1 [(.int .i64 s126_0), (.int .i64 s126_1), (g127_0).v], E (List (List Int)) s126_2 g127_0, E (List Int) y246 h249, Bx b257 [(.int .i64 y251_0), (h254).v], E (List (List Int)) y251_1 h254, Bx b266 [(.int .i64 y260_0_0), (.int .i64 y260_0_1), (h263).v], E (List (List Int)) y260_0_2 h263, Gl 0 [.int .i64 2, .int .i64 3, .int .i64 5, .int .i64 7]]) ?_ ?_
        · skip
          refine loadN [(.int .i64 y260_0_0), (.int .i64 y260_0_1), (h263).v] rfl (fun j u hj => H.bx 0 rfl hj) ?_
          refine loadN [(.int .i64 s126_0), (.int .i64 s126_1), (g127_0).v] rfl (fun j u hj => H.bx 8 rfl hj) ?_
          obtain ⟨y284, e, hF285⟩ := bindS hF282; clear hF282
          have ey284 := e; clear e
          refine callF (laws_eqRelation_c y260_0_0 y260_0_1 y260_0_2 h263 s126_0 s126_1 s126_2 g127_0 y284 ey284) (Γi := []) H ⟨Vw.own 1 rfl, Vw.own 9 rfl, trivial⟩ ?_; clear H ey284
          rintro _ _ w286 ⟨rfl, rfl⟩ (H : Cx w0 fp0 S0 w286 [Bx b266 [(.int .i64 y260_0_0), (.int .i64 y260_0_1), (h263).v], E (List (List Int)) y260_0_2 h263, Bx b257 [(.int .i64 y251_0), (h254).v], E (List (List Int)) y251_1 h254, E (List Int) y246 h249, Es (List Int) aPorts_ aPorts_h, Bx b5 [(.int .i64 aM__0), (aM__1h).v], Es (List (List Int)) aM__1 aM__1h, Bx g127_1 [(.int .i64 s126_0), (.int .i64 s126_1), (g127_0).v], E (List (List Int)) s126_2 g127_0, Gl 0 [.int .i64 2, .int .i64 3, .int .i64 5, .int .i64 7]])
          obtain ⟨a287, e, hF288⟩ := bindS hF285; clear hF285
          refine boolO e ?_; clear e
          cases a287
          · have hF289 := condF hF288; clear hF288
            obtain ⟨a290, e, hF291⟩ := bindS hF289; clear hF289
            refine boolO e ?_; clear e
            exact ⟨a290, ⟨rfl, rfl, rfl, rfl, rfl, rfl, rfl, rfl, rfl, rfl, rfl, rfl, trivial⟩, Option.some.inj hF291, H.sel [5, 6, 7, 8, 9, 4, 2, 3, 0, 1, 10] rfl⟩
          · have hF292 := condT hF288; clear hF288
            exact ⟨true, ⟨rfl, rfl, rfl, rfl, rfl, rfl, rfl, rfl, rfl, rfl, rfl, rfl, trivial⟩, Option.some.inj hF292, H.sel [5, 6, 7, 8, 9, 4, 2, 3, 0, 1, 10] rfl⟩
        · clear hF282 H
          rintro T294 s278 w293 ⟨hr, (H : Cx w0 fp0 S0 w293 [Es (List Int) aPorts_ aPorts_h, Bx b5 [(.int .i64 aM__0), (aM__1h).v], Es (List (List Int)) aM__1 aM__1h, Bx g127_1 [(.int .i64 s126_0), (.int .i64 s126_1), (g127_0).v], E (List (List Int)) s126_2 g127_0, E (List Int) y246 h249, Bx b257 [(.int .i64 y251_0), (h254).v], E (List (List Int)) y251_1 h254, Bx b266 [(.int .i64 y260_0_0), (.int .i64 y260_0_1), (h263).v], E (List (List Int)) y260_0_2 h263, Gl 0 [.int .i64 2, .int .i64 3, .int .i64 5, .int .i64 7]])⟩
          subst hr
          cases s278
          · have hF295 := condF hF281; clear hF281
            refine sq ?_
            obtain ⟨y296, e, hF297⟩ := bindS hF295; clear hF295
            have ey296 := e; clear e
            refine callF (laws_toIntS_c aPorts_ aPorts_h y296 ey296) (Γi := []) H ⟨Vw.sh 0 rfl, trivial⟩ ?_; clear H ey296
            rintro _ _ w298 ⟨h299, rfl, rfl⟩ (H : Cx w0 fp0 S0 w298 [E (List Int) y296 h299, Es (List Int) aPorts_ aPorts_h, Bx b5 [(.int .i64 aM__0), (aM__1h).v], Es (List (List Int)) aM__1 aM__1h, Bx g127_1 [(.int .i64 s126_0), (.int .i64 s126_1), (g127_0).v], E (List (List Int)) s126_2 g127_0, E (List Int) y246 h249, Bx b257 [(.int .i64 y251_0), (h254).v], E (List (List Int)) y251_1 h254, Bx b266 [(.int .i64 y260_0_0), (.int .i64 y260_0_1), (h263).v], E (List (List Int)) y260_0_2 h263, Gl 0 [.int .i64 2, .int .i64 3, .int .i64 5, .int .i64 7]])
            obtain ⟨y301, e, hF302⟩ := bindS hF297; clear hF297
            have ey301 := e; clear e
            refine callF (laws_eqIntS_c y246 h249 y296 h299 y301 ey301) (Γi := []) H ⟨Vw.own 6 rfl, Vw.own 0 rfl, trivial⟩ ?_; clear H ey301
            rintro _ _ w303 ⟨rfl, rfl⟩ (H : Cx w0 fp0 S0 w303 [E (List Int) y296 h299, Es (List Int) aPorts_ aPorts_h, Bx b5 [(.int .i64 aM__0), (aM__1h).v], Es (List (List Int)) aM__1 aM__1h, Bx g127_1 [(.int .i64 s126_0), (.int .i64 s126_1), (g127_0).v], E (List (List Int)) s126_2 g127_0, E (List Int) y246 h249, Bx b257 [(.int .i64 y251_0), (h254).v], E (List (List Int)) y251_1 h254, Bx b266 [(.int .i64 y260_0_0), (.int .i64 y260_0_1), (h263).v], E (List (List Int)) y260_0_2 h263, Gl 0 [.int .i64 2, .int .i64 3, .int .i64 5, .int .i64 7]])
            obtain ⟨a304, e, hF305⟩ := bindS hF302; clear hF302
            refine boolO e ?_; clear e
            cases a304
            · have hF306 := condF hF305; clear hF305
              refine sq ?_
              refine heldX H [] (.fst 0 (.fst 1 (.act 2 (.act 3 (.fst 4 .done))))) mixed [] trivial (by kernel_rfl) ?_
              clear H; intro w307 H
              have hX : Ext w307 w307 := Upd.refl _ _
              have H0 := H
              refine loadNX [(.int .i64 y251_0), (h254).v] rfl (fun j u hj => H.bx 7 rfl hj) ?_
              refine loadNX [(.int .i64 aM__0), (aM__1h).v] rfl (fun j u hj => H.bx 2 rfl hj) ?_
              obtain ⟨y308, e, hF309⟩ := bindS hF306; clear hF306
              obtain ⟨y308_0, y308_1⟩ := y308
              have ey308 := e; clear e
              refine callFx (laws_toMatrix_c aM__0 aM__1 aM__1h y308_0 y308_1 ey308) H ⟨Vw.sh 3 rfl, trivial⟩ ?_; clear H ey308
              rintro _ _ w310 ⟨h311, rfl, rfl⟩ hx (H : Cx w0 fp0 S0 w310 [E (List (List Int)) y308_1 h311, E (List Int) y296 h299, Es (List Int) aPorts_ aPorts_h, Bx b5 [(.int .i64 aM__0), (aM__1h).v], Es (List (List Int)) aM__1 aM__1h, Bx g127_1 [(.int .i64 s126_0), (.int .i64 s126_1), (g127_0).v], E (List (List Int)) s126_2 g127_0, E (List Int) y246 h249, Bx b257 [(.int .i64 y251_0), (h254).v], E (List (List Int)) y251_1 h254, Bx b266 [(.int .i64 y260_0_0), (.int .i64 y260_0_1), (h263).v], E (List (List Int)) y260_0_2 h263, Gl 0 [.int .i64 2, .int .i64 3, .int .i64 5, .int .i64 7]])
              replace hX := hX.trans0 hx; clear hx
              refine hold hX ?_
              obtain ⟨y313, e, hF314⟩ := bindS hF309; clear hF309
              have ey313 := e; clear e
              refine callFx (laws_eqMatrix_c y251_0 y251_1 h254 y308_0 y308_1 h311 y313 ey313) H ⟨Vw.own 9 rfl, Vw.own 0 rfl, trivial⟩ ?_; clear H ey313
              rintro _ _ w315 ⟨rfl, rfl⟩ hx (H : Cx w0 fp0 S0 w315 [E (List (List Int)) y308_1 h311, E (List Int) y296 h299, Es (List Int) aPorts_ aPorts_h, Bx b5 [(.int .i64 aM__0), (aM__1h).v], Es (List (List Int)) aM__1 aM__1h, Bx g127_1 [(.int .i64 s126_0), (.int .i64 s126_1), (g127_0).v], E (List (List Int)) s126_2 g127_0, E (List Int) y246 h249, Bx b257 [(.int .i64 y251_0), (h254).v], E (List (List Int)) y251_1 h254, Bx b266 [(.int .i64 y260_0_0), (.int .i64 y260_0_1), (h263).v], E (List (List Int)) y260_0_2 h263, Gl 0 [.int .i64 2, .int .i64 3, .int .i64 5, .int .i64 7]])
              replace hX := hX.trans0 hx; clear hx
              refine hold hX ?_
              obtain ⟨a316, e, hF317⟩ := bindS hF314; clear hF314
              refine boolO e ?_; clear e
              cases a316
              · have hF318 := condF hF317; clear hF317
                obtain ⟨y319, e, hF320⟩ := bindS hF318; clear hF318
                obtain ⟨y319_0, y319_1⟩ := y319
                have ey319 := e; clear e
                replace H := H.sel [7, 0, 1, 2, 3, 4, 5, 6, 8, 9, 10, 11, 12] rfl
                refine callF (laws_markIntS_c y246 h249 1 y319_0 y319_1 ey319) (Γi := [E (List Int) y246 h249]) H trivial ?_; clear H ey319
                rintro _ _ w321 ⟨rfl, rfl⟩ (H : Cx w0 fp0 S0 w321 [E (List Int) y319_0 h249, E (List (List Int)) y308_1 h311, E (List Int) y296 h299, Es (List Int) aPorts_ aPorts_h, Bx b5 [(.int .i64 aM__0), (aM__1h).v], Es (List (List Int)) aM__1 aM__1h, Bx g127_1 [(.int .i64 s126_0), (.int .i64 s126_1), (g127_0).v], E (List (List Int)) s126_2 g127_0, Bx b257 [(.int .i64 y251_0), (h254).v], E (List (List Int)) y251_1 h254, Bx b266 [(.int .i64 y260_0_0), (.int .i64 y260_0_1), (h263).v], E (List (List Int)) y260_0_2 h263, Gl 0 [.int .i64 2, .int .i64 3, .int .i64 5, .int .i64 7]])
                refine loadN [(.int .i64 y251_0), (h254).v] rfl (fun j u hj => H.bx 8 rfl hj) ?_
                obtain ⟨y322, e, hF323⟩ := bindS hF320; clear hF320
                obtain ⟨⟨y322_0_0, y322_0_1⟩, y322_1⟩ := y322
                have ey322 := e; clear e
                replace H := H.sel [9, 0, 1, 2, 3, 4, 5, 6, 7, 8, 10, 11, 12] rfl
                refine callF (laws_markMatrix_c y251_0 y251_1 h254 y319_1 y322_0_0 y322_0_1 y322_1 ey322) (Γi := [E (List (List Int)) y251_1 h254]) H trivial ?_; clear H ey322
                rintro _ _ w324 ⟨rfl, rfl⟩ (H : Cx w0 fp0 S0 w324 [E (List (List Int)) y322_0_1 h254, E (List Int) y319_0 h249, E (List (List Int)) y308_1 h311, E (List Int) y296 h299, Es (List Int) aPorts_ aPorts_h, Bx b5 [(.int .i64 aM__0), (aM__1h).v], Es (List (List Int)) aM__1 aM__1h, Bx g127_1 [(.int .i64 s126_0), (.int .i64 s126_1), (g127_0).v], E (List (List Int)) s126_2 g127_0, Bx b257 [(.int .i64 y251_0), (h254).v], Bx b266 [(.int .i64 y260_0_0), (.int .i64 y260_0_1), (h263).v], E (List (List Int)) y260_0_2 h263, Gl 0 [.int .i64 2, .int .i64 3, .int .i64 5, .int .i64 7]])
                refine sq ?_
                obtain ⟨r340, hF342, hF341⟩ := bindS hF323; clear hF323
                refine cut (fun (q343 : Bool) => [(0, (.int .i64 aP_)), (1, (.int .i64 aLeft_)), (2, (.int .i64 aRight_)), (3, (aPorts_h).v), (9, (.pointer (some ⟨b5, 0, none⟩))), (12, (.pointer (some ⟨g127_1, 0, none⟩))), (13, (.bool s126_3)), (16, (.pointer (some ⟨b266, 0, none⟩))), (92, (.bool q343))]) (fun (q343 : Bool) w' => q343 = r340 ∧ Cx w0 fp0 S0 w' [Es (List Int) aPorts_ aPorts_h, Bx b5 [(.int .i64 aM__0), (aM__1h).v], Es (List (List Int)) aM__1 aM__1h, Bx g127_1 [(.int .i64 s126_0), (.int .i64 s126_1), (g127_0).v], E (List (List Int)) s126_2 g127_0, Bx b266 [(.int .i64 y260_0_0), (.int .i64 y260_0_1), (h263).v], E (List (List Int)) y260_0_2 h263, Gl 0 [.int .i64 2, .int .i64 3, .int .i64 5, .int .i64 7]]) ?_ ?_
                · skip
                  obtain ⟨a344, e, hF345⟩ := bindS hF342; clear hF342
                  refine boolO e ?_; clear e
                  cases a344
                  · have hF346 := condF hF345; clear hF345
                    refine loadN [(.int .i64 y260_0_0), (.int .i64 y260_0_1), (h263).v] rfl (fun j u hj => H.bx 10 rfl hj) ?_
                    refine loadN [(.int .i64 s126_0), (.int .i64 s126_1), (g127_0).v] rfl (fun j u hj => H.bx 7 rfl hj) ?_
                    obtain ⟨y347, e, hF348⟩ := bindS hF346; clear hF346
                    have ey347 := e; clear e
                    refine callF (laws_eqRelation_c y260_0_0 y260_0_1 y260_0_2 h263 s126_0 s126_1 s126_2 g127_0 y347 ey347) (Γi := []) H ⟨Vw.own 11 rfl, Vw.own 8 rfl, trivial⟩ ?_; clear H ey347
                    rintro _ _ w349 ⟨rfl, rfl⟩ (H : Cx w0 fp0 S0 w349 [E (List (List Int)) y322_0_1 h254, E (List Int) y319_0 h249, E (List (List Int)) y308_1 h311, E (List Int) y296 h299, Es (List Int) aPorts_ aPorts_h, Bx b5 [(.int .i64 aM__0), (aM__1h).v], Es (List (List Int)) aM__1 aM__1h, Bx g127_1 [(.int .i64 s126_0), (.int .i64 s126_1), (g127_0).v], E (List (List Int)) s126_2 g127_0, Bx b257 [(.int .i64 y251_0), (h254).v], Bx b266 [(.int .i64 y260_0_0), (.int .i64 y260_0_1), (h263).v], E (List (List Int)) y260_0_2 h263, Gl 0 [.int .i64 2, .int .i64 3, .int .i64 5, .int .i64 7]])
                    obtain ⟨a350, e, hF351⟩ := bindS hF348; clear hF348
                    refine boolO e ?_; clear e
                    cases a350
                    · have hF352 := condF hF351; clear hF351
                      obtain ⟨a353, e, hF354⟩ := bindS hF352; clear hF352
                      refine boolO e ?_; clear e
                      exact ⟨a353, ⟨rfl, rfl, rfl, rfl, rfl, rfl, rfl, rfl, rfl, trivial⟩, Option.some.inj hF354, H.sel [4, 5, 6, 7, 8, 10, 11, 12] rfl⟩
                    · have hF355 := condT hF351; clear hF351
                      exact ⟨true, ⟨rfl, rfl, rfl, rfl, rfl, rfl, rfl, rfl, rfl, trivial⟩, Option.some.inj hF355, H.sel [4, 5, 6, 7, 8, 10, 11, 12] rfl⟩
                  · have hF356 := condT hF345; clear hF345
                    exact ⟨true, ⟨rfl, rfl, rfl, rfl, rfl, rfl, rfl, rfl, rfl, trivial⟩, Option.some.inj hF356, H.sel [4, 5, 6, 7, 8, 10, 11, 12] rfl⟩
                · clear hF342 H
                  rintro T358 s338 w357 ⟨hr, (H : Cx w0 fp0 S0 w357 [Es (List Int) aPorts_ aPorts_h, Bx b5 [(.int .i64 aM__0), (aM__1h).v], Es (List (List Int)) aM__1 aM__1h, Bx g127_1 [(.int .i64 s126_0), (.int .i64 s126_1), (g127_0).v], E (List (List Int)) s126_2 g127_0, Bx b266 [(.int .i64 y260_0_0), (.int .i64 y260_0_1), (h263).v], E (List (List Int)) y260_0_2 h263, Gl 0 [.int .i64 2, .int .i64 3, .int .i64 5, .int .i64 7]])⟩
                  subst hr
                  cases s338
                  · have hF359 := condF hF341; clear hF341
                    refine loadN [(.int .i64 y260_0_0), (.int .i64 y260_0_1), (h263).v] rfl (fun j u hj => H.bx 5 rfl hj) ?_
                    obtain ⟨y360, e, hF361⟩ := bindS hF359; clear hF359
                    obtain ⟨⟨y360_0_0, y360_0_1, y360_0_2⟩, y360_1⟩ := y360
                    have ey360 := e; clear e
                    replace H := H.sel [6, 0, 1, 2, 3, 4, 5, 7] rfl
                    refine callF (laws_markRelation_c y260_0_0 y260_0_1 y260_0_2 h263 1 y360_0_0 y360_0_1 y360_0_2 y360_1 ey360) (Γi := [E (List (List Int)) y260_0_2 h263]) H trivial ?_; clear H ey360
                    rintro _ _ w362 ⟨rfl, rfl⟩ (H : Cx w0 fp0 S0 w362 [E (List (List Int)) y360_0_2 h263, Es (List Int) aPorts_ aPorts_h, Bx b5 [(.int .i64 aM__0), (aM__1h).v], Es (List (List Int)) aM__1 aM__1h, Bx g127_1 [(.int .i64 s126_0), (.int .i64 s126_1), (g127_0).v], E (List (List Int)) s126_2 g127_0, Bx b266 [(.int .i64 y260_0_0), (.int .i64 y260_0_1), (h263).v], Gl 0 [.int .i64 2, .int .i64 3, .int .i64 5, .int .i64 7]])
                    refine loadN [(.int .i64 y260_0_0), (.int .i64 y260_0_1), (h263).v] rfl (fun j u hj => H.bx 6 rfl hj) ?_
                    obtain ⟨y363, e, hF364⟩ := bindS hF361; clear hF361
                    have ey363 := e; clear e
                    refine callF (laws_heldRelation_c y260_0_0 y260_0_1 y360_0_2 h263 1 y363 ey363) (Γi := []) H ⟨Vw.own 0 rfl, trivial⟩ ?_; clear H ey363
                    rintro _ _ w365 ⟨rfl, rfl⟩ (H : Cx w0 fp0 S0 w365 [E (List (List Int)) y360_0_2 h263, Es (List Int) aPorts_ aPorts_h, Bx b5 [(.int .i64 aM__0), (aM__1h).v], Es (List (List Int)) aM__1 aM__1h, Bx g127_1 [(.int .i64 s126_0), (.int .i64 s126_1), (g127_0).v], E (List (List Int)) s126_2 g127_0, Bx b266 [(.int .i64 y260_0_0), (.int .i64 y260_0_1), (h263).v], Gl 0 [.int .i64 2, .int .i64 3, .int .i64 5, .int .i64 7]])
                    refine sq ?_
                    obtain ⟨a366, e, hF367⟩ := bindS hF364; clear hF364
                    refine boolO e ?_; clear e
                    cases a366
                    · have hF368 := condF hF367; clear hF367
                      refine sq ?_
                      obtain ⟨a369, e, hF370⟩ := bindS hF368; clear hF368
                      refine boolO e ?_; clear e
                      cases a369
                      · have hF371 := condF hF370; clear hF370
                        obtain ⟨r486, hF488, hF487⟩ := bindS hF371; clear hF371
                        refine heldJ H [12, 13, 10] (.fst 0 (.fst 1 (.fst 2 (.fst 3 (.fst 5 (.alts (.alt 4 (.alts (.alt 6 (.alts (.alt 7 (.fst 8 (.pure 10 (.fst 9 (.act 11 (.act 12 (.act 13 .done)))))) (.alt 11 (.act 7 (.fst 8 (.pure 10 (.fst 9 (.act 12 (.act 13 .done)))))) .no))) (.alt 11 (.act 6 (.act 7 (.fst 8 (.pure 10 (.fst 9 (.act 12 (.act 13 .done))))))) .no))) (.alt 11 (.act 4 (.act 6 (.act 7 (.fst 8 (.pure 10 (.fst 9 (.act 12 (.act 13 .done)))))))) .no)))))))) mixed [] trivial (by kernel_rfl) (fun (q489 : (Int × Int × List (List Int) × Bool) × (Hd × Nat)) => [(12, (.pointer (some ⟨g127_1, 0, none⟩))), (13, (.bool s126_3)), (16, (.pointer (some ⟨b266, 0, none⟩))), (19, (.int .i64 y360_1)), (21, (.pointer (some ⟨q489.2.2, 0, none⟩))), (22, (.bool q489.1.2.2.2))]) (fun (q489 : (Int × Int × List (List Int) × Bool) × (Hd × Nat)) w' => (q489.1.1, q489.1.2.1, q489.1.2.2.1, q489.1.2.2.2) = r486 ∧ Cx w0 fp0 S0 w' [Bx g127_1 [(.int .i64 s126_0), (.int .i64 s126_1), (g127_0).v], E (List (List Int)) s126_2 g127_0, Bx b266 [(.int .i64 y260_0_0), (.int .i64 y260_0_1), (h263).v], E (List (List Int)) y360_0_2 h263, Bx q489.2.2 [(.int .i64 q489.1.1), (.int .i64 q489.1.2.1), (q489.2.1).v], E (List (List Int)) q489.1.2.2.1 q489.2.1, Gl 0 [.int .i64 2, .int .i64 3, .int .i64 5, .int .i64 7]]) ?_ ?_
                        · skip
                          clear H; intro w490 H
                          have hX : Ext w490 w490 := Upd.refl _ _
                          have H0 := H
                          refine loadNX [(.int .i64 aM__0), (aM__1h).v] rfl (fun j u hj => H.bx 2 rfl hj) ?_
                          refine both ?_ ?_
                          · skip
                            obtain ⟨y510, e, hF511⟩ := bindS hF488; clear hF488
                            have ey510 := e; clear e
                            refine callFx (laws_toIntS_c aPorts_ aPorts_h y510 ey510) H ⟨Vw.sh 1 rfl, trivial⟩ ?_; clear H ey510
                            rintro _ _ w512 ⟨h513, rfl, rfl⟩ hx (H : Cx w0 fp0 S0 w512 [E (List Int) y510 h513, E (List (List Int)) y360_0_2 h263, Es (List Int) aPorts_ aPorts_h, Bx b5 [(.int .i64 aM__0), (aM__1h).v], Es (List (List Int)) aM__1 aM__1h, Bx g127_1 [(.int .i64 s126_0), (.int .i64 s126_1), (g127_0).v], E (List (List Int)) s126_2 g127_0, Bx b266 [(.int .i64 y260_0_0), (.int .i64 y260_0_1), (h263).v], Gl 0 [.int .i64 2, .int .i64 3, .int .i64 5, .int .i64 7]])
                            replace hX := hX.trans0 hx; clear hx
                            refine hold hX ?_
                            refine both ?_ ?_
                            · skip
                              obtain ⟨y529, e, hF530⟩ := bindS hF511; clear hF511
                              obtain ⟨y529_0, y529_1⟩ := y529
                              have ey529 := e; clear e
                              refine callFx (laws_toMatrix_c aM__0 aM__1 aM__1h y529_0 y529_1 ey529) H ⟨Vw.sh 4 rfl, trivial⟩ ?_; clear H ey529
                              rintro _ _ w531 ⟨h532, rfl, rfl⟩ hx (H : Cx w0 fp0 S0 w531 [E (List (List Int)) y529_1 h532, E (List Int) y510 h513, E (List (List Int)) y360_0_2 h263, Es (List Int) aPorts_ aPorts_h, Bx b5 [(.int .i64 aM__0), (aM__1h).v], Es (List (List Int)) aM__1 aM__1h, Bx g127_1 [(.int .i64 s126_0), (.int .i64 s126_1), (g127_0).v], E (List (List Int)) s126_2 g127_0, Bx b266 [(.int .i64 y260_0_0), (.int .i64 y260_0_1), (h263).v], Gl 0 [.int .i64 2, .int .i64 3, .int .i64 5, .int .i64 7]])
                              replace hX := hX.trans0 hx; clear hx
                              refine hold hX ?_
                              refine both ?_ ?_
                              · skip
                                obtain ⟨y543, e, hF544⟩ := bindS hF530; clear hF530
                                obtain ⟨⟨y543_0_0, y543_0_1, y543_0_2⟩, y543_1⟩ := y543
                                have ey543 := e; clear e
                                refine callFx (impl_RelationOfFunction_c aP_ aLeft_ aRight_ y510 h513 y529_0 y529_1 h532 y543_0_0 y543_0_1 y543_0_2 y543_1 ey543) H ⟨Vw.own 1 rfl, Vw.own 0 rfl, Vw.gl 9 rfl, trivial⟩ ?_; clear H ey543
                                rintro _ _ w545 ⟨h546, rfl, rfl⟩ hx (H : Cx w0 fp0 S0 w545 [E (List (List Int)) y543_0_2 h546, E (List (List Int)) y529_1 h532, E (List Int) y510 h513, E (List (List Int)) y360_0_2 h263, Es (List Int) aPorts_ aPorts_h, Bx b5 [(.int .i64 aM__0), (aM__1h).v], Es (List (List Int)) aM__1 aM__1h, Bx g127_1 [(.int .i64 s126_0), (.int .i64 s126_1), (g127_0).v], E (List (List Int)) s126_2 g127_0, Bx b266 [(.int .i64 y260_0_0), (.int .i64 y260_0_1), (h263).v], Gl 0 [.int .i64 2, .int .i64 3, .int .i64 5, .int .i64 7]])
                                replace hX := hX.trans0 hx; clear hx
                                refine hold hX ?_
                                refine alloc_ gok rfl H ?_; clear H; intro b549 w548 hx H
                                replace hX := hX.trans0 hx; clear hx
                                replace H : Cx w0 fp0 S0 w548 [Bx b549 [(.int .i64 0), (.int .i64 0), (.slice none 0 0)], E (List (List Int)) y543_0_2 h546, E (List (List Int)) y529_1 h532, E (List Int) y510 h513, E (List (List Int)) y360_0_2 h263, Es (List Int) aPorts_ aPorts_h, Bx b5 [(.int .i64 aM__0), (aM__1h).v], Es (List (List Int)) aM__1 aM__1h, Bx g127_1 [(.int .i64 s126_0), (.int .i64 s126_1), (g127_0).v], E (List (List Int)) s126_2 g127_0, Bx b266 [(.int .i64 y260_0_0), (.int .i64 y260_0_1), (h263).v], Gl 0 [.int .i64 2, .int .i64 3, .int .i64 5, .int .i64 7]] := H
                                refine hold hX ?_
                                refine stA gok [(.int .i64 y543_0_0), (.int .i64 y543_0_1), (h546).v] rfl H rfl rfl rfl ?_; clear H; intro w551 H
                                replace H : Cx w0 fp0 S0 w551 [Bx b549 [(.int .i64 y543_0_0), (.int .i64 y543_0_1), (h546).v], E (List (List Int)) y543_0_2 h546, E (List (List Int)) y529_1 h532, E (List Int) y510 h513, E (List (List Int)) y360_0_2 h263, Es (List Int) aPorts_ aPorts_h, Bx b5 [(.int .i64 aM__0), (aM__1h).v], Es (List (List Int)) aM__1 aM__1h, Bx g127_1 [(.int .i64 s126_0), (.int .i64 s126_1), (g127_0).v], E (List (List Int)) s126_2 g127_0, Bx b266 [(.int .i64 y260_0_0), (.int .i64 y260_0_1), (h263).v], Gl 0 [.int .i64 2, .int .i64 3, .int .i64 5, .int .i64 7]] := H
                                refine hold trivial ?_
                                refine hold trivial ?_
                                exact ⟨((y543_0_0, y543_0_1, y543_0_2, y543_1), (h546, b549)), ⟨rfl, rfl, rfl, rfl, rfl, rfl, trivial⟩, Option.some.inj hF544, H.sel [8, 9, 10, 4, 0, 1, 11] rfl⟩
                              · skip
                                refine both ?_ ?_
                                · skip
                                  obtain ⟨a552, eq553, hF554⟩ := bindS hF530; clear hF530
                                  refine alloc_ gok rfl H ?_; clear H; intro b556 w555 hx H
                                  replace hX := hX.trans0 hx; clear hx
                                  replace H : Cx w0 fp0 S0 w555 [Bx b556 [(.int .i64 0), (.int .i64 0), (.slice none 0 0)], E (List (List Int)) y529_1 h532, E (List Int) y510 h513, E (List (List Int)) y360_0_2 h263, Es (List Int) aPorts_ aPorts_h, Bx b5 [(.int .i64 aM__0), (aM__1h).v], Es (List (List Int)) aM__1 aM__1h, Bx g127_1 [(.int .i64 s126_0), (.int .i64 s126_1), (g127_0).v], E (List (List Int)) s126_2 g127_0, Bx b266 [(.int .i64 y260_0_0), (.int .i64 y260_0_1), (h263).v], Gl 0 [.int .i64 2, .int .i64 3, .int .i64 5, .int .i64 7]] := H
                                  refine hold hX ?_
                                  have e := eq553; clear eq553
                                  obtain ⟨⟨a552_0_0, a552_0_1, a552_0_2⟩, a552_1⟩ := a552
                                  have ea552 := e; clear e
                                  refine callFx (impl_RelationOfFunction_c aP_ aLeft_ aRight_ y510 h513 y529_0 y529_1 h532 a552_0_0 a552_0_1 a552_0_2 a552_1 ea552) H ⟨Vw.own 2 rfl, Vw.own 1 rfl, Vw.gl 10 rfl, trivial⟩ ?_; clear H ea552
                                  rintro _ _ w558 ⟨h559, rfl, rfl⟩ hx (H : Cx w0 fp0 S0 w558 [E (List (List Int)) a552_0_2 h559, Bx b556 [(.int .i64 0), (.int .i64 0), (.slice none 0 0)], E (List (List Int)) y529_1 h532, E (List Int) y510 h513, E (List (List Int)) y360_0_2 h263, Es (List Int) aPorts_ aPorts_h, Bx b5 [(.int .i64 aM__0), (aM__1h).v], Es (List (List Int)) aM__1 aM__1h, Bx g127_1 [(.int .i64 s126_0), (.int .i64 s126_1), (g127_0).v], E (List (List Int)) s126_2 g127_0, Bx b266 [(.int .i64 y260_0_0), (.int .i64 y260_0_1), (h263).v], Gl 0 [.int .i64 2, .int .i64 3, .int .i64 5, .int .i64 7]])
                                  replace hX := hX.trans0 hx; clear hx
                                  refine hold hX ?_
                                  replace H := H.sel [1, 0, 2, 3, 4, 5, 6, 7, 8, 9, 10, 11] rfl
                                  refine stA gok [(.int .i64 a552_0_0), (.int .i64 a552_0_1), (h559).v] rfl H rfl rfl rfl ?_; clear H; intro w561 H
                                  replace H : Cx w0 fp0 S0 w561 [Bx b556 [(.int .i64 a552_0_0), (.int .i64 a552_0_1), (h559).v], E (List (List Int)) a552_0_2 h559, E (List (List Int)) y529_1 h532, E (List Int) y510 h513, E (List (List Int)) y360_0_2 h263, Es (List Int) aPorts_ aPorts_h, Bx b5 [(.int .i64 aM__0), (aM__1h).v], Es (List (List Int)) aM__1 aM__1h, Bx g127_1 [(.int .i64 s126_0), (.int .i64 s126_1), (g127_0).v], E (List (List Int)) s126_2 g127_0, Bx b266 [(.int .i64 y260_0_0), (.int .i64 y260_0_1), (h263).v], Gl 0 [.int .i64 2, .int .i64 3, .int .i64 5, .int .i64 7]] := H
                                  refine hold trivial ?_
                                  refine hold trivial ?_
                                  exact ⟨((a552_0_0, a552_0_1, a552_0_2, a552_1), (h559, b556)), ⟨rfl, rfl, rfl, rfl, rfl, rfl, trivial⟩, Option.some.inj hF554, H.sel [8, 9, 10, 4, 0, 1, 11] rfl⟩
                                · skip
                                  exact trivial
                            · skip
                              refine both ?_ ?_
                              · skip
                                obtain ⟨a562, eq563, hF564⟩ := bindS hF511; clear hF511
                                obtain ⟨a565, eq566, hF567⟩ := bindS hF564; clear hF564
                                refine alloc_ gok rfl H ?_; clear H; intro b569 w568 hx H
                                replace hX := hX.trans0 hx; clear hx
                                replace H : Cx w0 fp0 S0 w568 [Bx b569 [(.int .i64 0), (.int .i64 0), (.slice none 0 0)], E (List Int) y510 h513, E (List (List Int)) y360_0_2 h263, Es (List Int) aPorts_ aPorts_h, Bx b5 [(.int .i64 aM__0), (aM__1h).v], Es (List (List Int)) aM__1 aM__1h, Bx g127_1 [(.int .i64 s126_0), (.int .i64 s126_1), (g127_0).v], E (List (List Int)) s126_2 g127_0, Bx b266 [(.int .i64 y260_0_0), (.int .i64 y260_0_1), (h263).v], Gl 0 [.int .i64 2, .int .i64 3, .int .i64 5, .int .i64 7]] := H
                                refine hold hX ?_
                                have e := eq563; clear eq563
                                obtain ⟨a562_0, a562_1⟩ := a562
                                have ea562 := e; clear e
                                refine callFx (laws_toMatrix_c aM__0 aM__1 aM__1h a562_0 a562_1 ea562) H ⟨Vw.sh 5 rfl, trivial⟩ ?_; clear H ea562
                                rintro _ _ w571 ⟨h572, rfl, rfl⟩ hx (H : Cx w0 fp0 S0 w571 [E (List (List Int)) a562_1 h572, Bx b569 [(.int .i64 0), (.int .i64 0), (.slice none 0 0)], E (List Int) y510 h513, E (List (List Int)) y360_0_2 h263, Es (List Int) aPorts_ aPorts_h, Bx b5 [(.int .i64 aM__0), (aM__1h).v], Es (List (List Int)) aM__1 aM__1h, Bx g127_1 [(.int .i64 s126_0), (.int .i64 s126_1), (g127_0).v], E (List (List Int)) s126_2 g127_0, Bx b266 [(.int .i64 y260_0_0), (.int .i64 y260_0_1), (h263).v], Gl 0 [.int .i64 2, .int .i64 3, .int .i64 5, .int .i64 7]])
                                replace hX := hX.trans0 hx; clear hx
                                refine hold hX ?_
                                have e := eq566; clear eq566
                                obtain ⟨⟨a565_0_0, a565_0_1, a565_0_2⟩, a565_1⟩ := a565
                                have ea565 := e; clear e
                                refine callFx (impl_RelationOfFunction_c aP_ aLeft_ aRight_ y510 h513 a562_0 a562_1 h572 a565_0_0 a565_0_1 a565_0_2 a565_1 ea565) H ⟨Vw.own 2 rfl, Vw.own 0 rfl, Vw.gl 10 rfl, trivial⟩ ?_; clear H ea565
                                rintro _ _ w574 ⟨h575, rfl, rfl⟩ hx (H : Cx w0 fp0 S0 w574 [E (List (List Int)) a565_0_2 h575, E (List (List Int)) a562_1 h572, Bx b569 [(.int .i64 0), (.int .i64 0), (.slice none 0 0)], E (List Int) y510 h513, E (List (List Int)) y360_0_2 h263, Es (List Int) aPorts_ aPorts_h, Bx b5 [(.int .i64 aM__0), (aM__1h).v], Es (List (List Int)) aM__1 aM__1h, Bx g127_1 [(.int .i64 s126_0), (.int .i64 s126_1), (g127_0).v], E (List (List Int)) s126_2 g127_0, Bx b266 [(.int .i64 y260_0_0), (.int .i64 y260_0_1), (h263).v], Gl 0 [.int .i64 2, .int .i64 3, .int .i64 5, .int .i64 7]])
                                replace hX := hX.trans0 hx; clear hx
                                refine hold hX ?_
                                replace H := H.sel [2, 0, 1, 3, 4, 5, 6, 7, 8, 9, 10, 11] rfl
                                refine stA gok [(.int .i64 a565_0_0), (.int .i64 a565_0_1), (h575).v] rfl H rfl rfl rfl ?_; clear H; intro w577 H
                                replace H : Cx w0 fp0 S0 w577 [Bx b569 [(.int .i64 a565_0_0), (.int .i64 a565_0_1), (h575).v], E (List (List Int)) a565_0_2 h575, E (List (List Int)) a562_1 h572, E (List Int) y510 h513, E (List (List Int)) y360_0_2 h263, Es (List Int) aPorts_ aPorts_h, Bx b5 [(.int .i64 aM__0), (aM__1h).v], Es (List (List Int)) aM__1 aM__1h, Bx g127_1 [(.int .i64 s126_0), (.int .i64 s126_1), (g127_0).v], E (List (List Int)) s126_2 g127_0, Bx b266 [(.int .i64 y260_0_0), (.int .i64 y260_0_1), (h263).v], Gl 0 [.int .i64 2, .int .i64 3, .int .i64 5, .int .i64 7]] := H
                                refine hold trivial ?_
                                refine hold trivial ?_
                                exact ⟨((a565_0_0, a565_0_1, a565_0_2, a565_1), (h575, b569)), ⟨rfl, rfl, rfl, rfl, rfl, rfl, trivial⟩, Option.some.inj hF567, H.sel [8, 9, 10, 4, 0, 1, 11] rfl⟩
                              · skip
                                exact trivial
                          · skip
                            refine both ?_ ?_
                            · skip
                              obtain ⟨a578, eq579, hF580⟩ := bindS hF488; clear hF488
                              obtain ⟨a581, eq582, hF583⟩ := bindS hF580; clear hF580
                              obtain ⟨a584, eq585, hF586⟩ := bindS hF583; clear hF583
                              refine alloc_ gok rfl H ?_; clear H; intro b588 w587 hx H
                              replace hX := hX.trans0 hx; clear hx
                              replace H : Cx w0 fp0 S0 w587 [Bx b588 [(.int .i64 0), (.int .i64 0), (.slice none 0 0)], E (List (List Int)) y360_0_2 h263, Es (List Int) aPorts_ aPorts_h, Bx b5 [(.int .i64 aM__0), (aM__1h).v], Es (List (List Int)) aM__1 aM__1h, Bx g127_1 [(.int .i64 s126_0), (.int .i64 s126_1), (g127_0).v], E (List (List Int)) s126_2 g127_0, Bx b266 [(.int .i64 y260_0_0), (.int .i64 y260_0_1), (h263).v], Gl 0 [.int .i64 2, .int .i64 3, .int .i64 5, .int .i64 7]] := H
                              refine hold hX ?_
                              have e := eq579; clear eq579
                              have ea578 := e; clear e
                              refine callFx (laws_toIntS_c aPorts_ aPorts_h a578 ea578) H ⟨Vw.sh 2 rfl, trivial⟩ ?_; clear H ea578
                              rintro _ _ w590 ⟨h591, rfl, rfl⟩ hx (H : Cx w0 fp0 S0 w590 [E (List Int) a578 h591, Bx b588 [(.int .i64 0), (.int .i64 0), (.slice none 0 0)], E (List (List Int)) y360_0_2 h263, Es (List Int) aPorts_ aPorts_h, Bx b5 [(.int .i64 aM__0), (aM__1h).v], Es (List (List Int)) aM__1 aM__1h, Bx g127_1 [(.int .i64 s126_0), (.int .i64 s126_1), (g127_0).v], E (List (List Int)) s126_2 g127_0, Bx b266 [(.int .i64 y260_0_0), (.int .i64 y260_0_1), (h263).v], Gl 0 [.int .i64 2, .int .i64 3, .int .i64 5, .int .i64 7]])
                              replace hX := hX.trans0 hx; clear hx
                              refine hold hX ?_
                              have e := eq582; clear eq582
                              obtain ⟨a581_0, a581_1⟩ := a581
                              have ea581 := e; clear e
                              refine callFx (laws_toMatrix_c aM__0 aM__1 aM__1h a581_0 a581_1 ea581) H ⟨Vw.sh 5 rfl, trivial⟩ ?_; clear H ea581
                              rintro _ _ w593 ⟨h594, rfl, rfl⟩ hx (H : Cx w0 fp0 S0 w593 [E (List (List Int)) a581_1 h594, E (List Int) a578 h591, Bx b588 [(.int .i64 0), (.int .i64 0), (.slice none 0 0)], E (List (List Int)) y360_0_2 h263, Es (List Int) aPorts_ aPorts_h, Bx b5 [(.int .i64 aM__0), (aM__1h).v], Es (List (List Int)) aM__1 aM__1h, Bx g127_1 [(.int .i64 s126_0), (.int .i64 s126_1), (g127_0).v], E (List (List Int)) s126_2 g127_0, Bx b266 [(.int .i64 y260_0_0), (.int .i64 y260_0_1), (h263).v], Gl 0 [.int .i64 2, .int .i64 3, .int .i64 5, .int .i64 7]])
                              replace hX := hX.trans0 hx; clear hx
                              refine hold hX ?_
                              have e := eq585; clear eq585
                              obtain ⟨⟨a584_0_0, a584_0_1, a584_0_2⟩, a584_1⟩ := a584
                              have ea584 := e; clear e
                              refine callFx (impl_RelationOfFunction_c aP_ aLeft_ aRight_ a578 h591 a581_0 a581_1 h594 a584_0_0 a584_0_1 a584_0_2 a584_1 ea584) H ⟨Vw.own 1 rfl, Vw.own 0 rfl, Vw.gl 10 rfl, trivial⟩ ?_; clear H ea584
                              rintro _ _ w596 ⟨h597, rfl, rfl⟩ hx (H : Cx w0 fp0 S0 w596 [E (List (List Int)) a584_0_2 h597, E (List (List Int)) a581_1 h594, E (List Int) a578 h591, Bx b588 [(.int .i64 0), (.int .i64 0), (.slice none 0 0)], E (List (List Int)) y360_0_2 h263, Es (List Int) aPorts_ aPorts_h, Bx b5 [(.int .i64 aM__0), (aM__1h).v], Es (List (List Int)) aM__1 aM__1h, Bx g127_1 [(.int .i64 s126_0), (.int .i64 s126_1), (g127_0).v], E (List (List Int)) s126_2 g127_0, Bx b266 [(.int .i64 y260_0_0), (.int .i64 y260_0_1), (h263).v], Gl 0 [.int .i64 2, .int .i64 3, .int .i64 5, .int .i64 7]])
                              replace hX := hX.trans0 hx; clear hx
                              refine hold hX ?_
                              replace H := H.sel [3, 0, 1, 2, 4, 5, 6, 7, 8, 9, 10, 11] rfl
                              refine stA gok [(.int .i64 a584_0_0), (.int .i64 a584_0_1), (h597).v] rfl H rfl rfl rfl ?_; clear H; intro w599 H
                              replace H : Cx w0 fp0 S0 w599 [Bx b588 [(.int .i64 a584_0_0), (.int .i64 a584_0_1), (h597).v], E (List (List Int)) a584_0_2 h597, E (List (List Int)) a581_1 h594, E (List Int) a578 h591, E (List (List Int)) y360_0_2 h263, Es (List Int) aPorts_ aPorts_h, Bx b5 [(.int .i64 aM__0), (aM__1h).v], Es (List (List Int)) aM__1 aM__1h, Bx g127_1 [(.int .i64 s126_0), (.int .i64 s126_1), (g127_0).v], E (List (List Int)) s126_2 g127_0, Bx b266 [(.int .i64 y260_0_0), (.int .i64 y260_0_1), (h263).v], Gl 0 [.int .i64 2, .int .i64 3, .int .i64 5, .int .i64 7]] := H
                              refine hold trivial ?_
                              refine hold trivial ?_
                              exact ⟨((a584_0_0, a584_0_1, a584_0_2, a584_1), (h597, b588)), ⟨rfl, rfl, rfl, rfl, rfl, rfl, trivial⟩, Option.some.inj hF586, H.sel [8, 9, 10, 4, 0, 1, 11] rfl⟩
                            · skip
                              exact trivial
                        · clear hF488 H
                          rintro T601 ⟨⟨s482_0, s482_1, s482_2, s482_3⟩, ⟨g483_0, g483_1⟩⟩ w600 ⟨hr, (H : Cx w0 fp0 S0 w600 [Bx g127_1 [(.int .i64 s126_0), (.int .i64 s126_1), (g127_0).v], E (List (List Int)) s126_2 g127_0, Bx b266 [(.int .i64 y260_0_0), (.int .i64 y260_0_1), (h263).v], E (List (List Int)) y360_0_2 h263, Bx g483_1 [(.int .i64 s482_0), (.int .i64 s482_1), (g483_0).v], E (List (List Int)) s482_2 g483_0, Gl 0 [.int .i64 2, .int .i64 3, .int .i64 5, .int .i64 7]])⟩
                          subst hr
                          refine sq ?_
                          obtain ⟨r613, hF615, hF614⟩ := bindS hF487; clear hF487
                          refine cut (fun (q616 : Bool) => [(16, (.pointer (some ⟨b266, 0, none⟩))), (19, (.int .i64 y360_1)), (123, (.bool q616))]) (fun (q616 : Bool) w' => q616 = r613 ∧ Cx w0 fp0 S0 w' [Bx b266 [(.int .i64 y260_0_0), (.int .i64 y260_0_1), (h263).v], E (List (List Int)) y360_0_2 h263, Gl 0 [.int .i64 2, .int .i64 3, .int .i64 5, .int .i64 7]]) ?_ ?_
                          · skip
                            refine loadN [(.int .i64 s482_0), (.int .i64 s482_1), (g483_0).v] rfl (fun j u hj => H.bx 4 rfl hj) ?_
                            refine loadN [(.int .i64 s126_0), (.int .i64 s126_1), (g127_0).v] rfl (fun j u hj => H.bx 0 rfl hj) ?_
                            obtain ⟨y617, e, hF618⟩ := bindS hF615; clear hF615
                            have ey617 := e; clear e
                            refine callF (laws_eqRelation_c s482_0 s482_1 s482_2 g483_0 s126_0 s126_1 s126_2 g127_0 y617 ey617) (Γi := []) H ⟨Vw.own 5 rfl, Vw.own 1 rfl, trivial⟩ ?_; clear H ey617
                            rintro _ _ w619 ⟨rfl, rfl⟩ (H : Cx w0 fp0 S0 w619 [Bx g127_1 [(.int .i64 s126_0), (.int .i64 s126_1), (g127_0).v], E (List (List Int)) s126_2 g127_0, Bx b266 [(.int .i64 y260_0_0), (.int .i64 y260_0_1), (h263).v], E (List (List Int)) y360_0_2 h263, Bx g483_1 [(.int .i64 s482_0), (.int .i64 s482_1), (g483_0).v], E (List (List Int)) s482_2 g483_0, Gl 0 [.int .i64 2, .int .i64 3, .int .i64 5, .int .i64 7]])
                            obtain ⟨a620, e, hF621⟩ := bindS hF618; clear hF618
                            refine boolO e ?_; clear e
                            cases a620
                            · have hF622 := condF hF621; clear hF621
                              obtain ⟨a623, e, hF624⟩ := bindS hF622; clear hF622
                              refine boolO e ?_; clear e
                              exact ⟨a623, ⟨rfl, rfl, rfl, trivial⟩, Option.some.inj hF624, H.sel [2, 3, 6] rfl⟩
                            · have hF625 := condT hF621; clear hF621
                              exact ⟨true, ⟨rfl, rfl, rfl, trivial⟩, Option.some.inj hF625, H.sel [2, 3, 6] rfl⟩
                          · clear hF615 H
                            rintro T627 s611 w626 ⟨hr, (H : Cx w0 fp0 S0 w626 [Bx b266 [(.int .i64 y260_0_0), (.int .i64 y260_0_1), (h263).v], E (List (List Int)) y360_0_2 h263, Gl 0 [.int .i64 2, .int .i64 3, .int .i64 5, .int .i64 7]])⟩
                            subst hr
                            cases s611
                            · have hF628 := condF hF614; clear hF614
                              refine loadN [(.int .i64 y260_0_0), (.int .i64 y260_0_1), (h263).v] rfl (fun j u hj => H.bx 0 rfl hj) ?_
                              obtain ⟨y629, e, hF630⟩ := bindS hF628; clear hF628
                              have ey629 := e; clear e
                              refine callF (laws_heldRelation_c y260_0_0 y260_0_1 y360_0_2 h263 1 y629 ey629) (Γi := []) H ⟨Vw.own 1 rfl, trivial⟩ ?_; clear H ey629
                              rintro _ _ w631 ⟨rfl, rfl⟩ (H : Cx w0 fp0 S0 w631 [Bx b266 [(.int .i64 y260_0_0), (.int .i64 y260_0_1), (h263).v], E (List (List Int)) y360_0_2 h263, Gl 0 [.int .i64 2, .int .i64 3, .int .i64 5, .int .i64 7]])
                              refine sq ?_
                              obtain ⟨a632, e, hF633⟩ := bindS hF630; clear hF630
                              refine boolO e ?_; clear e
                              cases a632
                              · have hF634 := condF hF633; clear hF633
                                refine sq ?_
                                obtain ⟨a635, e, hF636⟩ := bindS hF634; clear hF634
                                refine boolO e ?_; clear e
                                cases a635
                                · have hF637 := condF hF636; clear hF636
                                  cases hF637
                                  exact ⟨_, _, rfl, ⟨rfl, rfl⟩, (H.sel [] rfl).close trivial⟩
                                · have hF638 := condT hF636; clear hF636
                                  cases hF638
                                  exact ⟨_, _, rfl, ⟨rfl, rfl⟩, (H.sel [] rfl).close trivial⟩
                              · have hF639 := condT hF633; clear hF633
                                cases hF639
                                exact ⟨_, _, rfl, ⟨rfl, rfl⟩, (H.sel [] rfl).close trivial⟩
                            · have hF640 := condT hF614; clear hF614
                              cases hF640
                              exact ⟨_, _, rfl, ⟨rfl, rfl⟩, (H.sel [] rfl).close trivial⟩
                      · have hF641 := condT hF370; clear hF370
                        cases hF641
                        exact ⟨_, _, rfl, ⟨rfl, rfl⟩, (H.sel [] rfl).close trivial⟩
                    · have hF642 := condT hF367; clear hF367
                      cases hF642
                      exact ⟨_, _, rfl, ⟨rfl, rfl⟩, (H.sel [] rfl).close trivial⟩
                  · have hF643 := condT hF341; clear hF341
                    cases hF643
                    exact ⟨_, _, rfl, ⟨rfl, rfl⟩, (H.sel [] rfl).close trivial⟩
              · have hF644 := condT hF317; clear hF317
                cases hF644
                exact ⟨_, _, rfl, ⟨rfl, rfl⟩, (H.sel [] rfl).close trivial⟩
            · have hF645 := condT hF305; clear hF305
              cases hF645
              exact ⟨_, _, rfl, ⟨rfl, rfl⟩, (H.sel [] rfl).close trivial⟩
          · have hF646 := condT hF281; clear hF281
            cases hF646
            exact ⟨_, _, rfl, ⟨rfl, rfl⟩, (H.sel [] rfl).close trivial⟩
    · have hF647 := condT hF14; clear hF14
      cases hF647
      exact ⟨_, _, rfl, ⟨rfl, rfl⟩, (H.sel [] rfl).close trivial⟩
  · have hF648 := condT hF8; clear hF8
    cases hF648
    exact ⟨_, _, rfl, ⟨rfl, rfl⟩, (H.sel [] rfl).close trivial⟩
end Go.Proofs.YteikcdofblclhaaDoor
