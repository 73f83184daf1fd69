/-
  Contracts, printed by a program (wip/y/gen.py): each function of Go computes its partial function. Condition of each: its partial function yields a value.
-/
import Derived.Test.YtaiddnddgmkfnaaZCall
namespace Go.Proofs.Ytaiddnddgmkfnaa
open Go Go.Proofs.Ytaiddnddgmkfnaa.RW
set_option maxRecDepth 100000
set_option linter.unusedVariables false

theorem spec_hgGlued_c (g__0 : Int) (g__1 : List (Int × Int × List Int × List Int)) (g__1h : Hd) (g__2 : List Int) (g__2h : Hd) (g__3 : List Int) (g__3h : Hd) (a_ : List Int) (a_h : Hd) (b_ : List Int) (b_h : Hd) (y0_0 : Int) (y0_1 : List (Int × Int × List Int × List Int)) (y0_2 : List Int) (y0_3 : List Int) (y1 : List Int) (hF : F_spec_hgGlued (g__0, g__1, g__2, g__3) a_ b_ = some ((y0_0, y0_1, y0_2, y0_3), y1)) :
    ConF Try.prog 86 #[(.agg #[(.int .i64 g__0), (g__1h).v, (g__2h).v, (g__3h).v]), (a_h).v, (b_h).v] [Es (List (Int × Int × List Int × List Int)) g__1 g__1h, Es (List Int) g__2 g__2h, Es (List Int) g__3 g__3h, Es (List Int) a_ a_h, Es (List Int) b_ b_h] [] (fun v Γ' => ∃ z0 z1 z2 z3 : Hd, v = (.tuple #[(.agg #[(.int .i64 y0_0), (z0).v, (z1).v, (z2).v]), (z3).v]) ∧ Γ' = [E (List (Int × Int × List Int × List Int)) y0_1 z0, E (List Int) y0_2 z1, E (List Int) y0_3 z2, E (List Int) y1 z3]) := by
  intro w0 S0 fp0 hI hS
  have H : Cx w0 fp0 S0 w0 [Es (List (Int × Int × List Int × List Int)) g__1 g__1h, Es (List Int) g__2 g__2h, Es (List Int) g__3 g__3h, Es (List Int) a_ a_h, Es (List Int) b_ b_h] := Cx.start hI hS
  clear hI hS
  refine enterC (args := [_, _, _]) gok Try.func86 rfl _ rfl rfl rfl ?_
  refine box_ H ?_; clear H; intro b7 w6 hx H
  clear hx
  replace H : Cx w0 fp0 S0 w6 [Bx b7 [(.int .i64 g__0), (g__1h).v, (g__2h).v, (g__3h).v], Es (List (Int × Int × List Int × List Int)) g__1 g__1h, Es (List Int) g__2 g__2h, Es (List Int) g__3 g__3h, Es (List Int) a_ a_h, Es (List Int) b_ b_h] := H
  refine alloc_ gok rfl H ?_; clear H; intro b10 w9 hx H
  clear hx
  replace H : Cx w0 fp0 S0 w9 [Bx b10 [(.int .i64 0), (.slice none 0 0), (.slice none 0 0), (.slice none 0 0)], Bx b7 [(.int .i64 g__0), (g__1h).v, (g__2h).v, (g__3h).v], Es (List (Int × Int × List Int × List Int)) g__1 g__1h, Es (List Int) g__2 g__2h, Es (List Int) g__3 g__3h, Es (List Int) a_ a_h, Es (List Int) b_ b_h] := H
  refine fld gok rfl rfl rfl rfl ?_
  refine load1 (H.bx 1 rfl (j := 0) rfl) ?_
  obtain ⟨a12, e, hF13⟩ := bindS hF; clear hF
  refine make_ (α := Int) gok rfl rfl rfl rfl (makeCO_of e) H ?_; clear e H; intro h15 w14 hx H
  clear hx
  refine sq ?_
  refine lenE (H.ro (α := List Int) 0 rfl).len ?_
  have hmx42 := (H.ro (α := List Int) 0 rfl).max
  obtain ⟨r43, e, hF44⟩ := bindS hF13; clear hF13
  refine loopS _ a12.length (fun (k17 : Nat) (s40 : List Int) (_ : Unit) => [(1, (a_h).v), (2, (b_h).v), (3, (.pointer (some ⟨b7, 0, none⟩))), (6, (.pointer (some ⟨b10, 0, none⟩))), (8, (h15).v), (27, (.int .i64 ((a12.length : Nat) : Int))), (28, (.int .i64 ((k17 : Nat) : Int)))]) (fun _ (s40 : List Int) (_ : Unit) w' => Cx w0 fp0 S0 w' [Es (List Int) a_ a_h, Es (List Int) b_ b_h, Bx b7 [(.int .i64 g__0), (g__1h).v, (g__2h).v, (g__3h).v], Es (List (Int × Int × List Int × List Int)) g__1 g__1h, Es (List Int) g__2 g__2h, Es (List Int) g__3 g__3h, Bx b10 [(.int .i64 0), (.slice none 0 0), (.slice none 0 0), (.slice none 0 0)], E (List Int) s40 h15]) a12 () e ⟨rfl, rfl, rfl, rfl, rfl, rfl, rfl, trivial⟩ (H.sel [6, 7, 2, 3, 4, 5, 1, 0] rfl) ?_ ?_
  · clear H e
    rintro T46 k17 s40 _ w45 o47 hk (H : Cx w0 fp0 S0 w45 [Es (List Int) a_ a_h, Es (List Int) b_ b_h, Bx b7 [(.int .i64 g__0), (g__1h).v, (g__2h).v, (g__3h).v], Es (List (Int × Int × List Int × List Int)) g__1 g__1h, Es (List Int) g__2 g__2h, Es (List Int) g__3 g__3h, Bx b10 [(.int .i64 0), (.slice none 0 0), (.slice none 0 0), (.slice none 0 0)], E (List Int) s40 h15]) hF48
    refine boolE (z := true) (ltLen hk) ?_
    refine sq ?_
    refine sq ?_
    obtain ⟨a55, e, hF56⟩ := bindS hF48; clear hF48
    have ea55 := e; clear e
    obtain ⟨p53, m54, c49, c50, c51⟩ := (H.ro (α := List Int) 7 rfl).setp ea55
    refine idxE c49 c50 c51 ?_
    replace H := H.sel [7, 0, 1, 2, 3, 4, 5, 6] rfl
    refine setS (α := Int) H c49 c50 ea55 ?_; clear H c49 c50 c51 ea55; intro w57 H
    refine arK hk hmx42 ?_
    have hs := Option.some.inj hF56; subst hs; clear hF56
    exact ⟨(), ⟨rfl, rfl, rfl, rfl, rfl, rfl, rfl, trivial⟩, H.sel [1, 2, 3, 4, 5, 6, 7, 0] rfl⟩
  · clear H e
    rintro T59 _ w58 (H : Cx w0 fp0 S0 w58 [Es (List Int) a_ a_h, Es (List Int) b_ b_h, Bx b7 [(.int .i64 g__0), (g__1h).v, (g__2h).v, (g__3h).v], Es (List (Int × Int × List Int × List Int)) g__1 g__1h, Es (List Int) g__2 g__2h, Es (List Int) g__3 g__3h, Bx b10 [(.int .i64 0), (.slice none 0 0), (.slice none 0 0), (.slice none 0 0)], E (List Int) r43 h15])
    refine boolE (z := false) geLen ?_
    refine sq ?_
    refine sq ?_
    refine lenE (H.rs (α := List Int) 0 rfl).len ?_
    have hmx339 := (H.rs (α := List Int) 0 rfl).max
    obtain ⟨r340, e, hF341⟩ := bindS hF44; clear hF44
    refine loopS _ a_.length (fun (k62 : Nat) (s337 : List Int) (_ : Unit) => [(1, (a_h).v), (2, (b_h).v), (3, (.pointer (some ⟨b7, 0, none⟩))), (6, (.pointer (some ⟨b10, 0, none⟩))), (8, (h15).v), (37, (.int .i64 ((a_.length : Nat) : Int))), (38, (.int .i64 ((k62 : Nat) : Int)))]) (fun _ (s337 : List Int) (_ : Unit) w' => Cx w0 fp0 S0 w' [Es (List Int) a_ a_h, Es (List Int) b_ b_h, Bx b7 [(.int .i64 g__0), (g__1h).v, (g__2h).v, (g__3h).v], Es (List (Int × Int × List Int × List Int)) g__1 g__1h, Es (List Int) g__2 g__2h, Es (List Int) g__3 g__3h, Bx b10 [(.int .i64 0), (.slice none 0 0), (.slice none 0 0), (.slice none 0 0)], E (List Int) s337 h15]) r43 () e ⟨rfl, rfl, rfl, rfl, rfl, rfl, rfl, trivial⟩ (H.sel [0, 1, 2, 3, 4, 5, 6, 7] rfl) ?_ ?_
    · clear H e
      rintro T343 k62 s337 _ w342 o344 hk (H : Cx w0 fp0 S0 w342 [Es (List Int) a_ a_h, Es (List Int) b_ b_h, Bx b7 [(.int .i64 g__0), (g__1h).v, (g__2h).v, (g__3h).v], Es (List (Int × Int × List Int × List Int)) g__1 g__1h, Es (List Int) g__2 g__2h, Es (List Int) g__3 g__3h, Bx b10 [(.int .i64 0), (.slice none 0 0), (.slice none 0 0), (.slice none 0 0)], E (List Int) s337 h15]) hF345
      refine boolE (z := true) (ltLen hk) ?_
      refine sq ?_
      refine sq ?_
      refine heldX H [] (.fst 0 (.fst 1 (.fst 2 (.fst 3 (.fst 7 (.fst 8 (.fst 9 (.fst 10 (.fst 4 (.fst 5 (.fst 6 (.fst 14 (.fst 11 (.fst 12 (.fst 13 (.fst 15 .done)))))))))))))))) mixed [] trivial (by kernel_rfl) ?_
      clear H; intro w346 H
      have hX : Ext w346 w346 := Upd.refl _ _
      have H0 := H
      obtain ⟨a353, e, hF354⟩ := bindS hF345; clear hF345
      obtain ⟨p351, m352, c347, c348, c349, c350⟩ := (H.rs (α := List Int) 0 rfl).at1 e; clear e
      refine idxE c347 c348 c349 ?_; clear c347 c348 c349
      obtain ⟨a361, e, hF362⟩ := bindS hF354; clear hF354
      obtain ⟨p359, m360, c355, c356, c357, c358⟩ := (H.rs (α := List Int) 1 rfl).at1 e; clear e
      refine idxE c355 c356 c357 ?_; clear c355 c356 c357
      refine load1X c350 ?_; clear c350
      obtain ⟨a369, e, hF370⟩ := bindS hF362; clear hF362
      obtain ⟨p367, m368, c363, c364, c365, c366⟩ := (H.ro (α := List Int) 7 rfl).at1 e; clear e
      refine idxE c363 c364 c365 ?_; clear c363 c364 c365
      refine load1X c366 ?_; clear c366
      refine load1X c358 ?_; clear c358
      obtain ⟨a377, e, hF378⟩ := bindS hF370; clear hF370
      obtain ⟨p375, m376, c371, c372, c373, c374⟩ := (H.ro (α := List Int) 7 rfl).at1 e; clear e
      refine idxE c371 c372 c373 ?_; clear c371 c372 c373
      refine load1X c374 ?_; clear c374
      refine lenE (H.ro (α := List Int) 7 rfl).len ?_
      have hmx442 := (H.ro (α := List Int) 7 rfl).max
      obtain ⟨r443, e, hF444⟩ := bindS hF378; clear hF378
      refine loopS _ s337.length (fun (k379 : Nat) (s440 : List Int) (_ : Unit) => [(1, (a_h).v), (2, (b_h).v), (3, (.pointer (some ⟨b7, 0, none⟩))), (6, (.pointer (some ⟨b10, 0, none⟩))), (8, (h15).v), (11, (.int .i64 a369)), (12, (.int .i64 a377)), (37, (.int .i64 ((a_.length : Nat) : Int))), (38, (.int .i64 ((k62 : Nat) : Int))), (56, (.int .i64 ((s337.length : Nat) : Int))), (57, (.int .i64 ((k379 : Nat) : Int)))]) (fun _ (s440 : List Int) (_ : Unit) w' => Cx w0 fp0 S0 w' [Es (List Int) a_ a_h, Es (List Int) b_ b_h, Bx b7 [(.int .i64 g__0), (g__1h).v, (g__2h).v, (g__3h).v], Es (List (Int × Int × List Int × List Int)) g__1 g__1h, Es (List Int) g__2 g__2h, Es (List Int) g__3 g__3h, Bx b10 [(.int .i64 0), (.slice none 0 0), (.slice none 0 0), (.slice none 0 0)], E (List Int) s440 h15]) s337 () e ⟨rfl, rfl, rfl, rfl, rfl, rfl, rfl, rfl, rfl, rfl, rfl, trivial⟩ (H.sel [0, 1, 2, 3, 4, 5, 6, 7] rfl) ?_ ?_
      · clear H e
        rintro T446 k379 s440 _ w445 o447 hk (H : Cx w0 fp0 S0 w445 [Es (List Int) a_ a_h, Es (List Int) b_ b_h, Bx b7 [(.int .i64 g__0), (g__1h).v, (g__2h).v, (g__3h).v], Es (List (Int × Int × List Int × List Int)) g__1 g__1h, Es (List Int) g__2 g__2h, Es (List Int) g__3 g__3h, Bx b10 [(.int .i64 0), (.slice none 0 0), (.slice none 0 0), (.slice none 0 0)], E (List Int) s440 h15]) hF448
        refine boolE (z := true) (ltLen hk) ?_
        refine sq ?_
        refine sq ?_
        refine heldX H [] (.fst 0 (.fst 1 (.fst 2 (.fst 4 (.fst 5 (.fst 3 (.act 6 (.fst 7 .done)))))))) mixed [] trivial (by kernel_rfl) ?_
        clear H; intro w449 H
        have hX : Ext w449 w449 := Upd.refl _ _
        have H0 := H
        obtain ⟨a456, e, hF457⟩ := bindS hF448; clear hF448
        obtain ⟨p454, m455, c450, c451, c452, c453⟩ := (H.ro (α := List Int) 7 rfl).at1 e; clear e
        refine idxE c450 c451 c452 ?_; clear c450 c451 c452
        refine load1X c453 ?_; clear c453
        obtain ⟨y458, e, hF459⟩ := bindS hF457; clear hF457
        have ey458 := e; clear e
        refine callFx (spec_l1Most_c a369 a377 y458 ey458) H trivial ?_; clear H ey458
        rintro _ _ w460 ⟨rfl, rfl⟩ hx (H : Cx w0 fp0 S0 w460 [Es (List Int) a_ a_h, Es (List Int) b_ b_h, Bx b7 [(.int .i64 g__0), (g__1h).v, (g__2h).v, (g__3h).v], Es (List (Int × Int × List Int × List Int)) g__1 g__1h, Es (List Int) g__2 g__2h, Es (List Int) g__3 g__3h, Bx b10 [(.int .i64 0), (.slice none 0 0), (.slice none 0 0), (.slice none 0 0)], E (List Int) s440 h15])
        replace hX := hX.trans0 hx; clear hx
        refine hold hX ?_
        obtain ⟨a461, e, hF462⟩ := bindS hF459; clear hF459
        refine boolO e ?_; clear e
        cases a461
        · have hF463 := condF hF462; clear hF462
          refine arK hk hmx442 ?_
          have hs := Option.some.inj hF463; subst hs; clear hF463
          exact ⟨(), ⟨rfl, rfl, rfl, rfl, rfl, rfl, rfl, rfl, rfl, rfl, rfl, trivial⟩, H.sel [0, 1, 2, 3, 4, 5, 6, 7] rfl⟩
        · have hF464 := condT hF462; clear hF462
          obtain ⟨y465, e, hF466⟩ := bindS hF464; clear hF464
          have ey465 := e; clear e
          refine callF (spec_l1Least_c a369 a377 y465 ey465) (Γi := []) H trivial ?_; clear H ey465
          rintro _ _ w467 ⟨rfl, rfl⟩ (H : Cx w0 fp0 S0 w467 [Es (List Int) a_ a_h, Es (List Int) b_ b_h, Bx b7 [(.int .i64 g__0), (g__1h).v, (g__2h).v, (g__3h).v], Es (List (Int × Int × List Int × List Int)) g__1 g__1h, Es (List Int) g__2 g__2h, Es (List Int) g__3 g__3h, Bx b10 [(.int .i64 0), (.slice none 0 0), (.slice none 0 0), (.slice none 0 0)], E (List Int) s440 h15])
          obtain ⟨a474, e, hF475⟩ := bindS hF466; clear hF466
          have ea474 := e; clear e
          obtain ⟨p472, m473, c468, c469, c470⟩ := (H.ro (α := List Int) 7 rfl).setp ea474
          refine idxE c468 c469 c470 ?_
          replace H := H.sel [7, 0, 1, 2, 3, 4, 5, 6] rfl
          refine setS (α := Int) H c468 c469 ea474 ?_; clear H c468 c469 c470 ea474; intro w476 H
          refine arK hk hmx442 ?_
          have hs := Option.some.inj hF475; subst hs; clear hF475
          exact ⟨(), ⟨rfl, rfl, rfl, rfl, rfl, rfl, rfl, rfl, rfl, rfl, rfl, trivial⟩, H.sel [1, 2, 3, 4, 5, 6, 7, 0] rfl⟩
      · clear H e
        rintro T478 _ w477 (H : Cx w0 fp0 S0 w477 [Es (List Int) a_ a_h, Es (List Int) b_ b_h, Bx b7 [(.int .i64 g__0), (g__1h).v, (g__2h).v, (g__3h).v], Es (List (Int × Int × List Int × List Int)) g__1 g__1h, Es (List Int) g__2 g__2h, Es (List Int) g__3 g__3h, Bx b10 [(.int .i64 0), (.slice none 0 0), (.slice none 0 0), (.slice none 0 0)], E (List Int) r443 h15])
        refine boolE (z := false) geLen ?_
        refine sq ?_
        refine arK hk hmx339 ?_
        have hs := Option.some.inj hF444; subst hs; clear hF444
        exact ⟨(), ⟨rfl, rfl, rfl, rfl, rfl, rfl, rfl, trivial⟩, H.sel [0, 1, 2, 3, 4, 5, 6, 7] rfl⟩
    · clear H e
      rintro T482 _ w481 (H : Cx w0 fp0 S0 w481 [Es (List Int) a_ a_h, Es (List Int) b_ b_h, Bx b7 [(.int .i64 g__0), (g__1h).v, (g__2h).v, (g__3h).v], Es (List (Int × Int × List Int × List Int)) g__1 g__1h, Es (List Int) g__2 g__2h, Es (List Int) g__3 g__3h, Bx b10 [(.int .i64 0), (.slice none 0 0), (.slice none 0 0), (.slice none 0 0)], E (List Int) r340 h15])
      refine boolE (z := false) geLen ?_
      refine sq ?_
      refine loadN [(.int .i64 g__0), (g__1h).v, (g__2h).v, (g__3h).v] rfl (fun j u hj => H.bx 2 rfl hj) ?_
      obtain ⟨y485, e, hF486⟩ := bindS hF341; clear hF341
      obtain ⟨y485_0, y485_1⟩ := y485
      have ey485 := e; clear e
      refine callF (spec_hgCounts_c g__0 g__1 g__1h g__2 g__2h g__3 g__3h y485_0 y485_1 ey485) (Γi := []) H ⟨Vw.sh 3 rfl, Vw.sh 4 rfl, Vw.sh 5 rfl, trivial⟩ ?_; clear H ey485
      rintro _ _ w487 ⟨h488, h490, rfl, rfl⟩ (H : Cx w0 fp0 S0 w487 [E (List Int) y485_0 h488, E (List Int) y485_1 h490, Es (List Int) a_ a_h, Es (List Int) b_ b_h, Bx b7 [(.int .i64 g__0), (g__1h).v, (g__2h).v, (g__3h).v], Es (List (Int × Int × List Int × List Int)) g__1 g__1h, Es (List Int) g__2 g__2h, Es (List Int) g__3 g__3h, Bx b10 [(.int .i64 0), (.slice none 0 0), (.slice none 0 0), (.slice none 0 0)], E (List Int) r340 h15])
      refine fld gok rfl rfl rfl rfl ?_
      refine load1 (H.bx 4 rfl (j := 0) rfl) ?_
      obtain ⟨a492, e, hF493⟩ := bindS hF486; clear hF486
      refine make_ (α := Bool) gok rfl rfl rfl rfl (makeCO_of e) H ?_; clear e H; intro h495 w494 hx H
      clear hx
      refine sq ?_
      refine lenE (H.ro (α := List Int) 10 rfl).len ?_
      have hmx584 := (H.ro (α := List Int) 10 rfl).max
      obtain ⟨r585, e, hF586⟩ := bindS hF493; clear hF493
      refine loopS _ r340.length (fun (k497 : Nat) (s582 : List Bool) (_ : Unit) => [(3, (.pointer (some ⟨b7, 0, none⟩))), (6, (.pointer (some ⟨b10, 0, none⟩))), (8, (h15).v), (14, (h488).v), (15, (h490).v), (16, (h495).v), (84, (h15).v), (85, (.int .i64 ((r340.length : Nat) : Int))), (86, (.int .i64 ((k497 : Nat) : Int)))]) (fun _ (s582 : List Bool) (_ : Unit) w' => Cx w0 fp0 S0 w' [Bx b7 [(.int .i64 g__0), (g__1h).v, (g__2h).v, (g__3h).v], Es (List (Int × Int × List Int × List Int)) g__1 g__1h, Es (List Int) g__2 g__2h, Es (List Int) g__3 g__3h, Bx b10 [(.int .i64 0), (.slice none 0 0), (.slice none 0 0), (.slice none 0 0)], E (List Int) r340 h15, E (List Int) y485_0 h488, E (List Int) y485_1 h490, E (List Bool) s582 h495]) a492 () e ⟨rfl, rfl, rfl, rfl, rfl, rfl, rfl, rfl, rfl, trivial⟩ (H.sel [5, 6, 7, 8, 9, 10, 1, 2, 0] rfl) ?_ ?_
      · clear H e
        rintro T588 k497 s582 _ w587 o589 hk (H : Cx w0 fp0 S0 w587 [Bx b7 [(.int .i64 g__0), (g__1h).v, (g__2h).v, (g__3h).v], Es (List (Int × Int × List Int × List Int)) g__1 g__1h, Es (List Int) g__2 g__2h, Es (List Int) g__3 g__3h, Bx b10 [(.int .i64 0), (.slice none 0 0), (.slice none 0 0), (.slice none 0 0)], E (List Int) r340 h15, E (List Int) y485_0 h488, E (List Int) y485_1 h490, E (List Bool) s582 h495]) hF590
        refine boolE (z := true) (ltLen hk) ?_
        refine sq ?_
        refine sq ?_
        obtain ⟨a597, e, hF598⟩ := bindS hF590; clear hF590
        obtain ⟨p595, m596, c591, c592, c593, c594⟩ := (H.ro (α := List Int) 5 rfl).at1 e; clear e
        refine idxE c591 c592 c593 ?_; clear c591 c592 c593
        refine load1 c594 ?_; clear c594
        refine heldX H [] (.fst 0 (.fst 1 (.fst 2 (.fst 4 (.fst 5 (.fst 6 (.fst 3 (.fst 7 (.fst 8 (.fst 9 .done)))))))))) mixed [] trivial (by kernel_rfl) ?_
        clear H; intro w599 H
        have hX : Ext w599 w599 := Upd.refl _ _
        have H0 := H
        obtain ⟨a606, e, hF607⟩ := bindS hF598; clear hF598
        obtain ⟨p604, m605, c600, c601, c602, c603⟩ := (H.ro (α := List Int) 6 rfl).at1 e; clear e
        refine idxE c600 c601 c602 ?_; clear c600 c601 c602
        obtain ⟨a614, e, hF615⟩ := bindS hF607; clear hF607
        obtain ⟨p612, m613, c608, c609, c610, c611⟩ := (H.ro (α := List Int) 7 rfl).at1 e; clear e
        refine idxE c608 c609 c610 ?_; clear c608 c609 c610
        refine load1X c603 ?_; clear c603
        refine load1X c611 ?_; clear c611
        obtain ⟨a616, e, hF617⟩ := bindS hF615; clear hF615
        refine arO e ?_; clear e
        obtain ⟨a618, e, hF619⟩ := bindS hF617; clear hF617
        refine boolO e ?_; clear e
        cases a618
        · have hF620 := condF hF619; clear hF619
          refine arK hk hmx584 ?_
          have hs := Option.some.inj hF620; subst hs; clear hF620
          exact ⟨(), ⟨rfl, rfl, rfl, rfl, rfl, rfl, rfl, rfl, rfl, trivial⟩, H.sel [0, 1, 2, 3, 4, 5, 6, 7, 8] rfl⟩
        · have hF621 := condT hF619; clear hF619
          obtain ⟨a628, e, hF629⟩ := bindS hF621; clear hF621
          have ea628 := e; clear e
          obtain ⟨p626, m627, c622, c623, c624⟩ := (H.ro (α := List Bool) 8 rfl).setp ea628
          refine idxE c622 c623 c624 ?_
          replace H := H.sel [8, 0, 1, 2, 3, 4, 5, 6, 7] rfl
          refine setS (α := Bool) H c622 c623 ea628 ?_; clear H c622 c623 c624 ea628; intro w630 H
          refine arK hk hmx584 ?_
          have hs := Option.some.inj hF629; subst hs; clear hF629
          exact ⟨(), ⟨rfl, rfl, rfl, rfl, rfl, rfl, rfl, rfl, rfl, trivial⟩, H.sel [1, 2, 3, 4, 5, 6, 7, 8, 0] rfl⟩
      · clear H e
        rintro T632 _ w631 (H : Cx w0 fp0 S0 w631 [Bx b7 [(.int .i64 g__0), (g__1h).v, (g__2h).v, (g__3h).v], Es (List (Int × Int × List Int × List Int)) g__1 g__1h, Es (List Int) g__2 g__2h, Es (List Int) g__3 g__3h, Bx b10 [(.int .i64 0), (.slice none 0 0), (.slice none 0 0), (.slice none 0 0)], E (List Int) r340 h15, E (List Int) y485_0 h488, E (List Int) y485_1 h490, E (List Bool) r585 h495])
        refine boolE (z := false) geLen ?_
        refine sq ?_
        refine fld gok rfl rfl rfl rfl ?_
        refine load1 (H.bx 0 rfl (j := 0) rfl) ?_
        obtain ⟨a635, e, hF636⟩ := bindS hF586; clear hF586
        refine make_ (α := Int) gok rfl rfl rfl rfl (makeCO_of e) H ?_; clear e H; intro h638 w637 hx H
        clear hx
        refine sq ?_
        refine lenE (H.ro (α := List Int) 0 rfl).len ?_
        have hmx769 := (H.ro (α := List Int) 0 rfl).max
        obtain ⟨r770, e, hF771⟩ := bindS hF636; clear hF636
        refine loopS _ a635.length (fun (k640 : Nat) (s767 : List Int × Int) (_ : Unit) => [(3, (.pointer (some ⟨b7, 0, none⟩))), (6, (.pointer (some ⟨b10, 0, none⟩))), (8, (h15).v), (16, (h495).v), (19, (h638).v), (20, (.int .i64 s767.2)), (109, (.int .i64 ((a635.length : Nat) : Int))), (110, (.int .i64 ((k640 : Nat) : Int)))]) (fun _ (s767 : List Int × Int) (_ : Unit) w' => Cx w0 fp0 S0 w' [Bx b7 [(.int .i64 g__0), (g__1h).v, (g__2h).v, (g__3h).v], Es (List (Int × Int × List Int × List Int)) g__1 g__1h, Es (List Int) g__2 g__2h, Es (List Int) g__3 g__3h, Bx b10 [(.int .i64 0), (.slice none 0 0), (.slice none 0 0), (.slice none 0 0)], E (List Int) r340 h15, E (List Bool) r585 h495, E (List Int) s767.1 h638]) (a635, 0) () e ⟨rfl, rfl, rfl, rfl, rfl, rfl, rfl, rfl, trivial⟩ (H.sel [1, 2, 3, 4, 5, 6, 9, 0] rfl) ?_ ?_
        · clear H e
          rintro T773 k640 ⟨s767_0, s767_1⟩ _ w772 o774 hk (H : Cx w0 fp0 S0 w772 [Bx b7 [(.int .i64 g__0), (g__1h).v, (g__2h).v, (g__3h).v], Es (List (Int × Int × List Int × List Int)) g__1 g__1h, Es (List Int) g__2 g__2h, Es (List Int) g__3 g__3h, Bx b10 [(.int .i64 0), (.slice none 0 0), (.slice none 0 0), (.slice none 0 0)], E (List Int) r340 h15, E (List Bool) r585 h495, E (List Int) s767_0 h638]) hF775
          refine boolE (z := true) (ltLen hk) ?_
          refine sq ?_
          refine sq ?_
          obtain ⟨r798, hF800, hF799⟩ := bindS hF775; clear hF775
          refine cut (fun (q801 : Bool) => [(3, (.pointer (some ⟨b7, 0, none⟩))), (6, (.pointer (some ⟨b10, 0, none⟩))), (8, (h15).v), (16, (h495).v), (19, (h638).v), (20, (.int .i64 s767_1)), (21, (.int .i64 ((k640 : Nat) : Int))), (109, (.int .i64 ((a635.length : Nat) : Int))), (110, (.int .i64 ((k640 : Nat) : Int))), (124, (.bool q801))]) (fun (q801 : Bool) w' => q801 = r798 ∧ Cx w0 fp0 S0 w' [Bx b7 [(.int .i64 g__0), (g__1h).v, (g__2h).v, (g__3h).v], Es (List (Int × Int × List Int × List Int)) g__1 g__1h, Es (List Int) g__2 g__2h, Es (List Int) g__3 g__3h, Bx b10 [(.int .i64 0), (.slice none 0 0), (.slice none 0 0), (.slice none 0 0)], E (List Int) r340 h15, E (List Bool) r585 h495, E (List Int) s767_0 h638]) ?_ ?_
          · skip
            obtain ⟨a808, e, hF809⟩ := bindS hF800; clear hF800
            obtain ⟨p806, m807, c802, c803, c804, c805⟩ := (H.ro (α := List Int) 5 rfl).at1 e; clear e
            refine idxE c802 c803 c804 ?_; clear c802 c803 c804
            refine load1 c805 ?_; clear c805
            obtain ⟨a810, e, hF811⟩ := bindS hF809; clear hF809
            refine boolO e ?_; clear e
            cases a810
            · have hF812 := condF hF811; clear hF811
              exact ⟨false, ⟨rfl, rfl, rfl, rfl, rfl, rfl, rfl, rfl, rfl, rfl, trivial⟩, Option.some.inj hF812, H.sel [0, 1, 2, 3, 4, 5, 6, 7] rfl⟩
            · have hF813 := condT hF811; clear hF811
              obtain ⟨a820, e, hF821⟩ := bindS hF813; clear hF813
              obtain ⟨p818, m819, c814, c815, c816, c817⟩ := (H.ro (α := List Bool) 6 rfl).at1 e; clear e
              refine idxE c814 c815 c816 ?_; clear c814 c815 c816
              refine load1 c817 ?_; clear c817
              exact ⟨a820, ⟨rfl, rfl, rfl, rfl, rfl, rfl, rfl, rfl, rfl, rfl, trivial⟩, Option.some.inj hF821, H.sel [0, 1, 2, 3, 4, 5, 6, 7] rfl⟩
          · clear hF800 H
            rintro T823 s796 w822 ⟨hr, (H : Cx w0 fp0 S0 w822 [Bx b7 [(.int .i64 g__0), (g__1h).v, (g__2h).v, (g__3h).v], Es (List (Int × Int × List Int × List Int)) g__1 g__1h, Es (List Int) g__2 g__2h, Es (List Int) g__3 g__3h, Bx b10 [(.int .i64 0), (.slice none 0 0), (.slice none 0 0), (.slice none 0 0)], E (List Int) r340 h15, E (List Bool) r585 h495, E (List Int) s767_0 h638])⟩
            subst hr
            cases s796
            · have hF824 := condF hF799; clear hF799
              refine arK hk hmx769 ?_
              have hs := Option.some.inj hF824; subst hs; clear hF824
              exact ⟨(), ⟨rfl, rfl, rfl, rfl, rfl, rfl, rfl, rfl, trivial⟩, H.sel [0, 1, 2, 3, 4, 5, 6, 7] rfl⟩
            · have hF825 := condT hF799; clear hF799
              obtain ⟨a832, e, hF833⟩ := bindS hF825; clear hF825
              have ea832 := e; clear e
              obtain ⟨p830, m831, c826, c827, c828⟩ := (H.ro (α := List Int) 7 rfl).setp ea832
              refine idxE c826 c827 c828 ?_
              replace H := H.sel [7, 0, 1, 2, 3, 4, 5, 6] rfl
              refine setS (α := Int) H c826 c827 ea832 ?_; clear H c826 c827 c828 ea832; intro w834 H
              obtain ⟨a835, e, hF836⟩ := bindS hF833; clear hF833
              refine arO e ?_; clear e
              refine arK hk hmx769 ?_
              have hs := Option.some.inj hF836; subst hs; clear hF836
              exact ⟨(), ⟨rfl, rfl, rfl, rfl, rfl, rfl, rfl, rfl, trivial⟩, H.sel [1, 2, 3, 4, 5, 6, 7, 0] rfl⟩
        · clear H e
          obtain ⟨s839_0, s839_1⟩ := r770
          rintro T838 _ w837 (H : Cx w0 fp0 S0 w837 [Bx b7 [(.int .i64 g__0), (g__1h).v, (g__2h).v, (g__3h).v], Es (List (Int × Int × List Int × List Int)) g__1 g__1h, Es (List Int) g__2 g__2h, Es (List Int) g__3 g__3h, Bx b10 [(.int .i64 0), (.slice none 0 0), (.slice none 0 0), (.slice none 0 0)], E (List Int) r340 h15, E (List Bool) r585 h495, E (List Int) s839_0 h638])
          refine boolE (z := false) geLen ?_
          refine sq ?_
          refine sq ?_
          refine lenE (H.ro (α := List Int) 7 rfl).len ?_
          have hmx956 := (H.ro (α := List Int) 7 rfl).max
          obtain ⟨r957, e, hF958⟩ := bindS hF771; clear hF771
          refine loopS _ s839_0.length (fun (k841 : Nat) (s954 : List Int) (_ : Unit) => [(3, (.pointer (some ⟨b7, 0, none⟩))), (6, (.pointer (some ⟨b10, 0, none⟩))), (8, (h15).v), (16, (h495).v), (19, (h638).v), (20, (.int .i64 s839_1)), (133, (.int .i64 ((s839_0.length : Nat) : Int))), (134, (.int .i64 ((k841 : Nat) : Int)))]) (fun _ (s954 : List Int) (_ : Unit) w' => Cx w0 fp0 S0 w' [Bx b7 [(.int .i64 g__0), (g__1h).v, (g__2h).v, (g__3h).v], Es (List (Int × Int × List Int × List Int)) g__1 g__1h, Es (List Int) g__2 g__2h, Es (List Int) g__3 g__3h, Bx b10 [(.int .i64 0), (.slice none 0 0), (.slice none 0 0), (.slice none 0 0)], E (List Int) r340 h15, E (List Bool) r585 h495, E (List Int) s954 h638]) s839_0 () e ⟨rfl, rfl, rfl, rfl, rfl, rfl, rfl, rfl, trivial⟩ (H.sel [0, 1, 2, 3, 4, 5, 6, 7] rfl) ?_ ?_
          · clear H e
            rintro T960 k841 s954 _ w959 o961 hk (H : Cx w0 fp0 S0 w959 [Bx b7 [(.int .i64 g__0), (g__1h).v, (g__2h).v, (g__3h).v], Es (List (Int × Int × List Int × List Int)) g__1 g__1h, Es (List Int) g__2 g__2h, Es (List Int) g__3 g__3h, Bx b10 [(.int .i64 0), (.slice none 0 0), (.slice none 0 0), (.slice none 0 0)], E (List Int) r340 h15, E (List Bool) r585 h495, E (List Int) s954 h638]) hF962
            refine boolE (z := true) (ltLen hk) ?_
            refine sq ?_
            refine sq ?_
            obtain ⟨a969, e, hF970⟩ := bindS hF962; clear hF962
            obtain ⟨p967, m968, c963, c964, c965, c966⟩ := (H.ro (α := List Int) 5 rfl).at1 e; clear e
            refine idxE c963 c964 c965 ?_; clear c963 c964 c965
            refine load1 c966 ?_; clear c966
            obtain ⟨a977, e, hF978⟩ := bindS hF970; clear hF970
            obtain ⟨p975, m976, c971, c972, c973, c974⟩ := (H.ro (α := List Int) 7 rfl).at1 e; clear e
            refine idxE c971 c972 c973 ?_; clear c971 c972 c973
            refine load1 c974 ?_; clear c974
            obtain ⟨a985, e, hF986⟩ := bindS hF978; clear hF978
            have ea985 := e; clear e
            obtain ⟨p983, m984, c979, c980, c981⟩ := (H.ro (α := List Int) 7 rfl).setp ea985
            refine idxE c979 c980 c981 ?_
            replace H := H.sel [7, 0, 1, 2, 3, 4, 5, 6] rfl
            refine setS (α := Int) H c979 c980 ea985 ?_; clear H c979 c980 c981 ea985; intro w987 H
            obtain ⟨a994, e, hF995⟩ := bindS hF986; clear hF986
            obtain ⟨p992, m993, c988, c989, c990, c991⟩ := (H.ro (α := List Int) 6 rfl).at1 e; clear e
            refine idxE c988 c989 c990 ?_; clear c988 c989 c990
            refine load1 c991 ?_; clear c991
            obtain ⟨a1002, e, hF1003⟩ := bindS hF995; clear hF995
            obtain ⟨p1000, m1001, c996, c997, c998, c999⟩ := (H.ro (α := List Bool) 7 rfl).at1 e; clear e
            refine idxE c996 c997 c998 ?_; clear c996 c997 c998
            refine load1 c999 ?_; clear c999
            obtain ⟨a1004, e, hF1005⟩ := bindS hF1003; clear hF1003
            refine boolO e ?_; clear e
            cases a1004
            · have hF1006 := condF hF1005; clear hF1005
              refine arK hk hmx956 ?_
              have hs := Option.some.inj hF1006; subst hs; clear hF1006
              exact ⟨(), ⟨rfl, rfl, rfl, rfl, rfl, rfl, rfl, rfl, trivial⟩, H.sel [1, 2, 3, 4, 5, 6, 7, 0] rfl⟩
            · have hF1007 := condT hF1005; clear hF1005
              obtain ⟨a1014, e, hF1015⟩ := bindS hF1007; clear hF1007
              have ea1014 := e; clear e
              obtain ⟨p1012, m1013, c1008, c1009, c1010⟩ := (H.ro (α := List Int) 0 rfl).setp ea1014
              refine idxE c1008 c1009 c1010 ?_
              refine setS (α := Int) H c1008 c1009 ea1014 ?_; clear H c1008 c1009 c1010 ea1014; intro w1016 H
              refine arK hk hmx956 ?_
              have hs := Option.some.inj hF1015; subst hs; clear hF1015
              exact ⟨(), ⟨rfl, rfl, rfl, rfl, rfl, rfl, rfl, rfl, trivial⟩, H.sel [1, 2, 3, 4, 5, 6, 7, 0] rfl⟩
          · clear H e
            rintro T1018 _ w1017 (H : Cx w0 fp0 S0 w1017 [Bx b7 [(.int .i64 g__0), (g__1h).v, (g__2h).v, (g__3h).v], Es (List (Int × Int × List Int × List Int)) g__1 g__1h, Es (List Int) g__2 g__2h, Es (List Int) g__3 g__3h, Bx b10 [(.int .i64 0), (.slice none 0 0), (.slice none 0 0), (.slice none 0 0)], E (List Int) r340 h15, E (List Bool) r585 h495, E (List Int) r957 h638])
            refine boolE (z := false) geLen ?_
            refine sq ?_
            refine loadN [(.int .i64 g__0), (g__1h).v, (g__2h).v, (g__3h).v] rfl (fun j u hj => H.bx 0 rfl hj) ?_
            obtain ⟨y1021, e, hF1022⟩ := bindS hF958; clear hF958
            obtain ⟨y1021_0, y1021_1, y1021_2, y1021_3⟩ := y1021
            have ey1021 := e; clear e
            refine callF (spec_hgMap_c g__0 g__1 g__1h g__2 g__2h g__3 g__3h r957 h638 s839_1 y1021_0 y1021_1 y1021_2 y1021_3 ey1021) (Γi := []) H ⟨Vw.sh 1 rfl, Vw.sh 2 rfl, Vw.sh 3 rfl, Vw.own 7 rfl, trivial⟩ ?_; clear H ey1021
            rintro _ _ w1023 ⟨h1024, h1026, h1028, rfl, rfl⟩ (H : Cx w0 fp0 S0 w1023 [E (List (Int × Int × List Int × List Int)) y1021_1 h1024, E (List Int) y1021_2 h1026, E (List Int) y1021_3 h1028, Bx b7 [(.int .i64 g__0), (g__1h).v, (g__2h).v, (g__3h).v], Es (List (Int × Int × List Int × List Int)) g__1 g__1h, Es (List Int) g__2 g__2h, Es (List Int) g__3 g__3h, Bx b10 [(.int .i64 0), (.slice none 0 0), (.slice none 0 0), (.slice none 0 0)], E (List Int) r340 h15, E (List Bool) r585 h495, E (List Int) r957 h638])
            replace H := H.sel [7, 0, 1, 2, 3, 4, 5, 6, 8, 9, 10] rfl
            refine stA gok [(.int .i64 y1021_0), (h1024).v, (h1026).v, (h1028).v] rfl H rfl rfl rfl ?_; clear H; intro w1030 H
            replace H : Cx w0 fp0 S0 w1030 [Bx b10 [(.int .i64 y1021_0), (h1024).v, (h1026).v, (h1028).v], E (List (Int × Int × List Int × List Int)) y1021_1 h1024, E (List Int) y1021_2 h1026, E (List Int) y1021_3 h1028, Bx b7 [(.int .i64 g__0), (g__1h).v, (g__2h).v, (g__3h).v], Es (List (Int × Int × List Int × List Int)) g__1 g__1h, Es (List Int) g__2 g__2h, Es (List Int) g__3 g__3h, E (List Int) r340 h15, E (List Bool) r585 h495, E (List Int) r957 h638] := H
            refine loadN [(.int .i64 y1021_0), (h1024).v, (h1026).v, (h1028).v] rfl (fun j u hj => H.bx 0 rfl hj) ?_
            cases hF1022
            exact ⟨_, _, rfl, ⟨h1024, h1026, h1028, h638, rfl, rfl⟩, (H.sel [1, 2, 3, 10] rfl).close ⟨cloE, cloE, cloE, cloE, trivial⟩⟩

theorem spec_hgGlue_c (g__0 : Int) (g__1 : List (Int × Int × List Int × List Int)) (g__1h : Hd) (g__2 : List Int) (g__2h : Hd) (g__3 : List Int) (g__3h : Hd) (a_ : List Int) (a_h : Hd) (b_ : List Int) (b_h : Hd) (y_0 : Int) (y_1 : List (Int × Int × List Int × List Int)) (y_2 : List Int) (y_3 : List Int) (hF : F_spec_hgGlue (g__0, g__1, g__2, g__3) a_ b_ = some (y_0, y_1, y_2, y_3)) :
    ConF Try.prog 61 #[(.agg #[(.int .i64 g__0), (g__1h).v, (g__2h).v, (g__3h).v]), (a_h).v, (b_h).v] [Es (List (Int × Int × List Int × List Int)) g__1 g__1h, Es (List Int) g__2 g__2h, Es (List Int) g__3 g__3h, Es (List Int) a_ a_h, Es (List Int) b_ b_h] [] (fun v Γ' => ∃ z0 z1 z2 : Hd, v = (.agg #[(.int .i64 y_0), (z0).v, (z1).v, (z2).v]) ∧ Γ' = [E (List (Int × Int × List Int × List Int)) y_1 z0, E (List Int) y_2 z1, E (List Int) y_3 z2]) := by
  intro w0 S0 fp0 hI hS
  have H : Cx w0 fp0 S0 w0 [Es (List (Int × Int × List Int × List Int)) g__1 g__1h, Es (List Int) g__2 g__2h, Es (List Int) g__3 g__3h, Es (List Int) a_ a_h, Es (List Int) b_ b_h] := Cx.start hI hS
  clear hI hS
  refine enterC (args := [_, _, _]) gok Try.func61 rfl _ rfl rfl rfl ?_
  refine box_ H ?_; clear H; intro b7 w6 hx H
  clear hx
  replace H : Cx w0 fp0 S0 w6 [Bx b7 [(.int .i64 g__0), (g__1h).v, (g__2h).v, (g__3h).v], Es (List (Int × Int × List Int × List Int)) g__1 g__1h, Es (List Int) g__2 g__2h, Es (List Int) g__3 g__3h, Es (List Int) a_ a_h, Es (List Int) b_ b_h] := H
  refine alloc_ gok rfl H ?_; clear H; intro b10 w9 hx H
  clear hx
  replace H : Cx w0 fp0 S0 w9 [Bx b10 [(.int .i64 0), (.slice none 0 0), (.slice none 0 0), (.slice none 0 0)], Bx b7 [(.int .i64 g__0), (g__1h).v, (g__2h).v, (g__3h).v], Es (List (Int × Int × List Int × List Int)) g__1 g__1h, Es (List Int) g__2 g__2h, Es (List Int) g__3 g__3h, Es (List Int) a_ a_h, Es (List Int) b_ b_h] := H
  refine loadN [(.int .i64 g__0), (g__1h).v, (g__2h).v, (g__3h).v] rfl (fun j u hj => H.bx 1 rfl hj) ?_
  obtain ⟨y12, e, hF13⟩ := bindS hF; clear hF
  obtain ⟨⟨y12_0_0, y12_0_1, y12_0_2, y12_0_3⟩, y12_1⟩ := y12
  have ey12 := e; clear e
  refine callF (spec_hgGlued_c g__0 g__1 g__1h g__2 g__2h g__3 g__3h a_ a_h b_ b_h y12_0_0 y12_0_1 y12_0_2 y12_0_3 y12_1 ey12) (Γi := []) H ⟨Vw.sh 2 rfl, Vw.sh 3 rfl, Vw.sh 4 rfl, Vw.sh 5 rfl, Vw.sh 6 rfl, trivial⟩ ?_; clear H ey12
  rintro _ _ w14 ⟨h15, h17, h19, h21, rfl, rfl⟩ (H : Cx w0 fp0 S0 w14 [E (List (Int × Int × List Int × List Int)) y12_0_1 h15, E (List Int) y12_0_2 h17, E (List Int) y12_0_3 h19, E (List Int) y12_1 h21, Bx b10 [(.int .i64 0), (.slice none 0 0), (.slice none 0 0), (.slice none 0 0)], Bx b7 [(.int .i64 g__0), (g__1h).v, (g__2h).v, (g__3h).v], Es (List (Int × Int × List Int × List Int)) g__1 g__1h, Es (List Int) g__2 g__2h, Es (List Int) g__3 g__3h, Es (List Int) a_ a_h, Es (List Int) b_ b_h])
  refine alloc_ gok rfl H ?_; clear H; intro b24 w23 hx H
  clear hx
  replace H : Cx w0 fp0 S0 w23 [Bx b24 [(.int .i64 0), (.slice none 0 0), (.slice none 0 0), (.slice none 0 0)], E (List (Int × Int × List Int × List Int)) y12_0_1 h15, E (List Int) y12_0_2 h17, E (List Int) y12_0_3 h19, E (List Int) y12_1 h21, Bx b10 [(.int .i64 0), (.slice none 0 0), (.slice none 0 0), (.slice none 0 0)], Bx b7 [(.int .i64 g__0), (g__1h).v, (g__2h).v, (g__3h).v], Es (List (Int × Int × List Int × List Int)) g__1 g__1h, Es (List Int) g__2 g__2h, Es (List Int) g__3 g__3h, Es (List Int) a_ a_h, Es (List Int) b_ b_h] := H
  refine stA gok [(.int .i64 y12_0_0), (h15).v, (h17).v, (h19).v] rfl H rfl rfl rfl ?_; clear H; intro w26 H
  replace H : Cx w0 fp0 S0 w26 [Bx b24 [(.int .i64 y12_0_0), (h15).v, (h17).v, (h19).v], E (List (Int × Int × List Int × List Int)) y12_0_1 h15, E (List Int) y12_0_2 h17, E (List Int) y12_0_3 h19, E (List Int) y12_1 h21, Bx b10 [(.int .i64 0), (.slice none 0 0), (.slice none 0 0), (.slice none 0 0)], Bx b7 [(.int .i64 g__0), (g__1h).v, (g__2h).v, (g__3h).v], Es (List (Int × Int × List Int × List Int)) g__1 g__1h, Es (List Int) g__2 g__2h, Es (List Int) g__3 g__3h, Es (List Int) a_ a_h, Es (List Int) b_ b_h] := H
  refine loadN [(.int .i64 y12_0_0), (h15).v, (h17).v, (h19).v] rfl (fun j u hj => H.bx 0 rfl hj) ?_
  replace H := H.sel [5, 0, 1, 2, 3, 4, 6, 7, 8, 9, 10, 11] rfl
  refine stA gok [(.int .i64 y12_0_0), (h15).v, (h17).v, (h19).v] rfl H rfl rfl rfl ?_; clear H; intro w27 H
  replace H : Cx w0 fp0 S0 w27 [Bx b10 [(.int .i64 y12_0_0), (h15).v, (h17).v, (h19).v], Bx b24 [(.int .i64 y12_0_0), (h15).v, (h17).v, (h19).v], E (List (Int × Int × List Int × List Int)) y12_0_1 h15, E (List Int) y12_0_2 h17, E (List Int) y12_0_3 h19, E (List Int) y12_1 h21, Bx b7 [(.int .i64 g__0), (g__1h).v, (g__2h).v, (g__3h).v], Es (List (Int × Int × List Int × List Int)) g__1 g__1h, Es (List Int) g__2 g__2h, Es (List Int) g__3 g__3h, Es (List Int) a_ a_h, Es (List Int) b_ b_h] := H
  refine loadN [(.int .i64 y12_0_0), (h15).v, (h17).v, (h19).v] rfl (fun j u hj => H.bx 0 rfl hj) ?_
  cases hF13
  exact ⟨_, _, rfl, ⟨h15, h17, h19, rfl, rfl⟩, (H.sel [2, 3, 4] rfl).close ⟨cloE, cloE, cloE, trivial⟩⟩

theorem spec_hgSeq_c (a__0 : Int) (a__1 : List (Int × Int × List Int × List Int)) (a__1h : Hd) (a__2 : List Int) (a__2h : Hd) (a__3 : List Int) (a__3h : Hd) (b__0 : Int) (b__1 : List (Int × Int × List Int × List Int)) (b__1h : Hd) (b__2 : List Int) (b__2h : Hd) (b__3 : List Int) (b__3h : Hd) (y_0 : Int) (y_1 : List (Int × Int × List Int × List Int)) (y_2 : List Int) (y_3 : List Int) (hF : F_spec_hgSeq (a__0, a__1, a__2, a__3) (b__0, b__1, b__2, b__3) = some (y_0, y_1, y_2, y_3)) :
    ConF Try.prog 41 #[(.agg #[(.int .i64 a__0), (a__1h).v, (a__2h).v, (a__3h).v]), (.agg #[(.int .i64 b__0), (b__1h).v, (b__2h).v, (b__3h).v])] [Es (List (Int × Int × List Int × List Int)) a__1 a__1h, Es (List Int) a__2 a__2h, Es (List Int) a__3 a__3h, Es (List (Int × Int × List Int × List Int)) b__1 b__1h, Es (List Int) b__2 b__2h, Es (List Int) b__3 b__3h] [] (fun v Γ' => ∃ z0 z1 z2 : Hd, v = (.agg #[(.int .i64 y_0), (z0).v, (z1).v, (z2).v]) ∧ Γ' = [E (List (Int × Int × List Int × List Int)) y_1 z0, E (List Int) y_2 z1, E (List Int) y_3 z2]) := by
  intro w0 S0 fp0 hI hS
  have H : Cx w0 fp0 S0 w0 [Es (List (Int × Int × List Int × List Int)) a__1 a__1h, Es (List Int) a__2 a__2h, Es (List Int) a__3 a__3h, Es (List (Int × Int × List Int × List Int)) b__1 b__1h, Es (List Int) b__2 b__2h, Es (List Int) b__3 b__3h] := Cx.start hI hS
  clear hI hS
  refine enterC (args := [_, _]) gok Try.func41 rfl _ rfl rfl rfl ?_
  refine box_ H ?_; clear H; intro b8 w7 hx H
  clear hx
  replace H : Cx w0 fp0 S0 w7 [Bx b8 [(.int .i64 a__0), (a__1h).v, (a__2h).v, (a__3h).v], Es (List (Int × Int × List Int × List Int)) a__1 a__1h, Es (List Int) a__2 a__2h, Es (List Int) a__3 a__3h, Es (List (Int × Int × List Int × List Int)) b__1 b__1h, Es (List Int) b__2 b__2h, Es (List Int) b__3 b__3h] := H
  refine box_ H ?_; clear H; intro b11 w10 hx H
  clear hx
  replace H : Cx w0 fp0 S0 w10 [Bx b11 [(.int .i64 b__0), (b__1h).v, (b__2h).v, (b__3h).v], Bx b8 [(.int .i64 a__0), (a__1h).v, (a__2h).v, (a__3h).v], Es (List (Int × Int × List Int × List Int)) a__1 a__1h, Es (List Int) a__2 a__2h, Es (List Int) a__3 a__3h, Es (List (Int × Int × List Int × List Int)) b__1 b__1h, Es (List Int) b__2 b__2h, Es (List Int) b__3 b__3h] := H
  refine alloc_ gok rfl H ?_; clear H; intro b14 w13 hx H
  clear hx
  replace H : Cx w0 fp0 S0 w13 [Bx b14 [(.int .i64 0), (.slice none 0 0), (.slice none 0 0), (.slice none 0 0)], Bx b11 [(.int .i64 b__0), (b__1h).v, (b__2h).v, (b__3h).v], Bx b8 [(.int .i64 a__0), (a__1h).v, (a__2h).v, (a__3h).v], Es (List (Int × Int × List Int × List Int)) a__1 a__1h, Es (List Int) a__2 a__2h, Es (List Int) a__3 a__3h, Es (List (Int × Int × List Int × List Int)) b__1 b__1h, Es (List Int) b__2 b__2h, Es (List Int) b__3 b__3h] := H
  refine loadN [(.int .i64 a__0), (a__1h).v, (a__2h).v, (a__3h).v] rfl (fun j u hj => H.bx 2 rfl hj) ?_
  refine loadN [(.int .i64 b__0), (b__1h).v, (b__2h).v, (b__3h).v] rfl (fun j u hj => H.bx 1 rfl hj) ?_
  obtain ⟨y16, e, hF17⟩ := bindS hF; clear hF
  obtain ⟨y16_0, y16_1, y16_2, y16_3⟩ := y16
  have ey16 := e; clear e
  refine callF (spec_hgBeside_c a__0 a__1 a__1h a__2 a__2h a__3 a__3h b__0 b__1 b__1h b__2 b__2h b__3 b__3h y16_0 y16_1 y16_2 y16_3 ey16) (Γi := []) H ⟨Vw.sh 3 rfl, Vw.sh 4 rfl, Vw.sh 5 rfl, Vw.sh 6 rfl, Vw.sh 7 rfl, Vw.sh 8 rfl, trivial⟩ ?_; clear H ey16
  rintro _ _ w18 ⟨h19, h21, h23, rfl, rfl⟩ (H : Cx w0 fp0 S0 w18 [E (List (Int × Int × List Int × List Int)) y16_1 h19, E (List Int) y16_2 h21, E (List Int) y16_3 h23, Bx b14 [(.int .i64 0), (.slice none 0 0), (.slice none 0 0), (.slice none 0 0)], Bx b11 [(.int .i64 b__0), (b__1h).v, (b__2h).v, (b__3h).v], Bx b8 [(.int .i64 a__0), (a__1h).v, (a__2h).v, (a__3h).v], Es (List (Int × Int × List Int × List Int)) a__1 a__1h, Es (List Int) a__2 a__2h, Es (List Int) a__3 a__3h, Es (List (Int × Int × List Int × List Int)) b__1 b__1h, Es (List Int) b__2 b__2h, Es (List Int) b__3 b__3h])
  refine alloc_ gok rfl H ?_; clear H; intro b26 w25 hx H
  clear hx
  replace H : Cx w0 fp0 S0 w25 [Bx b26 [(.int .i64 0), (.slice none 0 0), (.slice none 0 0), (.slice none 0 0)], E (List (Int × Int × List Int × List Int)) y16_1 h19, E (List Int) y16_2 h21, E (List Int) y16_3 h23, Bx b14 [(.int .i64 0), (.slice none 0 0), (.slice none 0 0), (.slice none 0 0)], Bx b11 [(.int .i64 b__0), (b__1h).v, (b__2h).v, (b__3h).v], Bx b8 [(.int .i64 a__0), (a__1h).v, (a__2h).v, (a__3h).v], Es (List (Int × Int × List Int × List Int)) a__1 a__1h, Es (List Int) a__2 a__2h, Es (List Int) a__3 a__3h, Es (List (Int × Int × List Int × List Int)) b__1 b__1h, Es (List Int) b__2 b__2h, Es (List Int) b__3 b__3h] := H
  refine stA gok [(.int .i64 y16_0), (h19).v, (h21).v, (h23).v] rfl H rfl rfl rfl ?_; clear H; intro w28 H
  replace H : Cx w0 fp0 S0 w28 [Bx b26 [(.int .i64 y16_0), (h19).v, (h21).v, (h23).v], E (List (Int × Int × List Int × List Int)) y16_1 h19, E (List Int) y16_2 h21, E (List Int) y16_3 h23, Bx b14 [(.int .i64 0), (.slice none 0 0), (.slice none 0 0), (.slice none 0 0)], Bx b11 [(.int .i64 b__0), (b__1h).v, (b__2h).v, (b__3h).v], Bx b8 [(.int .i64 a__0), (a__1h).v, (a__2h).v, (a__3h).v], Es (List (Int × Int × List Int × List Int)) a__1 a__1h, Es (List Int) a__2 a__2h, Es (List Int) a__3 a__3h, Es (List (Int × Int × List Int × List Int)) b__1 b__1h, Es (List Int) b__2 b__2h, Es (List Int) b__3 b__3h] := H
  refine heldX H [] (.fst 0 (.fst 3 (.fst 1 (.fst 2 (.fst 6 (.fst 4 (.fst 5 (.fst 7 .done)))))))) mixed [] trivial (by kernel_rfl) ?_
  clear H; intro w29 H
  have hX : Ext w29 w29 := Upd.refl _ _
  have H0 := H
  refine anyH (fun _ => fld gok rfl rfl rfl rfl ⟨rfl, rfl⟩) ?_
  refine anyH (fun _ => fld gok rfl rfl rfl rfl ⟨rfl, rfl⟩) ?_
  refine load1X (H.bx 6 rfl (j := 2) rfl) ?_
  refine lenE (H.rs (α := List Int) 8 rfl).len ?_
  refine load1X (H.bx 6 rfl (j := 3) rfl) ?_
  refine lenE (H.rs (α := List Int) 9 rfl).len ?_
  refine heldX H [] (.fst 0 (.fst 2 (.fst 5 (.fst 7 (.fst 1 (.fst 3 (.fst 6 (.fst 8 (.act 4 (.act 9 (.fst 10 (.fst 11 .done)))))))))))) mixed [] trivial (by kernel_rfl) ?_
  clear H; intro w30 H
  have hX : Ext w30 w30 := Upd.refl _ _
  have H0 := H
  refine anyH (fun _ => fld gok rfl rfl rfl rfl ⟨rfl, rfl⟩) ?_
  refine anyH (fun _ => fld gok rfl rfl rfl rfl ⟨rfl, rfl⟩) ?_
  refine load1X (H.bx 0 rfl (j := 3) rfl) ?_
  obtain ⟨a31, e, hF32⟩ := bindS hF17; clear hF17
  replace H := H.sel [3, 0, 1, 2, 4, 5, 6, 7, 8, 9, 10, 11, 12] rfl
  replace H := H.frz
  refine slSX (α := Int) gok rfl rfl H 0 rfl e rfl rfl ?_; clear e; intro h33 HH; clear H; have H := HH; clear HH
  refine load1X (H.bx 2 rfl (j := 2) rfl) ?_
  obtain ⟨a35, e, hF36⟩ := bindS hF32; clear hF32
  replace H := H.sel [4, 0, 1, 2, 3, 5, 6, 7, 8, 9, 10, 11, 12, 13] rfl
  replace H := H.frz
  refine slSX (α := Int) (hi := none) gok rfl rfl H 0 rfl e rfl (congrArg (fun n : Nat => some (n : Int)) (H.rs (α := List Int) 0 rfl).len) ?_; clear e; intro h37 HH; clear H; have H := HH; clear HH
  obtain ⟨y39, e, hF40⟩ := bindS hF36; clear hF36
  have ey39 := e; clear e
  refine callFx (spec_l1Own_c a31 h33 y39 ey39) H ⟨Vw.sh 2 rfl, trivial⟩ ?_; clear H ey39
  rintro _ _ w41 ⟨h42, rfl, rfl⟩ hx (H : Cx w0 fp0 S0 w41 [E (List Int) y39 h42, Es (List Int) a35 h37, Es (List Int) y16_2 h21, Es (List Int) a31 h33, Es (List Int) y16_3 h23, Bx b26 [(.int .i64 y16_0), (h19).v, (h21).v, (h23).v], E (List (Int × Int × List Int × List Int)) y16_1 h19, Bx b14 [(.int .i64 0), (.slice none 0 0), (.slice none 0 0), (.slice none 0 0)], Bx b11 [(.int .i64 b__0), (b__1h).v, (b__2h).v, (b__3h).v], Bx b8 [(.int .i64 a__0), (a__1h).v, (a__2h).v, (a__3h).v], Es (List (Int × Int × List Int × List Int)) a__1 a__1h, Es (List Int) a__2 a__2h, Es (List Int) a__3 a__3h, Es (List (Int × Int × List Int × List Int)) b__1 b__1h, Es (List Int) b__2 b__2h, Es (List Int) b__3 b__3h])
  replace hX := hX.trans0 hx; clear hx
  refine hold hX ?_
  obtain ⟨y44, e, hF45⟩ := bindS hF40; clear hF40
  have ey44 := e; clear e
  refine callFx (spec_l1Own_c a35 h37 y44 ey44) H ⟨Vw.sh 1 rfl, trivial⟩ ?_; clear H ey44
  rintro _ _ w46 ⟨h47, rfl, rfl⟩ hx (H : Cx w0 fp0 S0 w46 [E (List Int) y44 h47, E (List Int) y39 h42, Es (List Int) a35 h37, Es (List Int) y16_2 h21, Es (List Int) a31 h33, Es (List Int) y16_3 h23, Bx b26 [(.int .i64 y16_0), (h19).v, (h21).v, (h23).v], E (List (Int × Int × List Int × List Int)) y16_1 h19, Bx b14 [(.int .i64 0), (.slice none 0 0), (.slice none 0 0), (.slice none 0 0)], Bx b11 [(.int .i64 b__0), (b__1h).v, (b__2h).v, (b__3h).v], Bx b8 [(.int .i64 a__0), (a__1h).v, (a__2h).v, (a__3h).v], Es (List (Int × Int × List Int × List Int)) a__1 a__1h, Es (List Int) a__2 a__2h, Es (List Int) a__3 a__3h, Es (List (Int × Int × List Int × List Int)) b__1 b__1h, Es (List Int) b__2 b__2h, Es (List Int) b__3 b__3h])
  replace hX := hX.trans0 hx; clear hx
  refine hold hX ?_
  refine fld gok rfl rfl rfl rfl ?_
  refine load1 (H.bx 6 rfl (j := 2) rfl) ?_
  obtain ⟨a49, e, hF50⟩ := bindS hF45; clear hF45
  refine slS (α := Int) gok rfl rfl H 3 rfl e rfl rfl ?_; clear e H; intro h51 H
  refine fld gok rfl rfl rfl rfl ?_
  replace H := H.sel [7, 0, 1, 2, 3, 4, 5, 6, 8, 9, 10, 11, 12, 13, 14, 15, 16, 17] rfl
  refine stB (j := 2) H rfl rfl ?_; clear H; intro w53 H
  replace H : Cx w0 fp0 S0 w53 [Bx b26 [(.int .i64 y16_0), (h19).v, (h51).v, (h23).v], Es (List Int) a49 h51, E (List Int) y44 h47, E (List Int) y39 h42, Es (List Int) a35 h37, Es (List Int) y16_2 h21, Es (List Int) a31 h33, Es (List Int) y16_3 h23, E (List (Int × Int × List Int × List Int)) y16_1 h19, Bx b14 [(.int .i64 0), (.slice none 0 0), (.slice none 0 0), (.slice none 0 0)], Bx b11 [(.int .i64 b__0), (b__1h).v, (b__2h).v, (b__3h).v], Bx b8 [(.int .i64 a__0), (a__1h).v, (a__2h).v, (a__3h).v], Es (List (Int × Int × List Int × List Int)) a__1 a__1h, Es (List Int) a__2 a__2h, Es (List Int) a__3 a__3h, Es (List (Int × Int × List Int × List Int)) b__1 b__1h, Es (List Int) b__2 b__2h, Es (List Int) b__3 b__3h] := H
  refine fld gok rfl rfl rfl rfl ?_
  refine load1 (H.bx 0 rfl (j := 3) rfl) ?_
  obtain ⟨a54, e, hF55⟩ := bindS hF50; clear hF50
  refine slS (α := Int) (hi := none) gok rfl rfl H 7 rfl e rfl (congrArg (fun n : Nat => some (n : Int)) (H.rs (α := List Int) 7 rfl).len) ?_; clear e H; intro h56 H
  refine fld gok rfl rfl rfl rfl ?_
  replace H := H.sel [1, 0, 2, 3, 4, 5, 6, 7, 8, 9, 10, 11, 12, 13, 14, 15, 16, 17, 18] rfl
  refine stB (j := 3) H rfl rfl ?_; clear H; intro w58 H
  replace H : Cx w0 fp0 S0 w58 [Bx b26 [(.int .i64 y16_0), (h19).v, (h51).v, (h56).v], Es (List Int) a54 h56, Es (List Int) a49 h51, E (List Int) y44 h47, E (List Int) y39 h42, Es (List Int) a35 h37, Es (List Int) y16_2 h21, Es (List Int) a31 h33, Es (List Int) y16_3 h23, E (List (Int × Int × List Int × List Int)) y16_1 h19, Bx b14 [(.int .i64 0), (.slice none 0 0), (.slice none 0 0), (.slice none 0 0)], Bx b11 [(.int .i64 b__0), (b__1h).v, (b__2h).v, (b__3h).v], Bx b8 [(.int .i64 a__0), (a__1h).v, (a__2h).v, (a__3h).v], Es (List (Int × Int × List Int × List Int)) a__1 a__1h, Es (List Int) a__2 a__2h, Es (List Int) a__3 a__3h, Es (List (Int × Int × List Int × List Int)) b__1 b__1h, Es (List Int) b__2 b__2h, Es (List Int) b__3 b__3h] := H
  refine loadN [(.int .i64 y16_0), (h19).v, (h51).v, (h56).v] rfl (fun j u hj => H.bx 0 rfl hj) ?_
  obtain ⟨y59, e, hF60⟩ := bindS hF55; clear hF55
  obtain ⟨y59_0, y59_1, y59_2, y59_3⟩ := y59
  have ey59 := e; clear e
  refine callF (spec_hgGlue_c y16_0 y16_1 h19 a49 h51 a54 h56 y39 h42 y44 h47 y59_0 y59_1 y59_2 y59_3 ey59) (Γi := []) H ⟨Vw.own 9 rfl, Vw.sh 2 rfl, Vw.sh 1 rfl, Vw.own 4 rfl, Vw.own 3 rfl, trivial⟩ ?_; clear H ey59
  rintro _ _ w61 ⟨h62, h64, h66, rfl, rfl⟩ (H : Cx w0 fp0 S0 w61 [E (List (Int × Int × List Int × List Int)) y59_1 h62, E (List Int) y59_2 h64, E (List Int) y59_3 h66, Bx b26 [(.int .i64 y16_0), (h19).v, (h51).v, (h56).v], Es (List Int) a54 h56, Es (List Int) a49 h51, E (List Int) y44 h47, E (List Int) y39 h42, Es (List Int) a35 h37, Es (List Int) y16_2 h21, Es (List Int) a31 h33, Es (List Int) y16_3 h23, E (List (Int × Int × List Int × List Int)) y16_1 h19, Bx b14 [(.int .i64 0), (.slice none 0 0), (.slice none 0 0), (.slice none 0 0)], Bx b11 [(.int .i64 b__0), (b__1h).v, (b__2h).v, (b__3h).v], Bx b8 [(.int .i64 a__0), (a__1h).v, (a__2h).v, (a__3h).v], Es (List (Int × Int × List Int × List Int)) a__1 a__1h, Es (List Int) a__2 a__2h, Es (List Int) a__3 a__3h, Es (List (Int × Int × List Int × List Int)) b__1 b__1h, Es (List Int) b__2 b__2h, Es (List Int) b__3 b__3h])
  replace H := H.sel [13, 0, 1, 2, 3, 4, 5, 6, 7, 8, 9, 10, 11, 12, 14, 15, 16, 17, 18, 19, 20, 21] rfl
  refine stA gok [(.int .i64 y59_0), (h62).v, (h64).v, (h66).v] rfl H rfl rfl rfl ?_; clear H; intro w68 H
  replace H : Cx w0 fp0 S0 w68 [Bx b14 [(.int .i64 y59_0), (h62).v, (h64).v, (h66).v], E (List (Int × Int × List Int × List Int)) y59_1 h62, E (List Int) y59_2 h64, E (List Int) y59_3 h66, Bx b26 [(.int .i64 y16_0), (h19).v, (h51).v, (h56).v], Es (List Int) a54 h56, Es (List Int) a49 h51, E (List Int) y44 h47, E (List Int) y39 h42, Es (List Int) a35 h37, Es (List Int) y16_2 h21, Es (List Int) a31 h33, Es (List Int) y16_3 h23, E (List (Int × Int × List Int × List Int)) y16_1 h19, Bx b11 [(.int .i64 b__0), (b__1h).v, (b__2h).v, (b__3h).v], Bx b8 [(.int .i64 a__0), (a__1h).v, (a__2h).v, (a__3h).v], Es (List (Int × Int × List Int × List Int)) a__1 a__1h, Es (List Int) a__2 a__2h, Es (List Int) a__3 a__3h, Es (List (Int × Int × List Int × List Int)) b__1 b__1h, Es (List Int) b__2 b__2h, Es (List Int) b__3 b__3h] := H
  refine loadN [(.int .i64 y59_0), (h62).v, (h64).v, (h66).v] rfl (fun j u hj => H.bx 0 rfl hj) ?_
  cases hF60
  exact ⟨_, _, rfl, ⟨h62, h64, h66, rfl, rfl⟩, (H.sel [1, 2, 3] rfl).close ⟨cloE, cloE, cloE, trivial⟩⟩

theorem spec_l1All_c (l_ : List Int) (l_h : Hd) (lo_ : Int) (hi_ : Int) (y : Bool) (hF : F_spec_l1All l_ lo_ hi_ = some y) :
    ConF Try.prog 81 #[(l_h).v, (.int .i64 lo_), (.int .i64 hi_)] [Es (List Int) l_ l_h] [] (fun v Γ' => v = (.bool y) ∧ Γ' = []) := by
  intro w0 S0 fp0 hI hS
  have H : Cx w0 fp0 S0 w0 [Es (List Int) l_ l_h] := Cx.start hI hS
  clear hI hS
  refine enterC (args := [_, _, _]) gok Try.func81 rfl _ rfl rfl rfl ?_
  refine sq ?_
  refine lenE (H.rs (α := List Int) 0 rfl).len ?_
  have hmx22 := (H.rs (α := List Int) 0 rfl).max
  obtain ⟨r23, e, hF24⟩ := bindS hF; clear hF
  refine loopO _ l_.length (fun (k2 : Nat) (_ : Unit) (_ : Unit) => [(1, (.int .i64 lo_)), (2, (.int .i64 hi_)), (9, (l_h).v), (10, (.int .i64 ((l_.length : Nat) : Int))), (11, (.int .i64 ((k2 : Nat) : Int)))]) (fun _ (_ : Unit) (_ : Unit) w' => Cx w0 fp0 S0 w' [Es (List Int) l_ l_h]) () () e ⟨rfl, rfl, rfl, rfl, rfl, trivial⟩ (H.sel [0] rfl) ?_ ?_
  · clear H e
    rintro T26 k2 _ _ w25 o27 hk (H : Cx w0 fp0 S0 w25 [Es (List Int) l_ l_h]) hrt hF28
    refine boolE (z := true) (ltLen hk) ?_
    refine sq ?_
    refine sq ?_
    obtain ⟨a35, e, hF36⟩ := bindS hF28; clear hF28
    obtain ⟨p33, m34, c29, c30, c31, c32⟩ := (H.rs (α := List Int) 0 rfl).at1 e; clear e
    refine idxE c29 c30 c31 ?_; clear c29 c30 c31
    refine load1 c32 ?_; clear c32
    obtain ⟨y37, e, hF38⟩ := bindS hF36; clear hF36
    have ey37 := e; clear e
    refine callF (spec_l1In_c a35 lo_ hi_ y37 ey37) (Γi := []) H trivial ?_; clear H ey37
    rintro _ _ w39 ⟨rfl, rfl⟩ (H : Cx w0 fp0 S0 w39 [Es (List Int) l_ l_h])
    obtain ⟨a40, e, hF41⟩ := bindS hF38; clear hF38
    refine boolO e ?_; clear e
    cases a40
    · have hF42 := condF hF41; clear hF41
      refine arK hk hmx22 ?_
      have hs := Option.some.inj hF42; subst hs; clear hF42
      exact ⟨(), (), rfl, ⟨rfl, rfl, rfl, rfl, rfl, trivial⟩, H.sel [0] rfl⟩
    · have hF43 := condT hF41; clear hF41
      have hs := Option.some.inj hF43; subst hs; clear hF43
      have hr := hrt _ rfl; subst hr
      have hF44 : some _ = some _ := hF24
      cases hF44
      exact ⟨_, _, rfl, ⟨rfl, rfl⟩, (H.sel [] rfl).close trivial⟩
  · clear H e
    rintro T46 _ _ w45 hr (H : Cx w0 fp0 S0 w45 [Es (List Int) l_ l_h])
    subst hr
    refine boolE (z := false) geLen ?_
    refine sq ?_
    cases hF24
    exact ⟨_, _, rfl, ⟨rfl, rfl⟩, (H.sel [] rfl).close trivial⟩

theorem spec_hgEdge_c (e__0 : Int) (e__1 : Int) (e__2 : List Int) (e__2h : Hd) (e__3 : List Int) (e__3h : Hd) (wires_ : Int) (y : Bool) (hF : F_spec_hgEdge (e__0, e__1, e__2, e__3) wires_ = some y) :
    ConF Try.prog 82 #[(.agg #[(.int .i64 e__0), (.int .i64 e__1), (e__2h).v, (e__3h).v]), (.int .i64 wires_)] [Es (List Int) e__2 e__2h, Es (List Int) e__3 e__3h] [] (fun v Γ' => v = (.bool y) ∧ Γ' = []) := by
  intro w0 S0 fp0 hI hS
  have H : Cx w0 fp0 S0 w0 [Es (List Int) e__2 e__2h, Es (List Int) e__3 e__3h] := Cx.start hI hS
  clear hI hS
  refine enterC (args := [_, _]) gok Try.func82 rfl _ rfl rfl rfl ?_
  refine box_ H ?_; clear H; intro b4 w3 hx H
  clear hx
  replace H : Cx w0 fp0 S0 w3 [Bx b4 [(.int .i64 e__0), (.int .i64 e__1), (e__2h).v, (e__3h).v], Es (List Int) e__2 e__2h, Es (List Int) e__3 e__3h] := H
  refine sq ?_
  obtain ⟨r20, hF22, hF21⟩ := bindS hF; clear hF
  refine cut (fun (q23 : Bool) => [(1, (.int .i64 wires_)), (2, (.pointer (some ⟨b4, 0, none⟩))), (19, (.bool q23))]) (fun (q23 : Bool) w' => q23 = r20 ∧ Cx w0 fp0 S0 w' [Bx b4 [(.int .i64 e__0), (.int .i64 e__1), (e__2h).v, (e__3h).v], Es (List Int) e__2 e__2h, Es (List Int) e__3 e__3h]) ?_ ?_
  · skip
    refine fld gok rfl rfl rfl rfl ?_
    refine load1 (H.bx 0 rfl (j := 0) rfl) ?_
    obtain ⟨y24, e, hF25⟩ := bindS hF22; clear hF22
    have ey24 := e; clear e
    refine callF (spec_l1In_c e__0 3 14 y24 ey24) (Γi := []) H trivial ?_; clear H ey24
    rintro _ _ w26 ⟨rfl, rfl⟩ (H : Cx w0 fp0 S0 w26 [Bx b4 [(.int .i64 e__0), (.int .i64 e__1), (e__2h).v, (e__3h).v], Es (List Int) e__2 e__2h, Es (List Int) e__3 e__3h])
    obtain ⟨a27, e, hF28⟩ := bindS hF25; clear hF25
    refine boolO e ?_; clear e
    cases a27
    · have hF29 := condF hF28; clear hF28
      refine fld gok rfl rfl rfl rfl ?_
      refine load1 (H.bx 0 rfl (j := 0) rfl) ?_
      refine fld gok rfl rfl rfl rfl ?_
      refine load1 (H.bx 0 rfl (j := 1) rfl) ?_
      refine build_ (cs := #[(.int .i64 e__0), (.int .i64 e__1), (.string .empty)]) gok rfl rfl rfl ?_
      obtain ⟨y30, e, hF31⟩ := bindS hF29; clear hF29
      have ey30 := e; clear e
      refine callF (spec_tmLeaf_c e__0 e__1 .empty y30 ey30) (Γi := []) H trivial ?_; clear H ey30
      rintro _ _ w32 ⟨rfl, rfl⟩ (H : Cx w0 fp0 S0 w32 [Bx b4 [(.int .i64 e__0), (.int .i64 e__1), (e__2h).v, (e__3h).v], Es (List Int) e__2 e__2h, Es (List Int) e__3 e__3h])
      obtain ⟨a33, e, hF34⟩ := bindS hF31; clear hF31
      refine boolO e ?_; clear e
      exact ⟨a33, ⟨rfl, rfl, rfl, trivial⟩, Option.some.inj hF34, H.sel [0, 1, 2] rfl⟩
    · have hF35 := condT hF28; clear hF28
      exact ⟨true, ⟨rfl, rfl, rfl, trivial⟩, Option.some.inj hF35, H.sel [0, 1, 2] rfl⟩
  · clear hF22 H
    rintro T37 s18 w36 ⟨hr, (H : Cx w0 fp0 S0 w36 [Bx b4 [(.int .i64 e__0), (.int .i64 e__1), (e__2h).v, (e__3h).v], Es (List Int) e__2 e__2h, Es (List Int) e__3 e__3h])⟩
    subst hr
    cases s18
    · have hF38 := condF hF21; clear hF21
      refine fld gok rfl rfl rfl rfl ?_
      refine load1 (H.bx 0 rfl (j := 0) rfl) ?_
      obtain ⟨y39, e, hF40⟩ := bindS hF38; clear hF38
      obtain ⟨y39_0, y39_1⟩ := y39
      have ey39 := e; clear e
      refine callF (spec_tmKind_c e__0 y39_0 y39_1 ey39) (Γi := []) H trivial ?_; clear H ey39
      rintro _ _ w41 ⟨rfl, rfl⟩ (H : Cx w0 fp0 S0 w41 [Bx b4 [(.int .i64 e__0), (.int .i64 e__1), (e__2h).v, (e__3h).v], Es (List Int) e__2 e__2h, Es (List Int) e__3 e__3h])
      obtain ⟨r64, hF66, hF65⟩ := bindS hF40; clear hF40
      refine cut (fun (q67 : Bool) => [(4, (.bool q67))]) (fun (q67 : Bool) w' => q67 = r64 ∧ Cx w0 fp0 S0 w' []) ?_ ?_
      · skip
        refine fld gok rfl rfl rfl rfl ?_
        refine load1 (H.bx 0 rfl (j := 2) rfl) ?_
        refine lenE (H.rs (α := List Int) 1 rfl).len ?_
        obtain ⟨a68, e, hF69⟩ := bindS hF66; clear hF66
        refine boolO e ?_; clear e
        cases a68
        · have hF70 := condF hF69; clear hF69
          exact ⟨false, ⟨rfl, trivial⟩, Option.some.inj hF70, H.sel [] rfl⟩
        · have hF71 := condT hF69; clear hF69
          refine fld gok rfl rfl rfl rfl ?_
          refine load1 (H.bx 0 rfl (j := 3) rfl) ?_
          refine lenE (H.rs (α := List Int) 2 rfl).len ?_
          obtain ⟨a72, e, hF73⟩ := bindS hF71; clear hF71
          refine boolO e ?_; clear e
          cases a72
          · have hF74 := condF hF73; clear hF73
            exact ⟨false, ⟨rfl, trivial⟩, Option.some.inj hF74, H.sel [] rfl⟩
          · have hF75 := condT hF73; clear hF73
            refine fld gok rfl rfl rfl rfl ?_
            refine load1 (H.bx 0 rfl (j := 2) rfl) ?_
            obtain ⟨a76, e, hF77⟩ := bindS hF75; clear hF75
            refine arO e ?_; clear e
            obtain ⟨y78, e, hF79⟩ := bindS hF77; clear hF77
            have ey78 := e; clear e
            refine callF (spec_l1All_c e__2 e__2h 0 a76 y78 ey78) (Γi := []) H ⟨Vw.sh 1 rfl, trivial⟩ ?_; clear H ey78
            rintro _ _ w80 ⟨rfl, rfl⟩ (H : Cx w0 fp0 S0 w80 [Bx b4 [(.int .i64 e__0), (.int .i64 e__1), (e__2h).v, (e__3h).v], Es (List Int) e__2 e__2h, Es (List Int) e__3 e__3h])
            cases y78
            · have hF81 := condF hF79; clear hF79
              exact ⟨false, ⟨rfl, trivial⟩, Option.some.inj hF81, H.sel [] rfl⟩
            · have hF82 := condT hF79; clear hF79
              refine fld gok rfl rfl rfl rfl ?_
              refine load1 (H.bx 0 rfl (j := 3) rfl) ?_
              obtain ⟨a83, e, hF84⟩ := bindS hF82; clear hF82
              refine arO e ?_; clear e
              obtain ⟨y85, e, hF86⟩ := bindS hF84; clear hF84
              have ey85 := e; clear e
              refine callF (spec_l1All_c e__3 e__3h 0 a83 y85 ey85) (Γi := []) H ⟨Vw.sh 2 rfl, trivial⟩ ?_; clear H ey85
              rintro _ _ w87 ⟨rfl, rfl⟩ (H : Cx w0 fp0 S0 w87 [Bx b4 [(.int .i64 e__0), (.int .i64 e__1), (e__2h).v, (e__3h).v], Es (List Int) e__2 e__2h, Es (List Int) e__3 e__3h])
              exact ⟨y85, ⟨rfl, trivial⟩, Option.some.inj hF86, H.sel [] rfl⟩
      · clear hF66 H
        rintro T89 s62 w88 ⟨hr, (H : Cx w0 fp0 S0 w88 [])⟩
        subst hr
        cases hF65
        exact ⟨_, _, rfl, ⟨rfl, rfl⟩, (H.sel [] rfl).close trivial⟩
    · have hF90 := condT hF21; clear hF21
      cases hF90
      exact ⟨_, _, rfl, ⟨rfl, rfl⟩, (H.sel [] rfl).close trivial⟩

theorem spec_hgValid_c (g__0 : Int) (g__1 : List (Int × Int × List Int × List Int)) (g__1h : Hd) (g__2 : List Int) (g__2h : Hd) (g__3 : List Int) (g__3h : Hd) (y : Bool) (hF : F_spec_hgValid (g__0, g__1, g__2, g__3) = some y) :
    ConF Try.prog 58 #[(.agg #[(.int .i64 g__0), (g__1h).v, (g__2h).v, (g__3h).v])] [Es (List (Int × Int × List Int × List Int)) g__1 g__1h, Es (List Int) g__2 g__2h, Es (List Int) g__3 g__3h] [] (fun v Γ' => v = (.bool y) ∧ Γ' = []) := by
  intro w0 S0 fp0 hI hS
  have H : Cx w0 fp0 S0 w0 [Es (List (Int × Int × List Int × List Int)) g__1 g__1h, Es (List Int) g__2 g__2h, Es (List Int) g__3 g__3h] := Cx.start hI hS
  clear hI hS
  refine enterC (args := [_]) gok Try.func58 rfl _ rfl rfl rfl ?_
  refine box_ H ?_; clear H; intro b5 w4 hx H
  clear hx
  replace H : Cx w0 fp0 S0 w4 [Bx b5 [(.int .i64 g__0), (g__1h).v, (g__2h).v, (g__3h).v], Es (List (Int × Int × List Int × List Int)) g__1 g__1h, Es (List Int) g__2 g__2h, Es (List Int) g__3 g__3h] := H
  refine sq ?_
  obtain ⟨r44, hF46, hF45⟩ := bindS hF; clear hF
  refine cut (fun (q47 : Bool) => [(1, (.pointer (some ⟨b5, 0, none⟩))), (47, (.bool q47))]) (fun (q47 : Bool) w' => q47 = r44 ∧ Cx w0 fp0 S0 w' [Bx b5 [(.int .i64 g__0), (g__1h).v, (g__2h).v, (g__3h).v], Es (List (Int × Int × List Int × List Int)) g__1 g__1h, Es (List Int) g__2 g__2h, Es (List Int) g__3 g__3h]) ?_ ?_
  · skip
    refine fld gok rfl rfl rfl rfl ?_
    refine load1 (H.bx 0 rfl (j := 0) rfl) ?_
    obtain ⟨y48, e, hF49⟩ := bindS hF46; clear hF46
    have ey48 := e; clear e
    refine callF (spec_l1In_c g__0 0 100 y48 ey48) (Γi := []) H trivial ?_; clear H ey48
    rintro _ _ w50 ⟨rfl, rfl⟩ (H : Cx w0 fp0 S0 w50 [Bx b5 [(.int .i64 g__0), (g__1h).v, (g__2h).v, (g__3h).v], Es (List (Int × Int × List Int × List Int)) g__1 g__1h, Es (List Int) g__2 g__2h, Es (List Int) g__3 g__3h])
    obtain ⟨a51, e, hF52⟩ := bindS hF49; clear hF49
    refine boolO e ?_; clear e
    cases a51
    · have hF53 := condF hF52; clear hF52
      refine fld gok rfl rfl rfl rfl ?_
      refine load1 (H.bx 0 rfl (j := 1) rfl) ?_
      refine lenE (H.rs (α := List (Int × Int × List Int × List Int)) 1 rfl).len ?_
      obtain ⟨a54, e, hF55⟩ := bindS hF53; clear hF53
      refine boolO e ?_; clear e
      cases a54
      · have hF56 := condF hF55; clear hF55
        refine fld gok rfl rfl rfl rfl ?_
        refine load1 (H.bx 0 rfl (j := 2) rfl) ?_
        refine lenE (H.rs (α := List Int) 2 rfl).len ?_
        obtain ⟨a57, e, hF58⟩ := bindS hF56; clear hF56
        refine boolO e ?_; clear e
        cases a57
        · have hF59 := condF hF58; clear hF58
          refine fld gok rfl rfl rfl rfl ?_
          refine load1 (H.bx 0 rfl (j := 3) rfl) ?_
          refine lenE (H.rs (α := List Int) 3 rfl).len ?_
          obtain ⟨a60, e, hF61⟩ := bindS hF59; clear hF59
          refine boolO e ?_; clear e
          cases a60
          · have hF62 := condF hF61; clear hF61
            refine fld gok rfl rfl rfl rfl ?_
            refine load1 (H.bx 0 rfl (j := 2) rfl) ?_
            refine fld gok rfl rfl rfl rfl ?_
            refine load1 (H.bx 0 rfl (j := 0) rfl) ?_
            obtain ⟨a63, e, hF64⟩ := bindS hF62; clear hF62
            refine arO e ?_; clear e
            obtain ⟨y65, e, hF66⟩ := bindS hF64; clear hF64
            have ey65 := e; clear e
            refine callF (spec_l1All_c g__2 g__2h 0 a63 y65 ey65) (Γi := []) H ⟨Vw.sh 2 rfl, trivial⟩ ?_; clear H ey65
            rintro _ _ w67 ⟨rfl, rfl⟩ (H : Cx w0 fp0 S0 w67 [Bx b5 [(.int .i64 g__0), (g__1h).v, (g__2h).v, (g__3h).v], Es (List (Int × Int × List Int × List Int)) g__1 g__1h, Es (List Int) g__2 g__2h, Es (List Int) g__3 g__3h])
            obtain ⟨a68, e, hF69⟩ := bindS hF66; clear hF66
            refine boolO e ?_; clear e
            cases a68
            · have hF70 := condF hF69; clear hF69
              refine fld gok rfl rfl rfl rfl ?_
              refine load1 (H.bx 0 rfl (j := 3) rfl) ?_
              refine fld gok rfl rfl rfl rfl ?_
              refine load1 (H.bx 0 rfl (j := 0) rfl) ?_
              obtain ⟨a71, e, hF72⟩ := bindS hF70; clear hF70
              refine arO e ?_; clear e
              obtain ⟨y73, e, hF74⟩ := bindS hF72; clear hF72
              have ey73 := e; clear e
              refine callF (spec_l1All_c g__3 g__3h 0 a71 y73 ey73) (Γi := []) H ⟨Vw.sh 3 rfl, trivial⟩ ?_; clear H ey73
              rintro _ _ w75 ⟨rfl, rfl⟩ (H : Cx w0 fp0 S0 w75 [Bx b5 [(.int .i64 g__0), (g__1h).v, (g__2h).v, (g__3h).v], Es (List (Int × Int × List Int × List Int)) g__1 g__1h, Es (List Int) g__2 g__2h, Es (List Int) g__3 g__3h])
              obtain ⟨a76, e, hF77⟩ := bindS hF74; clear hF74
              refine boolO e ?_; clear e
              exact ⟨a76, ⟨rfl, rfl, trivial⟩, Option.some.inj hF77, H.sel [0, 1, 2, 3] rfl⟩
            · have hF78 := condT hF69; clear hF69
              exact ⟨true, ⟨rfl, rfl, trivial⟩, Option.some.inj hF78, H.sel [0, 1, 2, 3] rfl⟩
          · have hF79 := condT hF61; clear hF61
            exact ⟨true, ⟨rfl, rfl, trivial⟩, Option.some.inj hF79, H.sel [0, 1, 2, 3] rfl⟩
        · have hF80 := condT hF58; clear hF58
          exact ⟨true, ⟨rfl, rfl, trivial⟩, Option.some.inj hF80, H.sel [0, 1, 2, 3] rfl⟩
      · have hF81 := condT hF55; clear hF55
        exact ⟨true, ⟨rfl, rfl, trivial⟩, Option.some.inj hF81, H.sel [0, 1, 2, 3] rfl⟩
    · have hF82 := condT hF52; clear hF52
      exact ⟨true, ⟨rfl, rfl, trivial⟩, Option.some.inj hF82, H.sel [0, 1, 2, 3] rfl⟩
  · clear hF46 H
    rintro T84 s42 w83 ⟨hr, (H : Cx w0 fp0 S0 w83 [Bx b5 [(.int .i64 g__0), (g__1h).v, (g__2h).v, (g__3h).v], Es (List (Int × Int × List Int × List Int)) g__1 g__1h, Es (List Int) g__2 g__2h, Es (List Int) g__3 g__3h])⟩
    subst hr
    cases s42
    · have hF85 := condF hF45; clear hF45
      refine sq ?_
      refine fld gok rfl rfl rfl rfl ?_
      refine load1 (H.bx 0 rfl (j := 1) rfl) ?_
      refine lenE (H.rs (α := List (Int × Int × List Int × List Int)) 1 rfl).len ?_
      have hmx116 := (H.rs (α := List (Int × Int × List Int × List Int)) 1 rfl).max
      obtain ⟨r117, e, hF118⟩ := bindS hF85; clear hF85
      refine loopO _ g__1.length (fun (k86 : Nat) (_ : Unit) (_ : Unit) => [(1, (.pointer (some ⟨b5, 0, none⟩))), (49, (g__1h).v), (50, (.int .i64 ((g__1.length : Nat) : Int))), (51, (.int .i64 ((k86 : Nat) : Int)))]) (fun _ (_ : Unit) (_ : Unit) w' => Cx w0 fp0 S0 w' [Bx b5 [(.int .i64 g__0), (g__1h).v, (g__2h).v, (g__3h).v], Es (List (Int × Int × List Int × List Int)) g__1 g__1h, Es (List Int) g__2 g__2h, Es (List Int) g__3 g__3h]) () () e ⟨rfl, rfl, rfl, rfl, trivial⟩ (H.sel [0, 1, 2, 3] rfl) ?_ ?_
      · clear H e
        rintro T120 k86 _ _ w119 o121 hk (H : Cx w0 fp0 S0 w119 [Bx b5 [(.int .i64 g__0), (g__1h).v, (g__2h).v, (g__3h).v], Es (List (Int × Int × List Int × List Int)) g__1 g__1h, Es (List Int) g__2 g__2h, Es (List Int) g__3 g__3h]) hrt hF122
        refine boolE (z := true) (ltLen hk) ?_
        refine sq ?_
        refine sq ?_
        obtain ⟨a129, e, hF130⟩ := bindS hF122; clear hF122
        have HH := H; clear H; obtain ⟨p127, m128, g131, c123, c124, c125, c126, H⟩ := HH.el (α := Int × Int × List Int × List Int) 1 rfl e; clear HH
        clear e
        obtain ⟨a129_0, a129_1, a129_2, a129_3⟩ := a129
        obtain ⟨_, _, h133, h134⟩ := g131
        replace H := H.part (β := List Int) a129_2 (h133 : Hd) 0 rfl (fun S h => (And.left (And.right (And.right h))))
        replace H := H.part (β := List Int) a129_3 (h134 : Hd) 1 rfl (fun S h => (And.right (And.right (And.right h))))
        replace H := H.sel [0, 1, 3, 4, 5, 6] rfl
        refine idxE c123 c124 c125 ?_; clear c123 c124 c125
        refine loadN [(.int .i64 a129_0), (.int .i64 a129_1), (h133).v, (h134).v] rfl c126 ?_; clear c126
        refine alloc_ gok rfl H ?_; clear H; intro b138 w137 hx H
        clear hx
        replace H : Cx w0 fp0 S0 w137 [Bx b138 [(.int .i64 0), (.int .i64 0), (.slice none 0 0), (.slice none 0 0)], Es (List Int) a129_3 h134, Es (List Int) a129_2 h133, Bx b5 [(.int .i64 g__0), (g__1h).v, (g__2h).v, (g__3h).v], Es (List (Int × Int × List Int × List Int)) g__1 g__1h, Es (List Int) g__2 g__2h, Es (List Int) g__3 g__3h] := H
        refine stA gok [(.int .i64 a129_0), (.int .i64 a129_1), (h133).v, (h134).v] rfl H rfl rfl rfl ?_; clear H; intro w140 H
        replace H : Cx w0 fp0 S0 w140 [Bx b138 [(.int .i64 a129_0), (.int .i64 a129_1), (h133).v, (h134).v], Es (List Int) a129_3 h134, Es (List Int) a129_2 h133, Bx b5 [(.int .i64 g__0), (g__1h).v, (g__2h).v, (g__3h).v], Es (List (Int × Int × List Int × List Int)) g__1 g__1h, Es (List Int) g__2 g__2h, Es (List Int) g__3 g__3h] := H
        refine loadN [(.int .i64 a129_0), (.int .i64 a129_1), (h133).v, (h134).v] rfl (fun j u hj => H.bx 0 rfl hj) ?_
        refine fld gok rfl rfl rfl rfl ?_
        refine load1 (H.bx 3 rfl (j := 0) rfl) ?_
        obtain ⟨y141, e, hF142⟩ := bindS hF130; clear hF130
        have ey141 := e; clear e
        refine callF (spec_hgEdge_c a129_0 a129_1 a129_2 h133 a129_3 h134 g__0 y141 ey141) (Γi := []) H ⟨Vw.sh 2 rfl, Vw.sh 1 rfl, trivial⟩ ?_; clear H ey141
        rintro _ _ w143 ⟨rfl, rfl⟩ (H : Cx w0 fp0 S0 w143 [Bx b138 [(.int .i64 a129_0), (.int .i64 a129_1), (h133).v, (h134).v], Es (List Int) a129_3 h134, Es (List Int) a129_2 h133, Bx b5 [(.int .i64 g__0), (g__1h).v, (g__2h).v, (g__3h).v], Es (List (Int × Int × List Int × List Int)) g__1 g__1h, Es (List Int) g__2 g__2h, Es (List Int) g__3 g__3h])
        obtain ⟨a144, e, hF145⟩ := bindS hF142; clear hF142
        refine boolO e ?_; clear e
        cases a144
        · have hF146 := condF hF145; clear hF145
          refine arK hk hmx116 ?_
          have hs := Option.some.inj hF146; subst hs; clear hF146
          exact ⟨(), (), rfl, ⟨rfl, rfl, rfl, rfl, trivial⟩, H.sel [3, 4, 5, 6] rfl⟩
        · have hF147 := condT hF145; clear hF145
          have hs := Option.some.inj hF147; subst hs; clear hF147
          have hr := hrt _ rfl; subst hr
          have hF148 : some _ = some _ := hF118
          cases hF148
          exact ⟨_, _, rfl, ⟨rfl, rfl⟩, (H.sel [] rfl).close trivial⟩
      · clear H e
        rintro T150 _ _ w149 hr (H : Cx w0 fp0 S0 w149 [Bx b5 [(.int .i64 g__0), (g__1h).v, (g__2h).v, (g__3h).v], Es (List (Int × Int × List Int × List Int)) g__1 g__1h, Es (List Int) g__2 g__2h, Es (List Int) g__3 g__3h])
        subst hr
        refine boolE (z := false) geLen ?_
        refine sq ?_
        refine loadN [(.int .i64 g__0), (g__1h).v, (g__2h).v, (g__3h).v] rfl (fun j u hj => H.bx 0 rfl hj) ?_
        obtain ⟨y153, e, hF154⟩ := bindS hF118; clear hF118
        obtain ⟨y153_0, y153_1⟩ := y153
        have ey153 := e; clear e
        refine callF (spec_hgCounts_c g__0 g__1 g__1h g__2 g__2h g__3 g__3h y153_0 y153_1 ey153) (Γi := []) H ⟨Vw.sh 1 rfl, Vw.sh 2 rfl, Vw.sh 3 rfl, trivial⟩ ?_; clear H ey153
        rintro _ _ w155 ⟨h156, h158, rfl, rfl⟩ (H : Cx w0 fp0 S0 w155 [E (List Int) y153_0 h156, E (List Int) y153_1 h158, Bx b5 [(.int .i64 g__0), (g__1h).v, (g__2h).v, (g__3h).v], Es (List (Int × Int × List Int × List Int)) g__1 g__1h, Es (List Int) g__2 g__2h, Es (List Int) g__3 g__3h])
        refine sq ?_
        refine lenE (H.ro (α := List Int) 0 rfl).len ?_
        have hmx188 := (H.ro (α := List Int) 0 rfl).max
        obtain ⟨r189, e, hF190⟩ := bindS hF154; clear hF154
        refine loopO _ y153_0.length (fun (k160 : Nat) (_ : Unit) (_ : Unit) => [(5, (h156).v), (6, (h158).v), (67, (.int .i64 ((y153_0.length : Nat) : Int))), (68, (.int .i64 ((k160 : Nat) : Int)))]) (fun _ (_ : Unit) (_ : Unit) w' => Cx w0 fp0 S0 w' [E (List Int) y153_0 h156, E (List Int) y153_1 h158]) () () e ⟨rfl, rfl, rfl, rfl, trivial⟩ (H.sel [0, 1] rfl) ?_ ?_
        · clear H e
          rintro T192 k160 _ _ w191 o193 hk (H : Cx w0 fp0 S0 w191 [E (List Int) y153_0 h156, E (List Int) y153_1 h158]) hrt hF194
          refine boolE (z := true) (ltLen hk) ?_
          refine sq ?_
          refine sq ?_
          refine heldX H [] (.fst 0 (.fst 1 (.fst 2 (.fst 4 (.fst 5 (.fst 6 (.fst 3 (.fst 7 (.fst 8 (.fst 9 .done)))))))))) mixed [] trivial (by kernel_rfl) ?_
          clear H; intro w195 H
          have hX : Ext w195 w195 := Upd.refl _ _
          have H0 := H
          obtain ⟨a202, e, hF203⟩ := bindS hF194; clear hF194
          obtain ⟨p200, m201, c196, c197, c198, c199⟩ := (H.ro (α := List Int) 0 rfl).at1 e; clear e
          refine idxE c196 c197 c198 ?_; clear c196 c197 c198
          obtain ⟨a210, e, hF211⟩ := bindS hF203; clear hF203
          obtain ⟨p208, m209, c204, c205, c206, c207⟩ := (H.ro (α := List Int) 1 rfl).at1 e; clear e
          refine idxE c204 c205 c206 ?_; clear c204 c205 c206
          refine load1X c199 ?_; clear c199
          refine load1X c207 ?_; clear c207
          obtain ⟨a212, e, hF213⟩ := bindS hF211; clear hF211
          refine arO e ?_; clear e
          obtain ⟨a214, e, hF215⟩ := bindS hF213; clear hF213
          refine boolO e ?_; clear e
          cases a214
          · have hF216 := condF hF215; clear hF215
            refine arK hk hmx188 ?_
            have hs := Option.some.inj hF216; subst hs; clear hF216
            exact ⟨(), (), rfl, ⟨rfl, rfl, rfl, rfl, trivial⟩, H.sel [0, 1] rfl⟩
          · have hF217 := condT hF215; clear hF215
            have hs := Option.some.inj hF217; subst hs; clear hF217
            have hr := hrt _ rfl; subst hr
            have hF218 : some _ = some _ := hF190
            cases hF218
            exact ⟨_, _, rfl, ⟨rfl, rfl⟩, (H.sel [] rfl).close trivial⟩
        · clear H e
          rintro T220 _ _ w219 hr (H : Cx w0 fp0 S0 w219 [E (List Int) y153_0 h156, E (List Int) y153_1 h158])
          subst hr
          refine boolE (z := false) geLen ?_
          refine sq ?_
          cases hF190
          exact ⟨_, _, rfl, ⟨rfl, rfl⟩, (H.sel [] rfl).close trivial⟩
    · have hF223 := condT hF45; clear hF45
      cases hF223
      exact ⟨_, _, rfl, ⟨rfl, rfl⟩, (H.sel [] rfl).close trivial⟩

theorem spec_hgIf_c (g__0 : Int) (g__1 : List (Int × Int × List Int × List Int)) (g__1h : Hd) (g__2 : List Int) (g__2h : Hd) (g__3 : List Int) (g__3h : Hd) (y0_0 : Int) (y0_1 : List (Int × Int × List Int × List Int)) (y0_2 : List Int) (y0_3 : List Int) (y1 : Bool) (hF : F_spec_hgIf (g__0, g__1, g__2, g__3) = some ((y0_0, y0_1, y0_2, y0_3), y1)) :
    ConS Try.prog 40 #[(.agg #[(.int .i64 g__0), (g__1h).v, (g__2h).v, (g__3h).v])] [Es (List (Int × Int × List Int × List Int)) g__1 g__1h, Es (List Int) g__2 g__2h, Es (List Int) g__3 g__3h] [] (fun v Γ' => ∃ z0 z1 z2 : Hd, v = (.tuple #[(.agg #[(.int .i64 y0_0), (z0).v, (z1).v, (z2).v]), (.bool y1)]) ∧ Γ' = [Es (List (Int × Int × List Int × List Int)) y0_1 z0, Es (List Int) y0_2 z1, Es (List Int) y0_3 z2]) := by
  intro w0 S0 fp0 hI hS
  have H : Cx w0 fp0 S0 w0 [Es (List (Int × Int × List Int × List Int)) g__1 g__1h, Es (List Int) g__2 g__2h, Es (List Int) g__3 g__3h] := Cx.start hI hS
  clear hI hS
  refine enterC (args := [_]) gok Try.func40 rfl _ rfl rfl rfl ?_
  refine box_ H ?_; clear H; intro b5 w4 hx H
  clear hx
  replace H : Cx w0 fp0 S0 w4 [Bx b5 [(.int .i64 g__0), (g__1h).v, (g__2h).v, (g__3h).v], Es (List (Int × Int × List Int × List Int)) g__1 g__1h, Es (List Int) g__2 g__2h, Es (List Int) g__3 g__3h] := H
  refine alloc_ gok rfl H ?_; clear H; intro b8 w7 hx H
  clear hx
  replace H : Cx w0 fp0 S0 w7 [Bx b8 [(.int .i64 0), (.slice none 0 0), (.slice none 0 0), (.slice none 0 0)], Bx b5 [(.int .i64 g__0), (g__1h).v, (g__2h).v, (g__3h).v], Es (List (Int × Int × List Int × List Int)) g__1 g__1h, Es (List Int) g__2 g__2h, Es (List Int) g__3 g__3h] := H
  refine sq ?_
  refine loadN [(.int .i64 g__0), (g__1h).v, (g__2h).v, (g__3h).v] rfl (fun j u hj => H.bx 1 rfl hj) ?_
  obtain ⟨y10, e, hF11⟩ := bindS hF; clear hF
  have ey10 := e; clear e
  refine callF (spec_hgValid_c g__0 g__1 g__1h g__2 g__2h g__3 g__3h y10 ey10) (Γi := []) H ⟨Vw.sh 2 rfl, Vw.sh 3 rfl, Vw.sh 4 rfl, trivial⟩ ?_; clear H ey10
  rintro _ _ w12 ⟨rfl, rfl⟩ (H : Cx w0 fp0 S0 w12 [Bx b8 [(.int .i64 0), (.slice none 0 0), (.slice none 0 0), (.slice none 0 0)], Bx b5 [(.int .i64 g__0), (g__1h).v, (g__2h).v, (g__3h).v], Es (List (Int × Int × List Int × List Int)) g__1 g__1h, Es (List Int) g__2 g__2h, Es (List Int) g__3 g__3h])
  obtain ⟨a13, e, hF14⟩ := bindS hF11; clear hF11
  refine boolO e ?_; clear e
  cases a13
  · have hF15 := condF hF14; clear hF14
    refine loadN [(.int .i64 g__0), (g__1h).v, (g__2h).v, (g__3h).v] rfl (fun j u hj => H.bx 1 rfl hj) ?_
    refine stA gok [(.int .i64 g__0), (g__1h).v, (g__2h).v, (g__3h).v] rfl H rfl rfl rfl ?_; clear H; intro w16 H
    replace H : Cx w0 fp0 S0 w16 [Bx b8 [(.int .i64 g__0), (g__1h).v, (g__2h).v, (g__3h).v], Bx b5 [(.int .i64 g__0), (g__1h).v, (g__2h).v, (g__3h).v], Es (List (Int × Int × List Int × List Int)) g__1 g__1h, Es (List Int) g__2 g__2h, Es (List Int) g__3 g__3h] := H
    refine loadN [(.int .i64 g__0), (g__1h).v, (g__2h).v, (g__3h).v] rfl (fun j u hj => H.bx 0 rfl hj) ?_
    cases hF15
    exact ⟨_, _, rfl, ⟨g__1h, g__2h, g__3h, rfl, rfl⟩, (H.sel [2, 3, 4] rfl)⟩
  · have hF17 := condT hF14; clear hF14
    refine build_ (cs := #[(.int .i64 0), (.slice none 0 0), (.slice none 0 0), (.slice none 0 0)]) gok rfl rfl rfl ?_
    refine stA gok [(.int .i64 0), (.slice none 0 0), (.slice none 0 0), (.slice none 0 0)] rfl H rfl rfl rfl ?_; clear H; intro w18 H
    replace H : Cx w0 fp0 S0 w18 [Bx b8 [(.int .i64 0), (.slice none 0 0), (.slice none 0 0), (.slice none 0 0)], Bx b5 [(.int .i64 g__0), (g__1h).v, (g__2h).v, (g__3h).v], Es (List (Int × Int × List Int × List Int)) g__1 g__1h, Es (List Int) g__2 g__2h, Es (List Int) g__3 g__3h] := H
    refine loadN [(.int .i64 0), (.slice none 0 0), (.slice none 0 0), (.slice none 0 0)] rfl (fun j u hj => H.bx 0 rfl hj) ?_
    replace H := H.nil (α := Int × Int × List Int × List Int)
    replace H := H.frz
    replace H := H.nil (α := Int)
    replace H := H.frz
    replace H := H.nil (α := Int)
    replace H := H.frz
    cases hF17
    exact ⟨_, _, rfl, ⟨nilH, nilH, nilH, rfl, rfl⟩, (H.sel [2, 1, 0] rfl)⟩

theorem spec_hgPar_c (a__0 : Int) (a__1 : List (Int × Int × List Int × List Int)) (a__1h : Hd) (a__2 : List Int) (a__2h : Hd) (a__3 : List Int) (a__3h : Hd) (b__0 : Int) (b__1 : List (Int × Int × List Int × List Int)) (b__1h : Hd) (b__2 : List Int) (b__2h : Hd) (b__3 : List Int) (b__3h : Hd) (y_0 : Int) (y_1 : List (Int × Int × List Int × List Int)) (y_2 : List Int) (y_3 : List Int) (hF : F_spec_hgPar (a__0, a__1, a__2, a__3) (b__0, b__1, b__2, b__3) = some (y_0, y_1, y_2, y_3)) :
    ConF Try.prog 42 #[(.agg #[(.int .i64 a__0), (a__1h).v, (a__2h).v, (a__3h).v]), (.agg #[(.int .i64 b__0), (b__1h).v, (b__2h).v, (b__3h).v])] [Es (List (Int × Int × List Int × List Int)) a__1 a__1h, Es (List Int) a__2 a__2h, Es (List Int) a__3 a__3h, Es (List (Int × Int × List Int × List Int)) b__1 b__1h, Es (List Int) b__2 b__2h, Es (List Int) b__3 b__3h] [] (fun v Γ' => ∃ z0 z1 z2 : Hd, v = (.agg #[(.int .i64 y_0), (z0).v, (z1).v, (z2).v]) ∧ Γ' = [E (List (Int × Int × List Int × List Int)) y_1 z0, E (List Int) y_2 z1, E (List Int) y_3 z2]) := by
  intro w0 S0 fp0 hI hS
  have H : Cx w0 fp0 S0 w0 [Es (List (Int × Int × List Int × List Int)) a__1 a__1h, Es (List Int) a__2 a__2h, Es (List Int) a__3 a__3h, Es (List (Int × Int × List Int × List Int)) b__1 b__1h, Es (List Int) b__2 b__2h, Es (List Int) b__3 b__3h] := Cx.start hI hS
  clear hI hS
  refine enterC (args := [_, _]) gok Try.func42 rfl _ rfl rfl rfl ?_
  refine box_ H ?_; clear H; intro b8 w7 hx H
  clear hx
  replace H : Cx w0 fp0 S0 w7 [Bx b8 [(.int .i64 a__0), (a__1h).v, (a__2h).v, (a__3h).v], Es (List (Int × Int × List Int × List Int)) a__1 a__1h, Es (List Int) a__2 a__2h, Es (List Int) a__3 a__3h, Es (List (Int × Int × List Int × List Int)) b__1 b__1h, Es (List Int) b__2 b__2h, Es (List Int) b__3 b__3h] := H
  refine box_ H ?_; clear H; intro b11 w10 hx H
  clear hx
  replace H : Cx w0 fp0 S0 w10 [Bx b11 [(.int .i64 b__0), (b__1h).v, (b__2h).v, (b__3h).v], Bx b8 [(.int .i64 a__0), (a__1h).v, (a__2h).v, (a__3h).v], Es (List (Int × Int × List Int × List Int)) a__1 a__1h, Es (List Int) a__2 a__2h, Es (List Int) a__3 a__3h, Es (List (Int × Int × List Int × List Int)) b__1 b__1h, Es (List Int) b__2 b__2h, Es (List Int) b__3 b__3h] := H
  refine alloc_ gok rfl H ?_; clear H; intro b14 w13 hx H
  clear hx
  replace H : Cx w0 fp0 S0 w13 [Bx b14 [(.int .i64 0), (.slice none 0 0), (.slice none 0 0), (.slice none 0 0)], Bx b11 [(.int .i64 b__0), (b__1h).v, (b__2h).v, (b__3h).v], Bx b8 [(.int .i64 a__0), (a__1h).v, (a__2h).v, (a__3h).v], Es (List (Int × Int × List Int × List Int)) a__1 a__1h, Es (List Int) a__2 a__2h, Es (List Int) a__3 a__3h, Es (List (Int × Int × List Int × List Int)) b__1 b__1h, Es (List Int) b__2 b__2h, Es (List Int) b__3 b__3h] := H
  refine loadN [(.int .i64 a__0), (a__1h).v, (a__2h).v, (a__3h).v] rfl (fun j u hj => H.bx 2 rfl hj) ?_
  refine loadN [(.int .i64 b__0), (b__1h).v, (b__2h).v, (b__3h).v] rfl (fun j u hj => H.bx 1 rfl hj) ?_
  obtain ⟨y16, e, hF17⟩ := bindS hF; clear hF
  obtain ⟨y16_0, y16_1, y16_2, y16_3⟩ := y16
  have ey16 := e; clear e
  refine callF (spec_hgBeside_c a__0 a__1 a__1h a__2 a__2h a__3 a__3h b__0 b__1 b__1h b__2 b__2h b__3 b__3h y16_0 y16_1 y16_2 y16_3 ey16) (Γi := []) H ⟨Vw.sh 3 rfl, Vw.sh 4 rfl, Vw.sh 5 rfl, Vw.sh 6 rfl, Vw.sh 7 rfl, Vw.sh 8 rfl, trivial⟩ ?_; clear H ey16
  rintro _ _ w18 ⟨h19, h21, h23, rfl, rfl⟩ (H : Cx w0 fp0 S0 w18 [E (List (Int × Int × List Int × List Int)) y16_1 h19, E (List Int) y16_2 h21, E (List Int) y16_3 h23, Bx b14 [(.int .i64 0), (.slice none 0 0), (.slice none 0 0), (.slice none 0 0)], Bx b11 [(.int .i64 b__0), (b__1h).v, (b__2h).v, (b__3h).v], Bx b8 [(.int .i64 a__0), (a__1h).v, (a__2h).v, (a__3h).v], Es (List (Int × Int × List Int × List Int)) a__1 a__1h, Es (List Int) a__2 a__2h, Es (List Int) a__3 a__3h, Es (List (Int × Int × List Int × List Int)) b__1 b__1h, Es (List Int) b__2 b__2h, Es (List Int) b__3 b__3h])
  replace H := H.sel [3, 0, 1, 2, 4, 5, 6, 7, 8, 9, 10, 11] rfl
  refine stA gok [(.int .i64 y16_0), (h19).v, (h21).v, (h23).v] rfl H rfl rfl rfl ?_; clear H; intro w25 H
  replace H : Cx w0 fp0 S0 w25 [Bx b14 [(.int .i64 y16_0), (h19).v, (h21).v, (h23).v], E (List (Int × Int × List Int × List Int)) y16_1 h19, E (List Int) y16_2 h21, E (List Int) y16_3 h23, Bx b11 [(.int .i64 b__0), (b__1h).v, (b__2h).v, (b__3h).v], Bx b8 [(.int .i64 a__0), (a__1h).v, (a__2h).v, (a__3h).v], Es (List (Int × Int × List Int × List Int)) a__1 a__1h, Es (List Int) a__2 a__2h, Es (List Int) a__3 a__3h, Es (List (Int × Int × List Int × List Int)) b__1 b__1h, Es (List Int) b__2 b__2h, Es (List Int) b__3 b__3h] := H
  refine loadN [(.int .i64 y16_0), (h19).v, (h21).v, (h23).v] rfl (fun j u hj => H.bx 0 rfl hj) ?_
  cases hF17
  exact ⟨_, _, rfl, ⟨h19, h21, h23, rfl, rfl⟩, (H.sel [1, 2, 3] rfl).close ⟨cloE, cloE, cloE, trivial⟩⟩

theorem spec_hgMade_cn : ∀ (fuel : Nat) (t__0 : List (Int × Int × ByteArray)) (t__0h : Hd) (y0_0 : Int) (y0_1 : List (Int × Int × List Int × List Int)) (y0_2 : List Int) (y0_3 : List Int) (y1 : Bool) (hF : F_spec_hgMade_n fuel t__0 = some ((y0_0, y0_1, y0_2, y0_3), y1)),
    ConS Try.prog 26 #[(.agg #[(t__0h).v])] [Es (List (Int × Int × ByteArray)) t__0 t__0h] [] (fun v Γ' => ∃ z0 z1 z2 : Hd, v = (.tuple #[(.agg #[(.int .i64 y0_0), (z0).v, (z1).v, (z2).v]), (.bool y1)]) ∧ Γ' = [Es (List (Int × Int × List Int × List Int)) y0_1 z0, Es (List Int) y0_2 z1, Es (List Int) y0_3 z2]) := by
  intro fuel
  induction fuel with
  | zero => intro t__0 t__0h y0_0 y0_1 y0_2 y0_3 y1 hF; cases hF
  | succ fuel ih =>
  intro t__0 t__0h y0_0 y0_1 y0_2 y0_3 y1 hF
  intro w0 S0 fp0 hI hS
  have H : Cx w0 fp0 S0 w0 [Es (List (Int × Int × ByteArray)) t__0 t__0h] := Cx.start hI hS
  clear hI hS
  refine enterC (args := [_]) gok Try.func26 rfl _ rfl rfl rfl ?_
  refine box_ H ?_; clear H; intro b3 w2 hx H
  clear hx
  replace H : Cx w0 fp0 S0 w2 [Bx b3 [(t__0h).v], Es (List (Int × Int × ByteArray)) t__0 t__0h] := H
  refine alloc_ gok rfl H ?_; clear H; intro b6 w5 hx H
  clear hx
  replace H : Cx w0 fp0 S0 w5 [Bx b6 [(.int .i64 0), (.slice none 0 0), (.slice none 0 0), (.slice none 0 0)], Bx b3 [(t__0h).v], Es (List (Int × Int × ByteArray)) t__0 t__0h] := H
  refine loadN [(t__0h).v] rfl (fun j u hj => H.bx 1 rfl hj) ?_
  obtain ⟨y8, e, hF9⟩ := bindS hF; clear hF
  have ey8 := e; clear e
  refine callF (spec_tmTop_c t__0 t__0h y8 ey8) (Γi := []) H ⟨Vw.sh 2 rfl, trivial⟩ ?_; clear H ey8
  rintro _ _ w10 ⟨rfl, rfl⟩ (H : Cx w0 fp0 S0 w10 [Bx b6 [(.int .i64 0), (.slice none 0 0), (.slice none 0 0), (.slice none 0 0)], Bx b3 [(t__0h).v], Es (List (Int × Int × ByteArray)) t__0 t__0h])
  refine sq ?_
  obtain ⟨a11, e, hF12⟩ := bindS hF9; clear hF9
  refine boolO e ?_; clear e
  cases a11
  · have hF13 := condF hF12; clear hF12
    refine loadN [(t__0h).v] rfl (fun j u hj => H.bx 1 rfl hj) ?_
    obtain ⟨y14, e, hF15⟩ := bindS hF13; clear hF13
    obtain ⟨y14_0_0, y14_1_0⟩ := y14
    have ey14 := e; clear e
    refine callS (spec_tmParts_c t__0 t__0h y14_0_0 y14_1_0 ey14) (Γi := []) H [2] rfl (persC persS persN) ?_; clear H ey14
    rintro _ _ w16 ⟨h17, h19, rfl, rfl⟩ (H : Cx w0 fp0 S0 w16 [Es (List (Int × Int × ByteArray)) y14_0_0 h17, Es (List (Int × Int × ByteArray)) y14_1_0 h19, Bx b6 [(.int .i64 0), (.slice none 0 0), (.slice none 0 0), (.slice none 0 0)], Bx b3 [(t__0h).v], Es (List (Int × Int × ByteArray)) t__0 t__0h])
    refine alloc_ gok rfl H ?_; clear H; intro b22 w21 hx H
    clear hx
    replace H : Cx w0 fp0 S0 w21 [Bx b22 [(.slice none 0 0)], Es (List (Int × Int × ByteArray)) y14_0_0 h17, Es (List (Int × Int × ByteArray)) y14_1_0 h19, Bx b6 [(.int .i64 0), (.slice none 0 0), (.slice none 0 0), (.slice none 0 0)], Bx b3 [(t__0h).v], Es (List (Int × Int × ByteArray)) t__0 t__0h] := H
    refine alloc_ gok rfl H ?_; clear H; intro b25 w24 hx H
    clear hx
    replace H : Cx w0 fp0 S0 w24 [Bx b25 [(.slice none 0 0)], Bx b22 [(.slice none 0 0)], Es (List (Int × Int × ByteArray)) y14_0_0 h17, Es (List (Int × Int × ByteArray)) y14_1_0 h19, Bx b6 [(.int .i64 0), (.slice none 0 0), (.slice none 0 0), (.slice none 0 0)], Bx b3 [(t__0h).v], Es (List (Int × Int × ByteArray)) t__0 t__0h] := H
    replace H := H.sel [1, 0, 2, 3, 4, 5, 6] rfl
    refine stA gok [(h17).v] rfl H rfl rfl rfl ?_; clear H; intro w27 H
    replace H : Cx w0 fp0 S0 w27 [Bx b22 [(h17).v], Bx b25 [(.slice none 0 0)], Es (List (Int × Int × ByteArray)) y14_0_0 h17, Es (List (Int × Int × ByteArray)) y14_1_0 h19, Bx b6 [(.int .i64 0), (.slice none 0 0), (.slice none 0 0), (.slice none 0 0)], Bx b3 [(t__0h).v], Es (List (Int × Int × ByteArray)) t__0 t__0h] := H
    replace H := H.sel [1, 0, 2, 3, 4, 5, 6] rfl
    refine stA gok [(h19).v] rfl H rfl rfl rfl ?_; clear H; intro w28 H
    replace H : Cx w0 fp0 S0 w28 [Bx b25 [(h19).v], Bx b22 [(h17).v], Es (List (Int × Int × ByteArray)) y14_0_0 h17, Es (List (Int × Int × ByteArray)) y14_1_0 h19, Bx b6 [(.int .i64 0), (.slice none 0 0), (.slice none 0 0), (.slice none 0 0)], Bx b3 [(t__0h).v], Es (List (Int × Int × ByteArray)) t__0 t__0h] := H
    refine loadN [(h17).v] rfl (fun j u hj => H.bx 1 rfl hj) ?_
    obtain ⟨y29, e, hF30⟩ := bindS hF15; clear hF15
    obtain ⟨⟨y29_0_0, y29_0_1, y29_0_2, y29_0_3⟩, y29_1⟩ := y29
    have ey29 := e; clear e
    refine callS (ih y14_0_0 h17 y29_0_0 y29_0_1 y29_0_2 y29_0_3 y29_1 ey29) (Γi := []) H [2] rfl (persC persS persN) ?_; clear H ey29
    rintro _ _ w31 ⟨h32, h34, h36, rfl, rfl⟩ (H : Cx w0 fp0 S0 w31 [Es (List (Int × Int × List Int × List Int)) y29_0_1 h32, Es (List Int) y29_0_2 h34, Es (List Int) y29_0_3 h36, Bx b25 [(h19).v], Bx b22 [(h17).v], Es (List (Int × Int × ByteArray)) y14_0_0 h17, Es (List (Int × Int × ByteArray)) y14_1_0 h19, Bx b6 [(.int .i64 0), (.slice none 0 0), (.slice none 0 0), (.slice none 0 0)], Bx b3 [(t__0h).v], Es (List (Int × Int × ByteArray)) t__0 t__0h])
    refine alloc_ gok rfl H ?_; clear H; intro b39 w38 hx H
    clear hx
    replace H : Cx w0 fp0 S0 w38 [Bx b39 [(.int .i64 0), (.slice none 0 0), (.slice none 0 0), (.slice none 0 0)], Es (List (Int × Int × List Int × List Int)) y29_0_1 h32, Es (List Int) y29_0_2 h34, Es (List Int) y29_0_3 h36, Bx b25 [(h19).v], Bx b22 [(h17).v], Es (List (Int × Int × ByteArray)) y14_0_0 h17, Es (List (Int × Int × ByteArray)) y14_1_0 h19, Bx b6 [(.int .i64 0), (.slice none 0 0), (.slice none 0 0), (.slice none 0 0)], Bx b3 [(t__0h).v], Es (List (Int × Int × ByteArray)) t__0 t__0h] := H
    refine stA gok [(.int .i64 y29_0_0), (h32).v, (h34).v, (h36).v] rfl H rfl rfl rfl ?_; clear H; intro w41 H
    replace H : Cx w0 fp0 S0 w41 [Bx b39 [(.int .i64 y29_0_0), (h32).v, (h34).v, (h36).v], Es (List (Int × Int × List Int × List Int)) y29_0_1 h32, Es (List Int) y29_0_2 h34, Es (List Int) y29_0_3 h36, Bx b25 [(h19).v], Bx b22 [(h17).v], Es (List (Int × Int × ByteArray)) y14_0_0 h17, Es (List (Int × Int × ByteArray)) y14_1_0 h19, Bx b6 [(.int .i64 0), (.slice none 0 0), (.slice none 0 0), (.slice none 0 0)], Bx b3 [(t__0h).v], Es (List (Int × Int × ByteArray)) t__0 t__0h] := H
    refine loadN [(h19).v] rfl (fun j u hj => H.bx 4 rfl hj) ?_
    obtain ⟨y42, e, hF43⟩ := bindS hF30; clear hF30
    obtain ⟨⟨y42_0_0, y42_0_1, y42_0_2, y42_0_3⟩, y42_1⟩ := y42
    have ey42 := e; clear e
    refine callS (ih y14_1_0 h19 y42_0_0 y42_0_1 y42_0_2 y42_0_3 y42_1 ey42) (Γi := []) H [7] rfl (persC persS persN) ?_; clear H ey42
    rintro _ _ w44 ⟨h45, h47, h49, rfl, rfl⟩ (H : Cx w0 fp0 S0 w44 [Es (List (Int × Int × List Int × List Int)) y42_0_1 h45, Es (List Int) y42_0_2 h47, Es (List Int) y42_0_3 h49, Bx b39 [(.int .i64 y29_0_0), (h32).v, (h34).v, (h36).v], Es (List (Int × Int × List Int × List Int)) y29_0_1 h32, Es (List Int) y29_0_2 h34, Es (List Int) y29_0_3 h36, Bx b25 [(h19).v], Bx b22 [(h17).v], Es (List (Int × Int × ByteArray)) y14_0_0 h17, Es (List (Int × Int × ByteArray)) y14_1_0 h19, Bx b6 [(.int .i64 0), (.slice none 0 0), (.slice none 0 0), (.slice none 0 0)], Bx b3 [(t__0h).v], Es (List (Int × Int × ByteArray)) t__0 t__0h])
    refine alloc_ gok rfl H ?_; clear H; intro b52 w51 hx H
    clear hx
    replace H : Cx w0 fp0 S0 w51 [Bx b52 [(.int .i64 0), (.slice none 0 0), (.slice none 0 0), (.slice none 0 0)], Es (List (Int × Int × List Int × List Int)) y42_0_1 h45, Es (List Int) y42_0_2 h47, Es (List Int) y42_0_3 h49, Bx b39 [(.int .i64 y29_0_0), (h32).v, (h34).v, (h36).v], Es (List (Int × Int × List Int × List Int)) y29_0_1 h32, Es (List Int) y29_0_2 h34, Es (List Int) y29_0_3 h36, Bx b25 [(h19).v], Bx b22 [(h17).v], Es (List (Int × Int × ByteArray)) y14_0_0 h17, Es (List (Int × Int × ByteArray)) y14_1_0 h19, Bx b6 [(.int .i64 0), (.slice none 0 0), (.slice none 0 0), (.slice none 0 0)], Bx b3 [(t__0h).v], Es (List (Int × Int × ByteArray)) t__0 t__0h] := H
    refine stA gok [(.int .i64 y42_0_0), (h45).v, (h47).v, (h49).v] rfl H rfl rfl rfl ?_; clear H; intro w54 H
    replace H : Cx w0 fp0 S0 w54 [Bx b52 [(.int .i64 y42_0_0), (h45).v, (h47).v, (h49).v], Es (List (Int × Int × List Int × List Int)) y42_0_1 h45, Es (List Int) y42_0_2 h47, Es (List Int) y42_0_3 h49, Bx b39 [(.int .i64 y29_0_0), (h32).v, (h34).v, (h36).v], Es (List (Int × Int × List Int × List Int)) y29_0_1 h32, Es (List Int) y29_0_2 h34, Es (List Int) y29_0_3 h36, Bx b25 [(h19).v], Bx b22 [(h17).v], Es (List (Int × Int × ByteArray)) y14_0_0 h17, Es (List (Int × Int × ByteArray)) y14_1_0 h19, Bx b6 [(.int .i64 0), (.slice none 0 0), (.slice none 0 0), (.slice none 0 0)], Bx b3 [(t__0h).v], Es (List (Int × Int × ByteArray)) t__0 t__0h] := H
    refine sq ?_
    obtain ⟨r63, hF65, hF64⟩ := bindS hF43; clear hF43
    refine cut (fun (q66 : Bool) => [(2, (.pointer (some ⟨b6, 0, none⟩))), (4, (.int .i64 y8)), (7, (.pointer (some ⟨b39, 0, none⟩))), (9, (.pointer (some ⟨b52, 0, none⟩))), (40, (.bool q66))]) (fun (q66 : Bool) w' => q66 = r63 ∧ Cx w0 fp0 S0 w' [Bx b6 [(.int .i64 0), (.slice none 0 0), (.slice none 0 0), (.slice none 0 0)], Bx b39 [(.int .i64 y29_0_0), (h32).v, (h34).v, (h36).v], Es (List (Int × Int × List Int × List Int)) y29_0_1 h32, Es (List Int) y29_0_2 h34, Es (List Int) y29_0_3 h36, Bx b52 [(.int .i64 y42_0_0), (h45).v, (h47).v, (h49).v], Es (List (Int × Int × List Int × List Int)) y42_0_1 h45, Es (List Int) y42_0_2 h47, Es (List Int) y42_0_3 h49]) ?_ ?_
    · skip
      obtain ⟨a67, e, hF68⟩ := bindS hF65; clear hF65
      refine boolO e ?_; clear e
      cases a67
      · have hF69 := condF hF68; clear hF68
        obtain ⟨a70, e, hF71⟩ := bindS hF69; clear hF69
        refine boolO e ?_; clear e
        exact ⟨a70, ⟨rfl, rfl, rfl, rfl, rfl, trivial⟩, Option.some.inj hF71, H.sel [12, 4, 5, 6, 7, 0, 1, 2, 3] rfl⟩
      · have hF72 := condT hF68; clear hF68
        exact ⟨true, ⟨rfl, rfl, rfl, rfl, rfl, trivial⟩, Option.some.inj hF72, H.sel [12, 4, 5, 6, 7, 0, 1, 2, 3] rfl⟩
    · clear hF65 H
      rintro T74 s61 w73 ⟨hr, (H : Cx w0 fp0 S0 w73 [Bx b6 [(.int .i64 0), (.slice none 0 0), (.slice none 0 0), (.slice none 0 0)], Bx b39 [(.int .i64 y29_0_0), (h32).v, (h34).v, (h36).v], Es (List (Int × Int × List Int × List Int)) y29_0_1 h32, Es (List Int) y29_0_2 h34, Es (List Int) y29_0_3 h36, Bx b52 [(.int .i64 y42_0_0), (h45).v, (h47).v, (h49).v], Es (List (Int × Int × List Int × List Int)) y42_0_1 h45, Es (List Int) y42_0_2 h47, Es (List Int) y42_0_3 h49])⟩
      subst hr
      cases s61
      · have hF75 := condF hF64; clear hF64
        refine sq ?_
        obtain ⟨a76, e, hF77⟩ := bindS hF75; clear hF75
        refine boolO e ?_; clear e
        cases a76
        · have hF78 := condF hF77; clear hF77
          refine loadN [(.int .i64 y29_0_0), (h32).v, (h34).v, (h36).v] rfl (fun j u hj => H.bx 1 rfl hj) ?_
          refine loadN [(.int .i64 y42_0_0), (h45).v, (h47).v, (h49).v] rfl (fun j u hj => H.bx 5 rfl hj) ?_
          obtain ⟨y79, e, hF80⟩ := bindS hF78; clear hF78
          obtain ⟨y79_0, y79_1, y79_2, y79_3⟩ := y79
          have ey79 := e; clear e
          refine callF (spec_hgPar_c y29_0_0 y29_0_1 h32 y29_0_2 h34 y29_0_3 h36 y42_0_0 y42_0_1 h45 y42_0_2 h47 y42_0_3 h49 y79_0 y79_1 y79_2 y79_3 ey79) (Γi := []) H ⟨Vw.sh 2 rfl, Vw.sh 3 rfl, Vw.sh 4 rfl, Vw.sh 6 rfl, Vw.sh 7 rfl, Vw.sh 8 rfl, trivial⟩ ?_; clear H ey79
          rintro _ _ w81 ⟨h82, h84, h86, rfl, rfl⟩ (H : Cx w0 fp0 S0 w81 [E (List (Int × Int × List Int × List Int)) y79_1 h82, E (List Int) y79_2 h84, E (List Int) y79_3 h86, Bx b6 [(.int .i64 0), (.slice none 0 0), (.slice none 0 0), (.slice none 0 0)], Bx b39 [(.int .i64 y29_0_0), (h32).v, (h34).v, (h36).v], Es (List (Int × Int × List Int × List Int)) y29_0_1 h32, Es (List Int) y29_0_2 h34, Es (List Int) y29_0_3 h36, Bx b52 [(.int .i64 y42_0_0), (h45).v, (h47).v, (h49).v], Es (List (Int × Int × List Int × List Int)) y42_0_1 h45, Es (List Int) y42_0_2 h47, Es (List Int) y42_0_3 h49])
          obtain ⟨y88, e, hF89⟩ := bindS hF80; clear hF80
          obtain ⟨⟨y88_0_0, y88_0_1, y88_0_2, y88_0_3⟩, y88_1⟩ := y88
          have ey88 := e; clear e
          replace H := H.frz
          replace H := H.sel [1, 0, 2, 3, 4, 5, 6, 7, 8, 9, 10, 11] rfl
          replace H := H.frz
          replace H := H.sel [2, 0, 1, 3, 4, 5, 6, 7, 8, 9, 10, 11] rfl
          replace H := H.frz
          refine callS (spec_hgIf_c y79_0 y79_1 h82 y79_2 h84 y79_3 h86 y88_0_0 y88_0_1 y88_0_2 y88_0_3 y88_1 ey88) (Γi := []) H [2, 1, 0] rfl (persC persS (persC persS (persC persS persN))) ?_; clear H ey88
          rintro _ _ w90 ⟨h91, h93, h95, rfl, rfl⟩ (H : Cx w0 fp0 S0 w90 [Es (List (Int × Int × List Int × List Int)) y88_0_1 h91, Es (List Int) y88_0_2 h93, Es (List Int) y88_0_3 h95, Es (List Int) y79_3 h86, Es (List Int) y79_2 h84, Es (List (Int × Int × List Int × List Int)) y79_1 h82, Bx b6 [(.int .i64 0), (.slice none 0 0), (.slice none 0 0), (.slice none 0 0)], Bx b39 [(.int .i64 y29_0_0), (h32).v, (h34).v, (h36).v], Es (List (Int × Int × List Int × List Int)) y29_0_1 h32, Es (List Int) y29_0_2 h34, Es (List Int) y29_0_3 h36, Bx b52 [(.int .i64 y42_0_0), (h45).v, (h47).v, (h49).v], Es (List (Int × Int × List Int × List Int)) y42_0_1 h45, Es (List Int) y42_0_2 h47, Es (List Int) y42_0_3 h49])
          replace H := H.sel [6, 0, 1, 2, 3, 4, 5, 7, 8, 9, 10, 11, 12, 13, 14] rfl
          refine stA gok [(.int .i64 y88_0_0), (h91).v, (h93).v, (h95).v] rfl H rfl rfl rfl ?_; clear H; intro w97 H
          replace H : Cx w0 fp0 S0 w97 [Bx b6 [(.int .i64 y88_0_0), (h91).v, (h93).v, (h95).v], Es (List (Int × Int × List Int × List Int)) y88_0_1 h91, Es (List Int) y88_0_2 h93, Es (List Int) y88_0_3 h95, Es (List Int) y79_3 h86, Es (List Int) y79_2 h84, Es (List (Int × Int × List Int × List Int)) y79_1 h82, Bx b39 [(.int .i64 y29_0_0), (h32).v, (h34).v, (h36).v], Es (List (Int × Int × List Int × List Int)) y29_0_1 h32, Es (List Int) y29_0_2 h34, Es (List Int) y29_0_3 h36, Bx b52 [(.int .i64 y42_0_0), (h45).v, (h47).v, (h49).v], Es (List (Int × Int × List Int × List Int)) y42_0_1 h45, Es (List Int) y42_0_2 h47, Es (List Int) y42_0_3 h49] := H
          refine loadN [(.int .i64 y88_0_0), (h91).v, (h93).v, (h95).v] rfl (fun j u hj => H.bx 0 rfl hj) ?_
          cases hF89
          exact ⟨_, _, rfl, ⟨h91, h93, h95, rfl, rfl⟩, (H.sel [1, 2, 3] rfl)⟩
        · have hF98 := condT hF77; clear hF77
          refine loadN [(.int .i64 y29_0_0), (h32).v, (h34).v, (h36).v] rfl (fun j u hj => H.bx 1 rfl hj) ?_
          refine loadN [(.int .i64 y42_0_0), (h45).v, (h47).v, (h49).v] rfl (fun j u hj => H.bx 5 rfl hj) ?_
          obtain ⟨y99, e, hF100⟩ := bindS hF98; clear hF98
          obtain ⟨y99_0, y99_1, y99_2, y99_3⟩ := y99
          have ey99 := e; clear e
          refine callF (spec_hgSeq_c y29_0_0 y29_0_1 h32 y29_0_2 h34 y29_0_3 h36 y42_0_0 y42_0_1 h45 y42_0_2 h47 y42_0_3 h49 y99_0 y99_1 y99_2 y99_3 ey99) (Γi := []) H ⟨Vw.sh 2 rfl, Vw.sh 3 rfl, Vw.sh 4 rfl, Vw.sh 6 rfl, Vw.sh 7 rfl, Vw.sh 8 rfl, trivial⟩ ?_; clear H ey99
          rintro _ _ w101 ⟨h102, h104, h106, rfl, rfl⟩ (H : Cx w0 fp0 S0 w101 [E (List (Int × Int × List Int × List Int)) y99_1 h102, E (List Int) y99_2 h104, E (List Int) y99_3 h106, Bx b6 [(.int .i64 0), (.slice none 0 0), (.slice none 0 0), (.slice none 0 0)], Bx b39 [(.int .i64 y29_0_0), (h32).v, (h34).v, (h36).v], Es (List (Int × Int × List Int × List Int)) y29_0_1 h32, Es (List Int) y29_0_2 h34, Es (List Int) y29_0_3 h36, Bx b52 [(.int .i64 y42_0_0), (h45).v, (h47).v, (h49).v], Es (List (Int × Int × List Int × List Int)) y42_0_1 h45, Es (List Int) y42_0_2 h47, Es (List Int) y42_0_3 h49])
          obtain ⟨y108, e, hF109⟩ := bindS hF100; clear hF100
          obtain ⟨⟨y108_0_0, y108_0_1, y108_0_2, y108_0_3⟩, y108_1⟩ := y108
          have ey108 := e; clear e
          replace H := H.frz
          replace H := H.sel [1, 0, 2, 3, 4, 5, 6, 7, 8, 9, 10, 11] rfl
          replace H := H.frz
          replace H := H.sel [2, 0, 1, 3, 4, 5, 6, 7, 8, 9, 10, 11] rfl
          replace H := H.frz
          refine callS (spec_hgIf_c y99_0 y99_1 h102 y99_2 h104 y99_3 h106 y108_0_0 y108_0_1 y108_0_2 y108_0_3 y108_1 ey108) (Γi := []) H [2, 1, 0] rfl (persC persS (persC persS (persC persS persN))) ?_; clear H ey108
          rintro _ _ w110 ⟨h111, h113, h115, rfl, rfl⟩ (H : Cx w0 fp0 S0 w110 [Es (List (Int × Int × List Int × List Int)) y108_0_1 h111, Es (List Int) y108_0_2 h113, Es (List Int) y108_0_3 h115, Es (List Int) y99_3 h106, Es (List Int) y99_2 h104, Es (List (Int × Int × List Int × List Int)) y99_1 h102, Bx b6 [(.int .i64 0), (.slice none 0 0), (.slice none 0 0), (.slice none 0 0)], Bx b39 [(.int .i64 y29_0_0), (h32).v, (h34).v, (h36).v], Es (List (Int × Int × List Int × List Int)) y29_0_1 h32, Es (List Int) y29_0_2 h34, Es (List Int) y29_0_3 h36, Bx b52 [(.int .i64 y42_0_0), (h45).v, (h47).v, (h49).v], Es (List (Int × Int × List Int × List Int)) y42_0_1 h45, Es (List Int) y42_0_2 h47, Es (List Int) y42_0_3 h49])
          replace H := H.sel [6, 0, 1, 2, 3, 4, 5, 7, 8, 9, 10, 11, 12, 13, 14] rfl
          refine stA gok [(.int .i64 y108_0_0), (h111).v, (h113).v, (h115).v] rfl H rfl rfl rfl ?_; clear H; intro w117 H
          replace H : Cx w0 fp0 S0 w117 [Bx b6 [(.int .i64 y108_0_0), (h111).v, (h113).v, (h115).v], Es (List (Int × Int × List Int × List Int)) y108_0_1 h111, Es (List Int) y108_0_2 h113, Es (List Int) y108_0_3 h115, Es (List Int) y99_3 h106, Es (List Int) y99_2 h104, Es (List (Int × Int × List Int × List Int)) y99_1 h102, Bx b39 [(.int .i64 y29_0_0), (h32).v, (h34).v, (h36).v], Es (List (Int × Int × List Int × List Int)) y29_0_1 h32, Es (List Int) y29_0_2 h34, Es (List Int) y29_0_3 h36, Bx b52 [(.int .i64 y42_0_0), (h45).v, (h47).v, (h49).v], Es (List (Int × Int × List Int × List Int)) y42_0_1 h45, Es (List Int) y42_0_2 h47, Es (List Int) y42_0_3 h49] := H
          refine loadN [(.int .i64 y108_0_0), (h111).v, (h113).v, (h115).v] rfl (fun j u hj => H.bx 0 rfl hj) ?_
          cases hF109
          exact ⟨_, _, rfl, ⟨h111, h113, h115, rfl, rfl⟩, (H.sel [1, 2, 3] rfl)⟩
      · have hF118 := condT hF64; clear hF64
        refine build_ (cs := #[(.int .i64 0), (.slice none 0 0), (.slice none 0 0), (.slice none 0 0)]) gok rfl rfl rfl ?_
        refine stA gok [(.int .i64 0), (.slice none 0 0), (.slice none 0 0), (.slice none 0 0)] rfl H rfl rfl rfl ?_; clear H; intro w119 H
        replace H : Cx w0 fp0 S0 w119 [Bx b6 [(.int .i64 0), (.slice none 0 0), (.slice none 0 0), (.slice none 0 0)], Bx b39 [(.int .i64 y29_0_0), (h32).v, (h34).v, (h36).v], Es (List (Int × Int × List Int × List Int)) y29_0_1 h32, Es (List Int) y29_0_2 h34, Es (List Int) y29_0_3 h36, Bx b52 [(.int .i64 y42_0_0), (h45).v, (h47).v, (h49).v], Es (List (Int × Int × List Int × List Int)) y42_0_1 h45, Es (List Int) y42_0_2 h47, Es (List Int) y42_0_3 h49] := H
        refine loadN [(.int .i64 0), (.slice none 0 0), (.slice none 0 0), (.slice none 0 0)] rfl (fun j u hj => H.bx 0 rfl hj) ?_
        replace H := H.nil (α := Int × Int × List Int × List Int)
        replace H := H.frz
        replace H := H.nil (α := Int)
        replace H := H.frz
        replace H := H.nil (α := Int)
        replace H := H.frz
        cases hF118
        exact ⟨_, _, rfl, ⟨nilH, nilH, nilH, rfl, rfl⟩, (H.sel [2, 1, 0] rfl)⟩
  · have hF123 := condT hF12; clear hF12
    refine fld gok rfl rfl rfl rfl ?_
    refine load1 (H.bx 1 rfl (j := 0) rfl) ?_
    obtain ⟨a130, e, hF131⟩ := bindS hF123; clear hF123
    have HH := H; clear H; obtain ⟨p128, m129, g132, c124, c125, c126, c127, H⟩ := HH.el (α := Int × Int × ByteArray) 2 rfl e; clear HH
    clear e
    obtain ⟨a130_0, a130_1, a130_2⟩ := a130
    obtain ⟨_, _, _⟩ := g132
    replace H := H.sel [1, 2, 3] rfl
    refine idxE c124 c125 c126 ?_; clear c124 c125 c126
    refine loadN [(.int .i64 a130_0), (.int .i64 a130_1), (.string a130_2)] rfl c127 ?_; clear c127
    obtain ⟨y134, e, hF135⟩ := bindS hF131; clear hF131
    obtain ⟨y134_0, y134_1, y134_2, y134_3⟩ := y134
    have ey134 := e; clear e
    refine callF (spec_hgLeaf_c a130_0 a130_1 a130_2 y134_0 y134_1 y134_2 y134_3 ey134) (Γi := []) H trivial ?_; clear H ey134
    rintro _ _ w136 ⟨h137, h139, h141, rfl, rfl⟩ (H : Cx w0 fp0 S0 w136 [E (List (Int × Int × List Int × List Int)) y134_1 h137, E (List Int) y134_2 h139, E (List Int) y134_3 h141, Bx b6 [(.int .i64 0), (.slice none 0 0), (.slice none 0 0), (.slice none 0 0)], Bx b3 [(t__0h).v], Es (List (Int × Int × ByteArray)) t__0 t__0h])
    replace H := H.sel [3, 0, 1, 2, 4, 5] rfl
    refine stA gok [(.int .i64 y134_0), (h137).v, (h139).v, (h141).v] rfl H rfl rfl rfl ?_; clear H; intro w143 H
    replace H : Cx w0 fp0 S0 w143 [Bx b6 [(.int .i64 y134_0), (h137).v, (h139).v, (h141).v], E (List (Int × Int × List Int × List Int)) y134_1 h137, E (List Int) y134_2 h139, E (List Int) y134_3 h141, Bx b3 [(t__0h).v], Es (List (Int × Int × ByteArray)) t__0 t__0h] := H
    refine loadN [(.int .i64 y134_0), (h137).v, (h139).v, (h141).v] rfl (fun j u hj => H.bx 0 rfl hj) ?_
    replace H := H.sel [1, 0, 2, 3, 4, 5] rfl
    replace H := H.frz
    replace H := H.sel [2, 0, 1, 3, 4, 5] rfl
    replace H := H.frz
    replace H := H.sel [3, 0, 1, 2, 4, 5] rfl
    replace H := H.frz
    cases hF135
    exact ⟨_, _, rfl, ⟨h137, h139, h141, rfl, rfl⟩, (H.sel [2, 1, 0] rfl)⟩
theorem spec_hgMade_c (t__0 : List (Int × Int × ByteArray)) (t__0h : Hd) (y0_0 : Int) (y0_1 : List (Int × Int × List Int × List Int)) (y0_2 : List Int) (y0_3 : List Int) (y1 : Bool) (hF : F_spec_hgMade t__0 = some ((y0_0, y0_1, y0_2, y0_3), y1)) :
    ConS Try.prog 26 #[(.agg #[(t__0h).v])] [Es (List (Int × Int × ByteArray)) t__0 t__0h] [] (fun v Γ' => ∃ z0 z1 z2 : Hd, v = (.tuple #[(.agg #[(.int .i64 y0_0), (z0).v, (z1).v, (z2).v]), (.bool y1)]) ∧ Γ' = [Es (List (Int × Int × List Int × List Int)) y0_1 z0, Es (List Int) y0_2 z1, Es (List Int) y0_3 z2]) := spec_hgMade_cn _ t__0 t__0h y0_0 y0_1 y0_2 y0_3 y1 hF

theorem spec_rwSides_c (r__0 : ByteArray) (r__1_0 : List (Int × Int × ByteArray)) (r__1_0h : Hd) (r__2_0 : List (Int × Int × ByteArray)) (r__2_0h : Hd) (y0_0 : Int) (y0_1 : List (Int × Int × List Int × List Int)) (y0_2 : List Int) (y0_3 : List Int) (y1_0 : Int) (y1_1 : List (Int × Int × List Int × List Int)) (y1_2 : List Int) (y1_3 : List Int) (y2 : Bool) (hF : F_spec_rwSides (r__0, r__1_0, r__2_0) = some ((y0_0, y0_1, y0_2, y0_3), (y1_0, y1_1, y1_2, y1_3), y2)) :
    ConS Try.prog 15 #[(.agg #[(.string r__0), (r__1_0h).v, (r__2_0h).v])] [Es (List (Int × Int × ByteArray)) r__1_0 r__1_0h, Es (List (Int × Int × ByteArray)) r__2_0 r__2_0h] [] (fun v Γ' => ∃ z0 z1 z2 z3 z4 z5 : Hd, v = (.tuple #[(.agg #[(.int .i64 y0_0), (z0).v, (z1).v, (z2).v]), (.agg #[(.int .i64 y1_0), (z3).v, (z4).v, (z5).v]), (.bool y2)]) ∧ Γ' = [Es (List (Int × Int × List Int × List Int)) y0_1 z0, Es (List Int) y0_2 z1, Es (List Int) y0_3 z2, Es (List (Int × Int × List Int × List Int)) y1_1 z3, Es (List Int) y1_2 z4, Es (List Int) y1_3 z5]) := by
  intro w0 S0 fp0 hI hS
  have H : Cx w0 fp0 S0 w0 [Es (List (Int × Int × ByteArray)) r__1_0 r__1_0h, Es (List (Int × Int × ByteArray)) r__2_0 r__2_0h] := Cx.start hI hS
  clear hI hS
  refine enterC (args := [_]) gok Try.func15 rfl _ rfl rfl rfl ?_
  refine box_ H ?_; clear H; intro b4 w3 hx H
  clear hx
  replace H : Cx w0 fp0 S0 w3 [Bx b4 [(.string r__0), (r__1_0h).v, (r__2_0h).v], Es (List (Int × Int × ByteArray)) r__1_0 r__1_0h, Es (List (Int × Int × ByteArray)) r__2_0 r__2_0h] := H
  refine alloc_ gok rfl H ?_; clear H; intro b7 w6 hx H
  clear hx
  replace H : Cx w0 fp0 S0 w6 [Bx b7 [(.int .i64 0), (.slice none 0 0), (.slice none 0 0), (.slice none 0 0)], Bx b4 [(.string r__0), (r__1_0h).v, (r__2_0h).v], Es (List (Int × Int × ByteArray)) r__1_0 r__1_0h, Es (List (Int × Int × ByteArray)) r__2_0 r__2_0h] := H
  refine alloc_ gok rfl H ?_; clear H; intro b10 w9 hx H
  clear hx
  replace H : Cx w0 fp0 S0 w9 [Bx b10 [(.int .i64 0), (.slice none 0 0), (.slice none 0 0), (.slice none 0 0)], Bx b7 [(.int .i64 0), (.slice none 0 0), (.slice none 0 0), (.slice none 0 0)], Bx b4 [(.string r__0), (r__1_0h).v, (r__2_0h).v], Es (List (Int × Int × ByteArray)) r__1_0 r__1_0h, Es (List (Int × Int × ByteArray)) r__2_0 r__2_0h] := H
  refine fld gok rfl rfl rfl rfl ?_
  refine loadN [(r__1_0h).v] rfl (H.bxs 2 rfl 1 rfl) ?_
  obtain ⟨y12, e, hF13⟩ := bindS hF; clear hF
  obtain ⟨y12_0, y12_1, y12_2⟩ := y12
  have ey12 := e; clear e
  refine callF (spec_tmType_c r__1_0 r__1_0h y12_0 y12_1 y12_2 ey12) (Γi := []) H ⟨Vw.sh 3 rfl, trivial⟩ ?_; clear H ey12
  rintro _ _ w14 ⟨rfl, rfl⟩ (H : Cx w0 fp0 S0 w14 [Bx b10 [(.int .i64 0), (.slice none 0 0), (.slice none 0 0), (.slice none 0 0)], Bx b7 [(.int .i64 0), (.slice none 0 0), (.slice none 0 0), (.slice none 0 0)], Bx b4 [(.string r__0), (r__1_0h).v, (r__2_0h).v], Es (List (Int × Int × ByteArray)) r__1_0 r__1_0h, Es (List (Int × Int × ByteArray)) r__2_0 r__2_0h])
  refine fld gok rfl rfl rfl rfl ?_
  refine loadN [(r__2_0h).v] rfl (H.bxs 2 rfl 2 rfl) ?_
  obtain ⟨y15, e, hF16⟩ := bindS hF13; clear hF13
  obtain ⟨y15_0, y15_1, y15_2⟩ := y15
  have ey15 := e; clear e
  refine callF (spec_tmType_c r__2_0 r__2_0h y15_0 y15_1 y15_2 ey15) (Γi := []) H ⟨Vw.sh 4 rfl, trivial⟩ ?_; clear H ey15
  rintro _ _ w17 ⟨rfl, rfl⟩ (H : Cx w0 fp0 S0 w17 [Bx b10 [(.int .i64 0), (.slice none 0 0), (.slice none 0 0), (.slice none 0 0)], Bx b7 [(.int .i64 0), (.slice none 0 0), (.slice none 0 0), (.slice none 0 0)], Bx b4 [(.string r__0), (r__1_0h).v, (r__2_0h).v], Es (List (Int × Int × ByteArray)) r__1_0 r__1_0h, Es (List (Int × Int × ByteArray)) r__2_0 r__2_0h])
  refine sq ?_
  obtain ⟨r41, hF43, hF42⟩ := bindS hF16; clear hF16
  refine cut (fun (q44 : Bool) => [(1, (.pointer (some ⟨b4, 0, none⟩))), (2, (.pointer (some ⟨b7, 0, none⟩))), (3, (.pointer (some ⟨b10, 0, none⟩))), (50, (.bool q44))]) (fun (q44 : Bool) w' => q44 = r41 ∧ Cx w0 fp0 S0 w' [Bx b4 [(.string r__0), (r__1_0h).v, (r__2_0h).v], Es (List (Int × Int × ByteArray)) r__1_0 r__1_0h, Es (List (Int × Int × ByteArray)) r__2_0 r__2_0h, Bx b7 [(.int .i64 0), (.slice none 0 0), (.slice none 0 0), (.slice none 0 0)], Bx b10 [(.int .i64 0), (.slice none 0 0), (.slice none 0 0), (.slice none 0 0)]]) ?_ ?_
  · skip
    refine fld gok rfl rfl rfl rfl ?_
    refine load1 (H.bx 2 rfl (j := 0) rfl) ?_
    obtain ⟨y45, e, hF46⟩ := bindS hF43; clear hF43
    have ey45 := e; clear e
    refine callF (spec_lbName_c r__0 y45 ey45) (Γi := []) H trivial ?_; clear H ey45
    rintro _ _ w47 ⟨rfl, rfl⟩ (H : Cx w0 fp0 S0 w47 [Bx b10 [(.int .i64 0), (.slice none 0 0), (.slice none 0 0), (.slice none 0 0)], Bx b7 [(.int .i64 0), (.slice none 0 0), (.slice none 0 0), (.slice none 0 0)], Bx b4 [(.string r__0), (r__1_0h).v, (r__2_0h).v], Es (List (Int × Int × ByteArray)) r__1_0 r__1_0h, Es (List (Int × Int × ByteArray)) r__2_0 r__2_0h])
    obtain ⟨a48, e, hF49⟩ := bindS hF46; clear hF46
    refine boolO e ?_; clear e
    cases a48
    · have hF50 := condF hF49; clear hF49
      obtain ⟨a51, e, hF52⟩ := bindS hF50; clear hF50
      refine boolO e ?_; clear e
      cases a51
      · have hF53 := condF hF52; clear hF52
        obtain ⟨a54, e, hF55⟩ := bindS hF53; clear hF53
        refine boolO e ?_; clear e
        cases a54
        · have hF56 := condF hF55; clear hF55
          obtain ⟨a57, e, hF58⟩ := bindS hF56; clear hF56
          refine boolO e ?_; clear e
          cases a57
          · have hF59 := condF hF58; clear hF58
            obtain ⟨a60, e, hF61⟩ := bindS hF59; clear hF59
            refine boolO e ?_; clear e
            exact ⟨a60, ⟨rfl, rfl, rfl, rfl, trivial⟩, Option.some.inj hF61, H.sel [2, 3, 4, 1, 0] rfl⟩
          · have hF62 := condT hF58; clear hF58
            exact ⟨true, ⟨rfl, rfl, rfl, rfl, trivial⟩, Option.some.inj hF62, H.sel [2, 3, 4, 1, 0] rfl⟩
        · have hF63 := condT hF55; clear hF55
          exact ⟨true, ⟨rfl, rfl, rfl, rfl, trivial⟩, Option.some.inj hF63, H.sel [2, 3, 4, 1, 0] rfl⟩
      · have hF64 := condT hF52; clear hF52
        exact ⟨true, ⟨rfl, rfl, rfl, rfl, trivial⟩, Option.some.inj hF64, H.sel [2, 3, 4, 1, 0] rfl⟩
    · have hF65 := condT hF49; clear hF49
      exact ⟨true, ⟨rfl, rfl, rfl, rfl, trivial⟩, Option.some.inj hF65, H.sel [2, 3, 4, 1, 0] rfl⟩
  · clear hF43 H
    rintro T67 s39 w66 ⟨hr, (H : Cx w0 fp0 S0 w66 [Bx b4 [(.string r__0), (r__1_0h).v, (r__2_0h).v], Es (List (Int × Int × ByteArray)) r__1_0 r__1_0h, Es (List (Int × Int × ByteArray)) r__2_0 r__2_0h, Bx b7 [(.int .i64 0), (.slice none 0 0), (.slice none 0 0), (.slice none 0 0)], Bx b10 [(.int .i64 0), (.slice none 0 0), (.slice none 0 0), (.slice none 0 0)]])⟩
    subst hr
    cases s39
    · have hF68 := condF hF42; clear hF42
      refine fld gok rfl rfl rfl rfl ?_
      refine loadN [(r__1_0h).v] rfl (H.bxs 0 rfl 1 rfl) ?_
      obtain ⟨y69, e, hF70⟩ := bindS hF68; clear hF68
      obtain ⟨⟨y69_0_0, y69_0_1, y69_0_2, y69_0_3⟩, y69_1⟩ := y69
      have ey69 := e; clear e
      refine callS (spec_hgMade_c r__1_0 r__1_0h y69_0_0 y69_0_1 y69_0_2 y69_0_3 y69_1 ey69) (Γi := []) H [1] rfl (persC persS persN) ?_; clear H ey69
      rintro _ _ w71 ⟨h72, h74, h76, rfl, rfl⟩ (H : Cx w0 fp0 S0 w71 [Es (List (Int × Int × List Int × List Int)) y69_0_1 h72, Es (List Int) y69_0_2 h74, Es (List Int) y69_0_3 h76, Bx b4 [(.string r__0), (r__1_0h).v, (r__2_0h).v], Es (List (Int × Int × ByteArray)) r__1_0 r__1_0h, Es (List (Int × Int × ByteArray)) r__2_0 r__2_0h, Bx b7 [(.int .i64 0), (.slice none 0 0), (.slice none 0 0), (.slice none 0 0)], Bx b10 [(.int .i64 0), (.slice none 0 0), (.slice none 0 0), (.slice none 0 0)]])
      refine alloc_ gok rfl H ?_; clear H; intro b79 w78 hx H
      clear hx
      replace H : Cx w0 fp0 S0 w78 [Bx b79 [(.int .i64 0), (.slice none 0 0), (.slice none 0 0), (.slice none 0 0)], Es (List (Int × Int × List Int × List Int)) y69_0_1 h72, Es (List Int) y69_0_2 h74, Es (List Int) y69_0_3 h76, Bx b4 [(.string r__0), (r__1_0h).v, (r__2_0h).v], Es (List (Int × Int × ByteArray)) r__1_0 r__1_0h, Es (List (Int × Int × ByteArray)) r__2_0 r__2_0h, Bx b7 [(.int .i64 0), (.slice none 0 0), (.slice none 0 0), (.slice none 0 0)], Bx b10 [(.int .i64 0), (.slice none 0 0), (.slice none 0 0), (.slice none 0 0)]] := H
      refine stA gok [(.int .i64 y69_0_0), (h72).v, (h74).v, (h76).v] rfl H rfl rfl rfl ?_; clear H; intro w81 H
      replace H : Cx w0 fp0 S0 w81 [Bx b79 [(.int .i64 y69_0_0), (h72).v, (h74).v, (h76).v], Es (List (Int × Int × List Int × List Int)) y69_0_1 h72, Es (List Int) y69_0_2 h74, Es (List Int) y69_0_3 h76, Bx b4 [(.string r__0), (r__1_0h).v, (r__2_0h).v], Es (List (Int × Int × ByteArray)) r__1_0 r__1_0h, Es (List (Int × Int × ByteArray)) r__2_0 r__2_0h, Bx b7 [(.int .i64 0), (.slice none 0 0), (.slice none 0 0), (.slice none 0 0)], Bx b10 [(.int .i64 0), (.slice none 0 0), (.slice none 0 0), (.slice none 0 0)]] := H
      refine fld gok rfl rfl rfl rfl ?_
      refine loadN [(r__2_0h).v] rfl (H.bxs 4 rfl 2 rfl) ?_
      obtain ⟨y82, e, hF83⟩ := bindS hF70; clear hF70
      obtain ⟨⟨y82_0_0, y82_0_1, y82_0_2, y82_0_3⟩, y82_1⟩ := y82
      have ey82 := e; clear e
      refine callS (spec_hgMade_c r__2_0 r__2_0h y82_0_0 y82_0_1 y82_0_2 y82_0_3 y82_1 ey82) (Γi := []) H [6] rfl (persC persS persN) ?_; clear H ey82
      rintro _ _ w84 ⟨h85, h87, h89, rfl, rfl⟩ (H : Cx w0 fp0 S0 w84 [Es (List (Int × Int × List Int × List Int)) y82_0_1 h85, Es (List Int) y82_0_2 h87, Es (List Int) y82_0_3 h89, Bx b79 [(.int .i64 y69_0_0), (h72).v, (h74).v, (h76).v], Es (List (Int × Int × List Int × List Int)) y69_0_1 h72, Es (List Int) y69_0_2 h74, Es (List Int) y69_0_3 h76, Bx b4 [(.string r__0), (r__1_0h).v, (r__2_0h).v], Es (List (Int × Int × ByteArray)) r__1_0 r__1_0h, Es (List (Int × Int × ByteArray)) r__2_0 r__2_0h, Bx b7 [(.int .i64 0), (.slice none 0 0), (.slice none 0 0), (.slice none 0 0)], Bx b10 [(.int .i64 0), (.slice none 0 0), (.slice none 0 0), (.slice none 0 0)]])
      refine alloc_ gok rfl H ?_; clear H; intro b92 w91 hx H
      clear hx
      replace H : Cx w0 fp0 S0 w91 [Bx b92 [(.int .i64 0), (.slice none 0 0), (.slice none 0 0), (.slice none 0 0)], Es (List (Int × Int × List Int × List Int)) y82_0_1 h85, Es (List Int) y82_0_2 h87, Es (List Int) y82_0_3 h89, Bx b79 [(.int .i64 y69_0_0), (h72).v, (h74).v, (h76).v], Es (List (Int × Int × List Int × List Int)) y69_0_1 h72, Es (List Int) y69_0_2 h74, Es (List Int) y69_0_3 h76, Bx b4 [(.string r__0), (r__1_0h).v, (r__2_0h).v], Es (List (Int × Int × ByteArray)) r__1_0 r__1_0h, Es (List (Int × Int × ByteArray)) r__2_0 r__2_0h, Bx b7 [(.int .i64 0), (.slice none 0 0), (.slice none 0 0), (.slice none 0 0)], Bx b10 [(.int .i64 0), (.slice none 0 0), (.slice none 0 0), (.slice none 0 0)]] := H
      refine stA gok [(.int .i64 y82_0_0), (h85).v, (h87).v, (h89).v] rfl H rfl rfl rfl ?_; clear H; intro w94 H
      replace H : Cx w0 fp0 S0 w94 [Bx b92 [(.int .i64 y82_0_0), (h85).v, (h87).v, (h89).v], Es (List (Int × Int × List Int × List Int)) y82_0_1 h85, Es (List Int) y82_0_2 h87, Es (List Int) y82_0_3 h89, Bx b79 [(.int .i64 y69_0_0), (h72).v, (h74).v, (h76).v], Es (List (Int × Int × List Int × List Int)) y69_0_1 h72, Es (List Int) y69_0_2 h74, Es (List Int) y69_0_3 h76, Bx b4 [(.string r__0), (r__1_0h).v, (r__2_0h).v], Es (List (Int × Int × ByteArray)) r__1_0 r__1_0h, Es (List (Int × Int × ByteArray)) r__2_0 r__2_0h, Bx b7 [(.int .i64 0), (.slice none 0 0), (.slice none 0 0), (.slice none 0 0)], Bx b10 [(.int .i64 0), (.slice none 0 0), (.slice none 0 0), (.slice none 0 0)]] := H
      obtain ⟨r110, hF112, hF111⟩ := bindS hF83; clear hF83
      refine cut (fun (q113 : (Int × (List (Int × Int × List Int × List Int)) × List Int × List Int × Int × (List (Int × Int × List Int × List Int)) × List Int × List Int × Bool) × (Hd × Hd × Hd × Hd × Hd × Hd)) => [(2, (.pointer (some ⟨b7, 0, none⟩))), (3, (.pointer (some ⟨b10, 0, none⟩))), (4, (.bool q113.1.2.2.2.2.2.2.2.2))]) (fun (q113 : (Int × (List (Int × Int × List Int × List Int)) × List Int × List Int × Int × (List (Int × Int × List Int × List Int)) × List Int × List Int × Bool) × (Hd × Hd × Hd × Hd × Hd × Hd)) w' => (q113.1.1, q113.1.2.1, q113.1.2.2.1, q113.1.2.2.2.1, q113.1.2.2.2.2.1, q113.1.2.2.2.2.2.1, q113.1.2.2.2.2.2.2.1, q113.1.2.2.2.2.2.2.2.1, q113.1.2.2.2.2.2.2.2.2) = r110 ∧ Cx w0 fp0 S0 w' [Bx b7 [(.int .i64 q113.1.2.2.2.2.1), (q113.2.2.2.2.1).v, (q113.2.2.2.2.2.1).v, (q113.2.2.2.2.2.2).v], Es (List (Int × Int × List Int × List Int)) q113.1.2.2.2.2.2.1 q113.2.2.2.2.1, Es (List Int) q113.1.2.2.2.2.2.2.1 q113.2.2.2.2.2.1, Es (List Int) q113.1.2.2.2.2.2.2.2.1 q113.2.2.2.2.2.2, Bx b10 [(.int .i64 q113.1.1), (q113.2.1).v, (q113.2.2.1).v, (q113.2.2.2.1).v], Es (List (Int × Int × List Int × List Int)) q113.1.2.1 q113.2.1, Es (List Int) q113.1.2.2.1 q113.2.2.1, Es (List Int) q113.1.2.2.2.1 q113.2.2.2.1]) ?_ ?_
      · skip
        refine heldX H [6, 7, 8, 1, 4, 5] (.pure 1 (.fst 2 (.fst 3 (.pure 4 (.pure 5 (.fst 0 (.act 6 (.act 7 (.act 8 .done))))))))) mixed [((Addr.add ⟨b92, 0, none⟩ 0), (.int .i64 y82_0_0)), ((Addr.add ⟨b92, 0, none⟩ 1), (h85).v), ((Addr.add ⟨b92, 0, none⟩ 2), (h87).v), ((Addr.add ⟨b92, 0, none⟩ 3), (h89).v)] ⟨H.bx 0 rfl (j := 0) rfl, H.bx 0 rfl (j := 1) rfl, H.bx 0 rfl (j := 2) rfl, H.bx 0 rfl (j := 3) rfl, trivial⟩ (by kernel_rfl) ?_
        clear H; intro w114 H
        have hX : Ext w114 w114 := Upd.refl _ _
        have H0 := H
        refine loadNW 0 [(.int .i64 y82_0_0), (h85).v, (h87).v, (h89).v] rfl ⟨rfl, rfl, rfl, rfl, trivial⟩ ?_
        cases y69_1
        · have hF115 := condF hF112; clear hF112
          refine loadNX [(.int .i64 y69_0_0), (h72).v, (h74).v, (h76).v] rfl (fun j u hj => H.bx 4 rfl hj) ?_
          replace H := H.sel [11, 0, 1, 2, 3, 4, 5, 6, 7, 8, 9, 10, 12] rfl
          refine stA gok [(.int .i64 y69_0_0), (h72).v, (h74).v, (h76).v] rfl H rfl rfl rfl ?_; clear H; intro w116 H
          replace H : Cx w0 fp0 S0 w116 [Bx b7 [(.int .i64 y69_0_0), (h72).v, (h74).v, (h76).v], Bx b92 [(.int .i64 y82_0_0), (h85).v, (h87).v, (h89).v], Es (List (Int × Int × List Int × List Int)) y82_0_1 h85, Es (List Int) y82_0_2 h87, Es (List Int) y82_0_3 h89, Bx b79 [(.int .i64 y69_0_0), (h72).v, (h74).v, (h76).v], Es (List (Int × Int × List Int × List Int)) y69_0_1 h72, Es (List Int) y69_0_2 h74, Es (List Int) y69_0_3 h76, Bx b4 [(.string r__0), (r__1_0h).v, (r__2_0h).v], Es (List (Int × Int × ByteArray)) r__1_0 r__1_0h, Es (List (Int × Int × ByteArray)) r__2_0 r__2_0h, Bx b10 [(.int .i64 0), (.slice none 0 0), (.slice none 0 0), (.slice none 0 0)]] := H
          refine hold ⟨H.bx 1 rfl (j := 0) rfl, H.bx 1 rfl (j := 1) rfl, H.bx 1 rfl (j := 2) rfl, H.bx 1 rfl (j := 3) rfl, trivial⟩ ?_
          replace H := H.sel [12, 0, 1, 2, 3, 4, 5, 6, 7, 8, 9, 10, 11] rfl
          refine stA gok [(.int .i64 y82_0_0), (h85).v, (h87).v, (h89).v] rfl H rfl rfl rfl ?_; clear H; intro w117 H
          replace H : Cx w0 fp0 S0 w117 [Bx b10 [(.int .i64 y82_0_0), (h85).v, (h87).v, (h89).v], Bx b7 [(.int .i64 y69_0_0), (h72).v, (h74).v, (h76).v], Bx b92 [(.int .i64 y82_0_0), (h85).v, (h87).v, (h89).v], Es (List (Int × Int × List Int × List Int)) y82_0_1 h85, Es (List Int) y82_0_2 h87, Es (List Int) y82_0_3 h89, Bx b79 [(.int .i64 y69_0_0), (h72).v, (h74).v, (h76).v], Es (List (Int × Int × List Int × List Int)) y69_0_1 h72, Es (List Int) y69_0_2 h74, Es (List Int) y69_0_3 h76, Bx b4 [(.string r__0), (r__1_0h).v, (r__2_0h).v], Es (List (Int × Int × ByteArray)) r__1_0 r__1_0h, Es (List (Int × Int × ByteArray)) r__2_0 r__2_0h] := H
          refine hold ⟨H.bx 2 rfl (j := 0) rfl, H.bx 2 rfl (j := 1) rfl, H.bx 2 rfl (j := 2) rfl, H.bx 2 rfl (j := 3) rfl, trivial⟩ ?_
          refine hold ⟨H.bx 2 rfl (j := 0) rfl, H.bx 2 rfl (j := 1) rfl, H.bx 2 rfl (j := 2) rfl, H.bx 2 rfl (j := 3) rfl, trivial⟩ ?_
          exact ⟨((y82_0_0, y82_0_1, y82_0_2, y82_0_3, y69_0_0, y69_0_1, y69_0_2, y69_0_3, false), (h85, h87, h89, h72, h74, h76)), ⟨rfl, rfl, rfl, trivial⟩, Option.some.inj hF115, H.sel [1, 7, 8, 9, 0, 3, 4, 5] rfl⟩
        · have hF118 := condT hF112; clear hF112
          refine loadNX [(.int .i64 y69_0_0), (h72).v, (h74).v, (h76).v] rfl (fun j u hj => H.bx 4 rfl hj) ?_
          replace H := H.sel [11, 0, 1, 2, 3, 4, 5, 6, 7, 8, 9, 10, 12] rfl
          refine stA gok [(.int .i64 y69_0_0), (h72).v, (h74).v, (h76).v] rfl H rfl rfl rfl ?_; clear H; intro w119 H
          replace H : Cx w0 fp0 S0 w119 [Bx b7 [(.int .i64 y69_0_0), (h72).v, (h74).v, (h76).v], Bx b92 [(.int .i64 y82_0_0), (h85).v, (h87).v, (h89).v], Es (List (Int × Int × List Int × List Int)) y82_0_1 h85, Es (List Int) y82_0_2 h87, Es (List Int) y82_0_3 h89, Bx b79 [(.int .i64 y69_0_0), (h72).v, (h74).v, (h76).v], Es (List (Int × Int × List Int × List Int)) y69_0_1 h72, Es (List Int) y69_0_2 h74, Es (List Int) y69_0_3 h76, Bx b4 [(.string r__0), (r__1_0h).v, (r__2_0h).v], Es (List (Int × Int × ByteArray)) r__1_0 r__1_0h, Es (List (Int × Int × ByteArray)) r__2_0 r__2_0h, Bx b10 [(.int .i64 0), (.slice none 0 0), (.slice none 0 0), (.slice none 0 0)]] := H
          refine hold ⟨H.bx 1 rfl (j := 0) rfl, H.bx 1 rfl (j := 1) rfl, H.bx 1 rfl (j := 2) rfl, H.bx 1 rfl (j := 3) rfl, trivial⟩ ?_
          replace H := H.sel [12, 0, 1, 2, 3, 4, 5, 6, 7, 8, 9, 10, 11] rfl
          refine stA gok [(.int .i64 y82_0_0), (h85).v, (h87).v, (h89).v] rfl H rfl rfl rfl ?_; clear H; intro w120 H
          replace H : Cx w0 fp0 S0 w120 [Bx b10 [(.int .i64 y82_0_0), (h85).v, (h87).v, (h89).v], Bx b7 [(.int .i64 y69_0_0), (h72).v, (h74).v, (h76).v], Bx b92 [(.int .i64 y82_0_0), (h85).v, (h87).v, (h89).v], Es (List (Int × Int × List Int × List Int)) y82_0_1 h85, Es (List Int) y82_0_2 h87, Es (List Int) y82_0_3 h89, Bx b79 [(.int .i64 y69_0_0), (h72).v, (h74).v, (h76).v], Es (List (Int × Int × List Int × List Int)) y69_0_1 h72, Es (List Int) y69_0_2 h74, Es (List Int) y69_0_3 h76, Bx b4 [(.string r__0), (r__1_0h).v, (r__2_0h).v], Es (List (Int × Int × ByteArray)) r__1_0 r__1_0h, Es (List (Int × Int × ByteArray)) r__2_0 r__2_0h] := H
          refine hold ⟨H.bx 2 rfl (j := 0) rfl, H.bx 2 rfl (j := 1) rfl, H.bx 2 rfl (j := 2) rfl, H.bx 2 rfl (j := 3) rfl, trivial⟩ ?_
          refine hold ⟨H.bx 2 rfl (j := 0) rfl, H.bx 2 rfl (j := 1) rfl, H.bx 2 rfl (j := 2) rfl, H.bx 2 rfl (j := 3) rfl, trivial⟩ ?_
          exact ⟨((y82_0_0, y82_0_1, y82_0_2, y82_0_3, y69_0_0, y69_0_1, y69_0_2, y69_0_3, y82_1), (h85, h87, h89, h72, h74, h76)), ⟨rfl, rfl, rfl, trivial⟩, Option.some.inj hF118, H.sel [1, 7, 8, 9, 0, 3, 4, 5] rfl⟩
      · clear hF112 H
        rintro T122 ⟨⟨s102_0, s102_1, s102_2, s102_3, s102_4, s102_5, s102_6, s102_7, s102_8⟩, ⟨g103_0, g103_1, g103_2, g103_3, g103_4, g103_5⟩⟩ w121 ⟨hr, (H : Cx w0 fp0 S0 w121 [Bx b7 [(.int .i64 s102_4), (g103_3).v, (g103_4).v, (g103_5).v], Es (List (Int × Int × List Int × List Int)) s102_5 g103_3, Es (List Int) s102_6 g103_4, Es (List Int) s102_7 g103_5, Bx b10 [(.int .i64 s102_0), (g103_0).v, (g103_1).v, (g103_2).v], Es (List (Int × Int × List Int × List Int)) s102_1 g103_0, Es (List Int) s102_2 g103_1, Es (List Int) s102_3 g103_2])⟩
        subst hr
        refine loadN [(.int .i64 s102_4), (g103_3).v, (g103_4).v, (g103_5).v] rfl (fun j u hj => H.bx 0 rfl hj) ?_
        refine loadN [(.int .i64 s102_0), (g103_0).v, (g103_1).v, (g103_2).v] rfl (fun j u hj => H.bx 4 rfl hj) ?_
        cases hF111
        exact ⟨_, _, rfl, ⟨g103_3, g103_4, g103_5, g103_0, g103_1, g103_2, rfl, rfl⟩, (H.sel [1, 2, 3, 5, 6, 7] rfl)⟩
    · have hF123 := condT hF42; clear hF42
      refine build_ (cs := #[(.int .i64 0), (.slice none 0 0), (.slice none 0 0), (.slice none 0 0)]) gok rfl rfl rfl ?_
      refine build_ (cs := #[(.int .i64 0), (.slice none 0 0), (.slice none 0 0), (.slice none 0 0)]) gok rfl rfl rfl ?_
      replace H := H.sel [3, 0, 1, 2, 4] rfl
      refine stA gok [(.int .i64 0), (.slice none 0 0), (.slice none 0 0), (.slice none 0 0)] rfl H rfl rfl rfl ?_; clear H; intro w124 H
      replace H : Cx w0 fp0 S0 w124 [Bx b7 [(.int .i64 0), (.slice none 0 0), (.slice none 0 0), (.slice none 0 0)], Bx b4 [(.string r__0), (r__1_0h).v, (r__2_0h).v], Es (List (Int × Int × ByteArray)) r__1_0 r__1_0h, Es (List (Int × Int × ByteArray)) r__2_0 r__2_0h, Bx b10 [(.int .i64 0), (.slice none 0 0), (.slice none 0 0), (.slice none 0 0)]] := H
      replace H := H.sel [4, 0, 1, 2, 3] rfl
      refine stA gok [(.int .i64 0), (.slice none 0 0), (.slice none 0 0), (.slice none 0 0)] rfl H rfl rfl rfl ?_; clear H; intro w125 H
      replace H : Cx w0 fp0 S0 w125 [Bx b10 [(.int .i64 0), (.slice none 0 0), (.slice none 0 0), (.slice none 0 0)], Bx b7 [(.int .i64 0), (.slice none 0 0), (.slice none 0 0), (.slice none 0 0)], Bx b4 [(.string r__0), (r__1_0h).v, (r__2_0h).v], Es (List (Int × Int × ByteArray)) r__1_0 r__1_0h, Es (List (Int × Int × ByteArray)) r__2_0 r__2_0h] := H
      refine loadN [(.int .i64 0), (.slice none 0 0), (.slice none 0 0), (.slice none 0 0)] rfl (fun j u hj => H.bx 1 rfl hj) ?_
      refine loadN [(.int .i64 0), (.slice none 0 0), (.slice none 0 0), (.slice none 0 0)] rfl (fun j u hj => H.bx 0 rfl hj) ?_
      replace H := H.nil (α := Int × Int × List Int × List Int)
      replace H := H.frz
      replace H := H.nil (α := Int)
      replace H := H.frz
      replace H := H.nil (α := Int)
      replace H := H.frz
      replace H := H.nil (α := Int × Int × List Int × List Int)
      replace H := H.frz
      replace H := H.nil (α := Int)
      replace H := H.frz
      replace H := H.nil (α := Int)
      replace H := H.frz
      cases hF123
      exact ⟨_, _, rfl, ⟨nilH, nilH, nilH, nilH, nilH, nilH, rfl, rfl⟩, (H.sel [5, 4, 3, 2, 1, 0] rfl)⟩

theorem spec_dvRules_c (rules_ : List (ByteArray × (List (Int × Int × ByteArray)) × (List (Int × Int × ByteArray)))) (rules_h : Hd) (y : Bool) (hF : F_spec_dvRules rules_ = some y) :
    ConF Try.prog 10 #[(rules_h).v] [Es (List (ByteArray × (List (Int × Int × ByteArray)) × (List (Int × Int × ByteArray)))) rules_ rules_h] [] (fun v Γ' => v = (.bool y) ∧ Γ' = []) := by
  intro w0 S0 fp0 hI hS
  have H : Cx w0 fp0 S0 w0 [Es (List (ByteArray × (List (Int × Int × ByteArray)) × (List (Int × Int × ByteArray)))) rules_ rules_h] := Cx.start hI hS
  clear hI hS
  refine enterC (args := [_]) gok Try.func10 rfl _ rfl rfl rfl ?_
  refine sq ?_
  refine lenE (H.rs (α := List (ByteArray × (List (Int × Int × ByteArray)) × (List (Int × Int × ByteArray)))) 0 rfl).len ?_
  have hmx143 := (H.rs (α := List (ByteArray × (List (Int × Int × ByteArray)) × (List (Int × Int × ByteArray)))) 0 rfl).max
  obtain ⟨r144, e, hF145⟩ := bindS hF; clear hF
  refine loopO _ rules_.length (fun (k2 : Nat) (_ : Unit) (_ : Unit) => [(0, (rules_h).v), (10, (rules_h).v), (11, (.int .i64 ((rules_.length : Nat) : Int))), (12, (.int .i64 ((k2 : Nat) : Int)))]) (fun _ (_ : Unit) (_ : Unit) w' => Cx w0 fp0 S0 w' [Es (List (ByteArray × (List (Int × Int × ByteArray)) × (List (Int × Int × ByteArray)))) rules_ rules_h]) () () e ⟨rfl, rfl, rfl, rfl, trivial⟩ (H.sel [0] rfl) ?_ ?_
  · clear H e
    rintro T147 k2 _ _ w146 o148 hk (H : Cx w0 fp0 S0 w146 [Es (List (ByteArray × (List (Int × Int × ByteArray)) × (List (Int × Int × ByteArray)))) rules_ rules_h]) hrt hF149
    refine boolE (z := true) (ltLen hk) ?_
    refine sq ?_
    refine sq ?_
    obtain ⟨a156, e, hF157⟩ := bindS hF149; clear hF149
    have HH := H; clear H; obtain ⟨p154, m155, g158, c150, c151, c152, c153, H⟩ := HH.el (α := ByteArray × (List (Int × Int × ByteArray)) × (List (Int × Int × ByteArray))) 0 rfl e; clear HH
    clear e
    obtain ⟨a156_0, a156_1_0, a156_2_0⟩ := a156
    obtain ⟨_, h160, h161⟩ := g158
    replace H := H.part (β := List (Int × Int × ByteArray)) a156_1_0 (h160 : Hd) 0 rfl (fun S h => (And.left (And.right h)))
    replace H := H.part (β := List (Int × Int × ByteArray)) a156_2_0 (h161 : Hd) 1 rfl (fun S h => (And.right (And.right h)))
    replace H := H.sel [0, 1, 3] rfl
    refine idxE c150 c151 c152 ?_; clear c150 c151 c152
    refine loadN [(.string a156_0), (h160).v, (h161).v] rfl c153 ?_; clear c153
    refine alloc_ gok rfl H ?_; clear H; intro b165 w164 hx H
    clear hx
    replace H : Cx w0 fp0 S0 w164 [Bx b165 [(.string .empty), (.slice none 0 0), (.slice none 0 0)], Es (List (Int × Int × ByteArray)) a156_2_0 h161, Es (List (Int × Int × ByteArray)) a156_1_0 h160, Es (List (ByteArray × (List (Int × Int × ByteArray)) × (List (Int × Int × ByteArray)))) rules_ rules_h] := H
    refine stA gok [(.string a156_0), (h160).v, (h161).v] rfl H rfl rfl rfl ?_; clear H; intro w167 H
    replace H : Cx w0 fp0 S0 w167 [Bx b165 [(.string a156_0), (h160).v, (h161).v], Es (List (Int × Int × ByteArray)) a156_2_0 h161, Es (List (Int × Int × ByteArray)) a156_1_0 h160, Es (List (ByteArray × (List (Int × Int × ByteArray)) × (List (Int × Int × ByteArray)))) rules_ rules_h] := H
    refine loadN [(.string a156_0), (h160).v, (h161).v] rfl (fun j u hj => H.bx 0 rfl hj) ?_
    obtain ⟨y168, e, hF169⟩ := bindS hF157; clear hF157
    obtain ⟨⟨y168_0_0, y168_0_1, y168_0_2, y168_0_3⟩, ⟨y168_1_0, y168_1_1, y168_1_2, y168_1_3⟩, y168_2⟩ := y168
    have ey168 := e; clear e
    refine callS (spec_rwSides_c a156_0 a156_1_0 h160 a156_2_0 h161 y168_0_0 y168_0_1 y168_0_2 y168_0_3 y168_1_0 y168_1_1 y168_1_2 y168_1_3 y168_2 ey168) (Γi := []) H [2, 1] rfl (persC persS (persC persS persN)) ?_; clear H ey168
    rintro _ _ w170 ⟨h171, h173, h175, h177, h179, h181, rfl, rfl⟩ (H : Cx w0 fp0 S0 w170 [Es (List (Int × Int × List Int × List Int)) y168_0_1 h171, Es (List Int) y168_0_2 h173, Es (List Int) y168_0_3 h175, Es (List (Int × Int × List Int × List Int)) y168_1_1 h177, Es (List Int) y168_1_2 h179, Es (List Int) y168_1_3 h181, Bx b165 [(.string a156_0), (h160).v, (h161).v], Es (List (Int × Int × ByteArray)) a156_2_0 h161, Es (List (Int × Int × ByteArray)) a156_1_0 h160, Es (List (ByteArray × (List (Int × Int × ByteArray)) × (List (Int × Int × ByteArray)))) rules_ rules_h])
    refine alloc_ gok rfl H ?_; clear H; intro b184 w183 hx H
    clear hx
    replace H : Cx w0 fp0 S0 w183 [Bx b184 [(.int .i64 0), (.slice none 0 0), (.slice none 0 0), (.slice none 0 0)], Es (List (Int × Int × List Int × List Int)) y168_0_1 h171, Es (List Int) y168_0_2 h173, Es (List Int) y168_0_3 h175, Es (List (Int × Int × List Int × List Int)) y168_1_1 h177, Es (List Int) y168_1_2 h179, Es (List Int) y168_1_3 h181, Bx b165 [(.string a156_0), (h160).v, (h161).v], Es (List (Int × Int × ByteArray)) a156_2_0 h161, Es (List (Int × Int × ByteArray)) a156_1_0 h160, Es (List (ByteArray × (List (Int × Int × ByteArray)) × (List (Int × Int × ByteArray)))) rules_ rules_h] := H
    refine alloc_ gok rfl H ?_; clear H; intro b187 w186 hx H
    clear hx
    replace H : Cx w0 fp0 S0 w186 [Bx b187 [(.int .i64 0), (.slice none 0 0), (.slice none 0 0), (.slice none 0 0)], Bx b184 [(.int .i64 0), (.slice none 0 0), (.slice none 0 0), (.slice none 0 0)], Es (List (Int × Int × List Int × List Int)) y168_0_1 h171, Es (List Int) y168_0_2 h173, Es (List Int) y168_0_3 h175, Es (List (Int × Int × List Int × List Int)) y168_1_1 h177, Es (List Int) y168_1_2 h179, Es (List Int) y168_1_3 h181, Bx b165 [(.string a156_0), (h160).v, (h161).v], Es (List (Int × Int × ByteArray)) a156_2_0 h161, Es (List (Int × Int × ByteArray)) a156_1_0 h160, Es (List (ByteArray × (List (Int × Int × ByteArray)) × (List (Int × Int × ByteArray)))) rules_ rules_h] := H
    replace H := H.sel [1, 0, 2, 3, 4, 5, 6, 7, 8, 9, 10, 11] rfl
    refine stA gok [(.int .i64 y168_0_0), (h171).v, (h173).v, (h175).v] rfl H rfl rfl rfl ?_; clear H; intro w189 H
    replace H : Cx w0 fp0 S0 w189 [Bx b184 [(.int .i64 y168_0_0), (h171).v, (h173).v, (h175).v], Bx b187 [(.int .i64 0), (.slice none 0 0), (.slice none 0 0), (.slice none 0 0)], Es (List (Int × Int × List Int × List Int)) y168_0_1 h171, Es (List Int) y168_0_2 h173, Es (List Int) y168_0_3 h175, Es (List (Int × Int × List Int × List Int)) y168_1_1 h177, Es (List Int) y168_1_2 h179, Es (List Int) y168_1_3 h181, Bx b165 [(.string a156_0), (h160).v, (h161).v], Es (List (Int × Int × ByteArray)) a156_2_0 h161, Es (List (Int × Int × ByteArray)) a156_1_0 h160, Es (List (ByteArray × (List (Int × Int × ByteArray)) × (List (Int × Int × ByteArray)))) rules_ rules_h] := H
    replace H := H.sel [1, 0, 2, 3, 4, 5, 6, 7, 8, 9, 10, 11] rfl
    refine stA gok [(.int .i64 y168_1_0), (h177).v, (h179).v, (h181).v] rfl H rfl rfl rfl ?_; clear H; intro w190 H
    replace H : Cx w0 fp0 S0 w190 [Bx b187 [(.int .i64 y168_1_0), (h177).v, (h179).v, (h181).v], Bx b184 [(.int .i64 y168_0_0), (h171).v, (h173).v, (h175).v], Es (List (Int × Int × List Int × List Int)) y168_0_1 h171, Es (List Int) y168_0_2 h173, Es (List Int) y168_0_3 h175, Es (List (Int × Int × List Int × List Int)) y168_1_1 h177, Es (List Int) y168_1_2 h179, Es (List Int) y168_1_3 h181, Bx b165 [(.string a156_0), (h160).v, (h161).v], Es (List (Int × Int × ByteArray)) a156_2_0 h161, Es (List (Int × Int × ByteArray)) a156_1_0 h160, Es (List (ByteArray × (List (Int × Int × ByteArray)) × (List (Int × Int × ByteArray)))) rules_ rules_h] := H
    refine sq ?_
    obtain ⟨r203, hF205, hF204⟩ := bindS hF169; clear hF169
    refine cut (fun (q206 : Bool) => [(0, (rules_h).v), (3, (.int .i64 ((k2 : Nat) : Int))), (4, (.pointer (some ⟨b165, 0, none⟩))), (10, (rules_h).v), (11, (.int .i64 ((rules_.length : Nat) : Int))), (12, (.int .i64 ((k2 : Nat) : Int))), (36, (.bool q206))]) (fun (q206 : Bool) w' => q206 = r203 ∧ Cx w0 fp0 S0 w' [Es (List (ByteArray × (List (Int × Int × ByteArray)) × (List (Int × Int × ByteArray)))) rules_ rules_h, Bx b165 [(.string a156_0), (h160).v, (h161).v], Es (List (Int × Int × ByteArray)) a156_1_0 h160, Es (List (Int × Int × ByteArray)) a156_2_0 h161]) ?_ ?_
    · skip
      obtain ⟨a207, e, hF208⟩ := bindS hF205; clear hF205
      refine boolO e ?_; clear e
      cases a207
      · have hF209 := condF hF208; clear hF208
        refine fld gok rfl rfl rfl rfl ?_
        refine load1 (H.bx 1 rfl (j := 1) rfl) ?_
        refine lenE (H.rs (α := List (Int × Int × List Int × List Int)) 2 rfl).len ?_
        obtain ⟨a210, e, hF211⟩ := bindS hF209; clear hF209
        refine boolO e ?_; clear e
        cases a210
        · have hF212 := condF hF211; clear hF211
          refine fld gok rfl rfl rfl rfl ?_
          refine load1 (H.bx 0 rfl (j := 1) rfl) ?_
          refine lenE (H.rs (α := List (Int × Int × List Int × List Int)) 5 rfl).len ?_
          obtain ⟨a213, e, hF214⟩ := bindS hF212; clear hF212
          refine boolO e ?_; clear e
          exact ⟨a213, ⟨rfl, rfl, rfl, rfl, rfl, rfl, rfl, trivial⟩, Option.some.inj hF214, H.sel [11, 8, 10, 9] rfl⟩
        · have hF215 := condT hF211; clear hF211
          exact ⟨true, ⟨rfl, rfl, rfl, rfl, rfl, rfl, rfl, trivial⟩, Option.some.inj hF215, H.sel [11, 8, 10, 9] rfl⟩
      · have hF216 := condT hF208; clear hF208
        exact ⟨true, ⟨rfl, rfl, rfl, rfl, rfl, rfl, rfl, trivial⟩, Option.some.inj hF216, H.sel [11, 8, 10, 9] rfl⟩
    · clear hF205 H
      rintro T218 s201 w217 ⟨hr, (H : Cx w0 fp0 S0 w217 [Es (List (ByteArray × (List (Int × Int × ByteArray)) × (List (Int × Int × ByteArray)))) rules_ rules_h, Bx b165 [(.string a156_0), (h160).v, (h161).v], Es (List (Int × Int × ByteArray)) a156_1_0 h160, Es (List (Int × Int × ByteArray)) a156_2_0 h161])⟩
      subst hr
      cases s201
      · have hF219 := condF hF204; clear hF204
        obtain ⟨a220, e, hF221⟩ := bindS hF219; clear hF219
        refine slS (α := ByteArray × (List (Int × Int × ByteArray)) × (List (Int × Int × ByteArray))) gok rfl rfl H 0 rfl e rfl rfl ?_; clear e H; intro h222 H
        refine lenE (H.rs (α := List (ByteArray × (List (Int × Int × ByteArray)) × (List (Int × Int × ByteArray)))) 0 rfl).len ?_
        have hmx251 := (H.rs (α := List (ByteArray × (List (Int × Int × ByteArray)) × (List (Int × Int × ByteArray)))) 0 rfl).max
        obtain ⟨r252, e, hF253⟩ := bindS hF221; clear hF221
        refine loopO _ a220.length (fun (k224 : Nat) (_ : Unit) (_ : Unit) => [(0, (rules_h).v), (4, (.pointer (some ⟨b165, 0, none⟩))), (10, (rules_h).v), (11, (.int .i64 ((rules_.length : Nat) : Int))), (12, (.int .i64 ((k2 : Nat) : Int))), (39, (h222).v), (40, (.int .i64 ((a220.length : Nat) : Int))), (41, (.int .i64 ((k224 : Nat) : Int)))]) (fun _ (_ : Unit) (_ : Unit) w' => Cx w0 fp0 S0 w' [Es (List (ByteArray × (List (Int × Int × ByteArray)) × (List (Int × Int × ByteArray)))) rules_ rules_h, Bx b165 [(.string a156_0), (h160).v, (h161).v], Es (List (Int × Int × ByteArray)) a156_1_0 h160, Es (List (Int × Int × ByteArray)) a156_2_0 h161, Es (List (ByteArray × (List (Int × Int × ByteArray)) × (List (Int × Int × ByteArray)))) a220 h222]) () () e ⟨rfl, rfl, rfl, rfl, rfl, rfl, rfl, rfl, trivial⟩ (H.sel [1, 2, 3, 4, 0] rfl) ?_ ?_
        · clear H e
          rintro T255 k224 _ _ w254 o256 hk (H : Cx w0 fp0 S0 w254 [Es (List (ByteArray × (List (Int × Int × ByteArray)) × (List (Int × Int × ByteArray)))) rules_ rules_h, Bx b165 [(.string a156_0), (h160).v, (h161).v], Es (List (Int × Int × ByteArray)) a156_1_0 h160, Es (List (Int × Int × ByteArray)) a156_2_0 h161, Es (List (ByteArray × (List (Int × Int × ByteArray)) × (List (Int × Int × ByteArray)))) a220 h222]) hrt hF257
          refine boolE (z := true) (ltLen hk) ?_
          refine sq ?_
          refine sq ?_
          obtain ⟨a264, e, hF265⟩ := bindS hF257; clear hF257
          have HH := H; clear H; obtain ⟨p262, m263, g266, c258, c259, c260, c261, H⟩ := HH.el (α := ByteArray × (List (Int × Int × ByteArray)) × (List (Int × Int × ByteArray))) 4 rfl e; clear HH
          clear e
          obtain ⟨a264_0, a264_1_0, a264_2_0⟩ := a264
          obtain ⟨_, h268, h269⟩ := g266
          replace H := H.part (β := List (Int × Int × ByteArray)) a264_1_0 (h268 : Hd) 0 rfl (fun S h => (And.left (And.right h)))
          replace H := H.part (β := List (Int × Int × ByteArray)) a264_2_0 (h269 : Hd) 1 rfl (fun S h => (And.right (And.right h)))
          replace H := H.sel [0, 1, 3, 4, 5, 6, 7] rfl
          refine idxE c258 c259 c260 ?_; clear c258 c259 c260
          refine loadN [(.string a264_0), (h268).v, (h269).v] rfl c261 ?_; clear c261
          refine alloc_ gok rfl H ?_; clear H; intro b273 w272 hx H
          clear hx
          replace H : Cx w0 fp0 S0 w272 [Bx b273 [(.string .empty), (.slice none 0 0), (.slice none 0 0)], Es (List (Int × Int × ByteArray)) a264_2_0 h269, Es (List (Int × Int × ByteArray)) a264_1_0 h268, Es (List (ByteArray × (List (Int × Int × ByteArray)) × (List (Int × Int × ByteArray)))) rules_ rules_h, Bx b165 [(.string a156_0), (h160).v, (h161).v], Es (List (Int × Int × ByteArray)) a156_1_0 h160, Es (List (Int × Int × ByteArray)) a156_2_0 h161, Es (List (ByteArray × (List (Int × Int × ByteArray)) × (List (Int × Int × ByteArray)))) a220 h222] := H
          refine stA gok [(.string a264_0), (h268).v, (h269).v] rfl H rfl rfl rfl ?_; clear H; intro w275 H
          replace H : Cx w0 fp0 S0 w275 [Bx b273 [(.string a264_0), (h268).v, (h269).v], Es (List (Int × Int × ByteArray)) a264_2_0 h269, Es (List (Int × Int × ByteArray)) a264_1_0 h268, Es (List (ByteArray × (List (Int × Int × ByteArray)) × (List (Int × Int × ByteArray)))) rules_ rules_h, Bx b165 [(.string a156_0), (h160).v, (h161).v], Es (List (Int × Int × ByteArray)) a156_1_0 h160, Es (List (Int × Int × ByteArray)) a156_2_0 h161, Es (List (ByteArray × (List (Int × Int × ByteArray)) × (List (Int × Int × ByteArray)))) a220 h222] := H
          refine fld gok rfl rfl rfl rfl ?_
          refine load1 (H.bx 0 rfl (j := 0) rfl) ?_
          refine fld gok rfl rfl rfl rfl ?_
          refine load1 (H.bx 4 rfl (j := 0) rfl) ?_
          obtain ⟨a276, e, hF277⟩ := bindS hF265; clear hF265
          refine eqZ e ?_; clear e
          cases a276
          · have hF278 := condF hF277; clear hF277
            refine arK hk hmx251 ?_
            have hs := Option.some.inj hF278; subst hs; clear hF278
            exact ⟨(), (), rfl, ⟨rfl, rfl, rfl, rfl, rfl, rfl, rfl, rfl, trivial⟩, H.sel [3, 4, 5, 6, 7] rfl⟩
          · have hF279 := condT hF277; clear hF277
            have hs := Option.some.inj hF279; subst hs; clear hF279
            have hr := hrt _ rfl; subst hr
            have hF280 : some _ = some _ := hF253
            have hs := Option.some.inj hF280; subst hs; clear hF280
            have hr := hrt _ rfl; subst hr
            have hF281 : some _ = some _ := hF145
            cases hF281
            exact ⟨_, _, rfl, ⟨rfl, rfl⟩, (H.sel [] rfl).close trivial⟩
        · clear H e
          rintro T283 _ _ w282 hr (H : Cx w0 fp0 S0 w282 [Es (List (ByteArray × (List (Int × Int × ByteArray)) × (List (Int × Int × ByteArray)))) rules_ rules_h, Bx b165 [(.string a156_0), (h160).v, (h161).v], Es (List (Int × Int × ByteArray)) a156_1_0 h160, Es (List (Int × Int × ByteArray)) a156_2_0 h161, Es (List (ByteArray × (List (Int × Int × ByteArray)) × (List (Int × Int × ByteArray)))) a220 h222])
          subst hr
          refine boolE (z := false) geLen ?_
          refine sq ?_
          refine arK hk hmx143 ?_
          have hs := Option.some.inj hF253; subst hs; clear hF253
          exact ⟨(), (), rfl, ⟨rfl, rfl, rfl, rfl, trivial⟩, H.sel [0] rfl⟩
      · have hF286 := condT hF204; clear hF204
        have hs := Option.some.inj hF286; subst hs; clear hF286
        have hr := hrt _ rfl; subst hr
        have hF287 : some _ = some _ := hF145
        cases hF287
        exact ⟨_, _, rfl, ⟨rfl, rfl⟩, (H.sel [] rfl).close trivial⟩
  · clear H e
    rintro T289 _ _ w288 hr (H : Cx w0 fp0 S0 w288 [Es (List (ByteArray × (List (Int × Int × ByteArray)) × (List (Int × Int × ByteArray)))) rules_ rules_h])
    subst hr
    refine boolE (z := false) geLen ?_
    refine sq ?_
    refine lenE (H.rs (α := List (ByteArray × (List (Int × Int × ByteArray)) × (List (Int × Int × ByteArray)))) 0 rfl).len ?_
    obtain ⟨y292, e, hF293⟩ := bindS hF145; clear hF145
    have ey292 := e; clear e
    refine callF (spec_l1In_c ((rules_.length : Nat) : Int) 1 20 y292 ey292) (Γi := []) H trivial ?_; clear H ey292
    rintro _ _ w294 ⟨rfl, rfl⟩ (H : Cx w0 fp0 S0 w294 [Es (List (ByteArray × (List (Int × Int × ByteArray)) × (List (Int × Int × ByteArray)))) rules_ rules_h])
    cases hF293
    exact ⟨_, _, rfl, ⟨rfl, rfl⟩, (H.sel [] rfl).close trivial⟩

theorem spec_AreRules_c (rules_ : List (ByteArray × (List (Int × Int × ByteArray)) × (List (Int × Int × ByteArray)))) (rules_h : Hd) (y : Bool) (hF : F_spec_AreRules rules_ = some y) :
    ConF Try.prog 5 #[(rules_h).v] [Es (List (ByteArray × (List (Int × Int × ByteArray)) × (List (Int × Int × ByteArray)))) rules_ rules_h] [] (fun v Γ' => v = (.bool y) ∧ Γ' = []) := by
  intro w0 S0 fp0 hI hS
  have H : Cx w0 fp0 S0 w0 [Es (List (ByteArray × (List (Int × Int × ByteArray)) × (List (Int × Int × ByteArray)))) rules_ rules_h] := Cx.start hI hS
  clear hI hS
  refine enterC (args := [_]) gok Try.func5 rfl _ rfl rfl rfl ?_
  obtain ⟨y2, e, hF3⟩ := bindS hF; clear hF
  have ey2 := e; clear e
  refine callF (spec_dvRules_c rules_ rules_h y2 ey2) (Γi := []) H ⟨Vw.sh 0 rfl, trivial⟩ ?_; clear H ey2
  rintro _ _ w4 ⟨rfl, rfl⟩ (H : Cx w0 fp0 S0 w4 [Es (List (ByteArray × (List (Int × Int × ByteArray)) × (List (Int × Int × ByteArray)))) rules_ rules_h])
  cases hF3
  exact ⟨_, _, rfl, ⟨rfl, rfl⟩, (H.sel [] rfl).close trivial⟩

theorem impl_within_c (n_ : Int) (low_ : Int) (high_ : Int) (y : Bool) (hF : F_impl_within n_ low_ high_ = some y) :
    ConF Try.prog 18 #[(.int .i64 n_), (.int .i64 low_), (.int .i64 high_)] [] [] (fun v Γ' => v = (.bool y) ∧ Γ' = []) := by
  intro w0 S0 fp0 hI hS
  have H : Cx w0 fp0 S0 w0 [] := Cx.start hI hS
  clear hI hS
  refine enterC (args := [_, _, _]) gok Try.func18 rfl _ rfl rfl rfl ?_
  obtain ⟨r9, hF11, hF10⟩ := bindS hF; clear hF
  refine cut (fun (q12 : Bool) => [(6, (.bool q12))]) (fun (q12 : Bool) w' => q12 = r9 ∧ Cx w0 fp0 S0 w' []) ?_ ?_
  · skip
    obtain ⟨a13, e, hF14⟩ := bindS hF11; clear hF11
    refine boolO e ?_; clear e
    cases a13
    · have hF15 := condF hF14; clear hF14
      exact ⟨false, ⟨rfl, trivial⟩, Option.some.inj hF15, H.sel [] rfl⟩
    · have hF16 := condT hF14; clear hF14
      obtain ⟨a17, e, hF18⟩ := bindS hF16; clear hF16
      refine boolO e ?_; clear e
      exact ⟨a17, ⟨rfl, trivial⟩, Option.some.inj hF18, H.sel [] rfl⟩
  · clear hF11 H
    rintro T20 s7 w19 ⟨hr, (H : Cx w0 fp0 S0 w19 [])⟩
    subst hr
    cases hF10
    exact ⟨_, _, rfl, ⟨rfl, rfl⟩, (H.sel [] rfl).close trivial⟩

theorem impl_wires_fit_c (w__0 : Int) (w__1 : Int) (y : Bool) (hF : F_impl_wires_fit (w__0, w__1) = some y) :
    ConF Try.prog 87 #[(.agg #[(.int .i64 w__0), (.int .i64 w__1)])] [] [] (fun v Γ' => v = (.bool y) ∧ Γ' = []) := by
  intro w0 S0 fp0 hI hS
  have H : Cx w0 fp0 S0 w0 [] := Cx.start hI hS
  clear hI hS
  refine enterC (args := [_]) gok Try.func87 rfl _ rfl rfl rfl ?_
  refine box_ H ?_; clear H; intro b2 w1 hx H
  clear hx
  replace H : Cx w0 fp0 S0 w1 [Bx b2 [(.int .i64 w__0), (.int .i64 w__1)]] := H
  obtain ⟨r12, hF14, hF13⟩ := bindS hF; clear hF
  refine cut (fun (q15 : Bool) => [(2, (.bool q15))]) (fun (q15 : Bool) w' => q15 = r12 ∧ Cx w0 fp0 S0 w' []) ?_ ?_
  · skip
    refine fld gok rfl rfl rfl rfl ?_
    refine load1 (H.bx 0 rfl (j := 0) rfl) ?_
    obtain ⟨a16, e, hF17⟩ := bindS hF14; clear hF14
    refine boolO e ?_; clear e
    cases a16
    · have hF18 := condF hF17; clear hF17
      exact ⟨false, ⟨rfl, trivial⟩, Option.some.inj hF18, H.sel [] rfl⟩
    · have hF19 := condT hF17; clear hF17
      refine fld gok rfl rfl rfl rfl ?_
      refine load1 (H.bx 0 rfl (j := 1) rfl) ?_
      obtain ⟨a20, e, hF21⟩ := bindS hF19; clear hF19
      refine boolO e ?_; clear e
      exact ⟨a20, ⟨rfl, trivial⟩, Option.some.inj hF21, H.sel [] rfl⟩
  · clear hF14 H
    rintro T23 s10 w22 ⟨hr, (H : Cx w0 fp0 S0 w22 [])⟩
    subst hr
    cases hF13
    exact ⟨_, _, rfl, ⟨rfl, rfl⟩, (H.sel [] rfl).close trivial⟩

theorem impl_joinWires_c (kind_ : Int) (a__0 : Int) (a__1 : Int) (b__0 : Int) (b__1 : Int) (y0_0 : Int) (y0_1 : Int) (y1 : Bool) (hF : F_impl_joinWires kind_ (a__0, a__1) (b__0, b__1) = some ((y0_0, y0_1), y1)) :
    ConF Try.prog 62 #[(.int .i64 kind_), (.agg #[(.int .i64 a__0), (.int .i64 a__1)]), (.agg #[(.int .i64 b__0), (.int .i64 b__1)])] [] [] (fun v Γ' => v = (.tuple #[(.agg #[(.int .i64 y0_0), (.int .i64 y0_1)]), (.bool y1)]) ∧ Γ' = []) := by
  intro w0 S0 fp0 hI hS
  have H : Cx w0 fp0 S0 w0 [] := Cx.start hI hS
  clear hI hS
  refine enterC (args := [_, _, _]) gok Try.func62 rfl _ rfl rfl rfl ?_
  refine box_ H ?_; clear H; intro b2 w1 hx H
  clear hx
  replace H : Cx w0 fp0 S0 w1 [Bx b2 [(.int .i64 a__0), (.int .i64 a__1)]] := H
  refine box_ H ?_; clear H; intro b5 w4 hx H
  clear hx
  replace H : Cx w0 fp0 S0 w4 [Bx b5 [(.int .i64 b__0), (.int .i64 b__1)], Bx b2 [(.int .i64 a__0), (.int .i64 a__1)]] := H
  refine alloc_ gok rfl H ?_; clear H; intro b8 w7 hx H
  clear hx
  replace H : Cx w0 fp0 S0 w7 [Bx b8 [(.int .i64 0), (.int .i64 0)], Bx b5 [(.int .i64 b__0), (.int .i64 b__1)], Bx b2 [(.int .i64 a__0), (.int .i64 a__1)]] := H
  refine sq ?_
  obtain ⟨a10, e, hF11⟩ := bindS hF; clear hF
  refine boolO e ?_; clear e
  cases a10
  · have hF12 := condF hF11; clear hF11
    refine fld gok rfl rfl rfl rfl ?_
    refine load1 (H.bx 2 rfl (j := 0) rfl) ?_
    refine fld gok rfl rfl rfl rfl ?_
    refine load1 (H.bx 1 rfl (j := 0) rfl) ?_
    obtain ⟨a13, e, hF14⟩ := bindS hF12; clear hF12
    refine arO e ?_; clear e
    refine fld gok rfl rfl rfl rfl ?_
    refine load1 (H.bx 2 rfl (j := 1) rfl) ?_
    refine fld gok rfl rfl rfl rfl ?_
    refine load1 (H.bx 1 rfl (j := 1) rfl) ?_
    obtain ⟨a15, e, hF16⟩ := bindS hF14; clear hF14
    refine arO e ?_; clear e
    refine build_ (cs := #[(.int .i64 a13), (.int .i64 a15)]) gok rfl rfl rfl ?_
    refine alloc_ gok rfl H ?_; clear H; intro b18 w17 hx H
    clear hx
    replace H : Cx w0 fp0 S0 w17 [Bx b18 [(.int .i64 0), (.int .i64 0)], Bx b8 [(.int .i64 0), (.int .i64 0)], Bx b5 [(.int .i64 b__0), (.int .i64 b__1)], Bx b2 [(.int .i64 a__0), (.int .i64 a__1)]] := H
    refine stA gok [(.int .i64 a13), (.int .i64 a15)] rfl H rfl rfl rfl ?_; clear H; intro w20 H
    replace H : Cx w0 fp0 S0 w20 [Bx b18 [(.int .i64 a13), (.int .i64 a15)], Bx b8 [(.int .i64 0), (.int .i64 0)], Bx b5 [(.int .i64 b__0), (.int .i64 b__1)], Bx b2 [(.int .i64 a__0), (.int .i64 a__1)]] := H
    refine heldX H [3, 4] (.fst 0 (.fst 1 (.act 2 (.act 3 (.act 4 .done))))) mixed [] trivial (by kernel_rfl) ?_
    clear H; intro w21 H
    have hX : Ext w21 w21 := Upd.refl _ _
    have H0 := H
    refine loadNX [(.int .i64 a13), (.int .i64 a15)] rfl (fun j u hj => H.bx 0 rfl hj) ?_
    refine loadNX [(.int .i64 a13), (.int .i64 a15)] rfl (fun j u hj => H.bx 0 rfl hj) ?_
    obtain ⟨y22, e, hF23⟩ := bindS hF16; clear hF16
    have ey22 := e; clear e
    refine callFx (impl_wires_fit_c a13 a15 y22 ey22) H trivial ?_; clear H ey22
    rintro _ _ w24 ⟨rfl, rfl⟩ hx (H : Cx w0 fp0 S0 w24 [Bx b18 [(.int .i64 a13), (.int .i64 a15)], Bx b8 [(.int .i64 0), (.int .i64 0)], Bx b5 [(.int .i64 b__0), (.int .i64 b__1)], Bx b2 [(.int .i64 a__0), (.int .i64 a__1)]])
    replace hX := hX.trans0 hx; clear hx
    refine hold hX ?_
    replace H := H.sel [1, 0, 2, 3] rfl
    refine stA gok [(.int .i64 a13), (.int .i64 a15)] rfl H rfl rfl rfl ?_; clear H; intro w25 H
    replace H : Cx w0 fp0 S0 w25 [Bx b8 [(.int .i64 a13), (.int .i64 a15)], Bx b18 [(.int .i64 a13), (.int .i64 a15)], Bx b5 [(.int .i64 b__0), (.int .i64 b__1)], Bx b2 [(.int .i64 a__0), (.int .i64 a__1)]] := H
    refine hold trivial ?_
    refine hold trivial ?_
    refine loadN [(.int .i64 a13), (.int .i64 a15)] rfl (fun j u hj => H.bx 0 rfl hj) ?_
    cases hF23
    exact ⟨_, _, rfl, ⟨rfl, rfl⟩, (H.sel [] rfl).close trivial⟩
  · have hF26 := condT hF11; clear hF11
    refine heldX H [10, 11, 5, 6, 7, 8, 9] (.pure 5 (.pure 6 (.pure 7 (.pure 8 (.pure 9 (.fst 0 (.fst 2 (.fst 1 (.fst 3 (.fst 4 (.act 10 (.act 11 .done)))))))))))) mixed [((Addr.add ⟨b2, 0, none⟩ 1), (.int .i64 a__1)), ((Addr.add ⟨b5, 0, none⟩ 0), (.int .i64 b__0))] ⟨H.bx 2 rfl (j := 1) rfl, H.bx 1 rfl (j := 0) rfl, trivial⟩ (by kernel_rfl) ?_
    clear H; intro w27 H
    have hX : Ext w27 w27 := Upd.refl _ _
    have H0 := H
    refine anyH (fun _ => fld gok rfl rfl rfl rfl ⟨rfl, rfl⟩) ?_
    refine load1W 0 rfl ?_
    refine anyH (fun _ => fld gok rfl rfl rfl rfl ⟨rfl, rfl⟩) ?_
    refine load1W 1 rfl ?_
    obtain ⟨a28, e, hF29⟩ := bindS hF26; clear hF26
    refine boolO e ?_; clear e
    refine anyH (fun _ => fld gok rfl rfl rfl rfl ⟨rfl, rfl⟩) ?_
    refine anyH (fun _ => fld gok rfl rfl rfl rfl ⟨rfl, rfl⟩) ?_
    refine load1X (H.bx 2 rfl (j := 0) rfl) ?_
    refine load1X (H.bx 1 rfl (j := 1) rfl) ?_
    refine anyH (fun _ => build_ (cs := #[(.int .i64 a__0), (.int .i64 b__1)]) gok rfl rfl rfl ⟨rfl, rfl⟩) ?_
    refine stA gok [(.int .i64 a__0), (.int .i64 b__1)] rfl H rfl rfl rfl ?_; clear H; intro w30 H
    replace H : Cx w0 fp0 S0 w30 [Bx b8 [(.int .i64 a__0), (.int .i64 b__1)], Bx b5 [(.int .i64 b__0), (.int .i64 b__1)], Bx b2 [(.int .i64 a__0), (.int .i64 a__1)]] := H
    refine hold ⟨H.bx 2 rfl (j := 1) rfl, H.bx 1 rfl (j := 0) rfl, trivial⟩ ?_
    refine hold ⟨H.bx 2 rfl (j := 1) rfl, H.bx 1 rfl (j := 0) rfl, trivial⟩ ?_
    refine loadN [(.int .i64 a__0), (.int .i64 b__1)] rfl (fun j u hj => H.bx 0 rfl hj) ?_
    cases hF29
    exact ⟨_, _, rfl, ⟨rfl, rfl⟩, (H.sel [] rfl).close trivial⟩

theorem impl_isGenerator_c (kind_ : Int) (y : Bool) (hF : F_impl_isGenerator kind_ = some y) :
    ConF Try.prog 63 #[(.int .i64 kind_)] [] [] (fun v Γ' => v = (.bool y) ∧ Γ' = []) := by
  intro w0 S0 fp0 hI hS
  have H : Cx w0 fp0 S0 w0 [] := Cx.start hI hS
  clear hI hS
  refine enterC (args := [_]) gok Try.func63 rfl _ rfl rfl rfl ?_
  obtain ⟨y1, e, hF2⟩ := bindS hF; clear hF
  have ey1 := e; clear e
  refine callF (impl_within_c kind_ 3 14 y1 ey1) (Γi := []) H trivial ?_; clear H ey1
  rintro _ _ w3 ⟨rfl, rfl⟩ (H : Cx w0 fp0 S0 w3 [])
  cases hF2
  exact ⟨_, _, rfl, ⟨rfl, rfl⟩, (H.sel [] rfl).close trivial⟩

theorem impl_generatorWires_c (kind_ : Int) (y_0 : Int) (y_1 : Int) (hF : F_impl_generatorWires kind_ = some (y_0, y_1)) :
    ConF Try.prog 64 #[(.int .i64 kind_)] [] [] (fun v Γ' => v = (.agg #[(.int .i64 y_0), (.int .i64 y_1)]) ∧ Γ' = []) := by
  intro w0 S0 fp0 hI hS
  have H : Cx w0 fp0 S0 w0 [] := Cx.start hI hS
  clear hI hS
  refine enterC (args := [_]) gok Try.func64 rfl _ rfl rfl rfl ?_
  refine alloc_ gok rfl H ?_; clear H; intro b2 w1 hx H
  clear hx
  replace H : Cx w0 fp0 S0 w1 [Bx b2 [(.int .i64 0), (.int .i64 0)]] := H
  refine build_ (cs := #[(.int .i64 1), (.int .i64 2)]) gok rfl rfl rfl ?_
  refine build_ (cs := #[(.int .i64 1), (.int .i64 0)]) gok rfl rfl rfl ?_
  refine build_ (cs := #[(.int .i64 2), (.int .i64 1)]) gok rfl rfl rfl ?_
  refine build_ (cs := #[(.int .i64 0), (.int .i64 1)]) gok rfl rfl rfl ?_
  refine build_ (cs := #[(.int .i64 1), (.int .i64 1)]) gok rfl rfl rfl ?_
  refine build_ (cs := #[(.int .i64 1), (.int .i64 1)]) gok rfl rfl rfl ?_
  refine buildAr (cs := #[(.int .i64 1), (.int .i64 2), (.int .i64 1), (.int .i64 0), (.int .i64 2), (.int .i64 1), (.int .i64 0), (.int .i64 1), (.int .i64 1), (.int .i64 1), (.int .i64 1), (.int .i64 1)]) gok rfl rfl rfl ?_
  refine alloc_ gok rfl H ?_; clear H; intro b5 w4 hx H
  clear hx
  replace H : Cx w0 fp0 S0 w4 [Bx b5 [(.int .i64 0), (.int .i64 0), (.int .i64 0), (.int .i64 0), (.int .i64 0), (.int .i64 0), (.int .i64 0), (.int .i64 0), (.int .i64 0), (.int .i64 0), (.int .i64 0), (.int .i64 0)], Bx b2 [(.int .i64 0), (.int .i64 0)]] := H
  refine stA gok [(.int .i64 1), (.int .i64 2), (.int .i64 1), (.int .i64 0), (.int .i64 2), (.int .i64 1), (.int .i64 0), (.int .i64 1), (.int .i64 1), (.int .i64 1), (.int .i64 1), (.int .i64 1)] rfl H rfl rfl rfl ?_; clear H; intro w7 H
  replace H : Cx w0 fp0 S0 w7 [Bx b5 [(.int .i64 1), (.int .i64 2), (.int .i64 1), (.int .i64 0), (.int .i64 2), (.int .i64 1), (.int .i64 0), (.int .i64 1), (.int .i64 1), (.int .i64 1), (.int .i64 1), (.int .i64 1)], Bx b2 [(.int .i64 0), (.int .i64 0)]] := H
  refine sq ?_
  obtain ⟨a8, e, hF9⟩ := bindS hF; clear hF
  refine boolO e ?_; clear e
  cases a8
  · have hF10 := condF hF9; clear hF9
    obtain ⟨a11, e, hF12⟩ := bindS hF10; clear hF10
    refine arO e ?_; clear e
    obtain ⟨a13, e, hF14⟩ := bindS hF12; clear hF12
    obtain ⟨p15, c16, c17, c18⟩ := H.bxV (s := 2) 0 rfl [(1, 2), (1, 0), (2, 1), (0, 1), (1, 1), (1, 1)] (fun x => [.int .i64 x.1, .int .i64 x.2]) rfl (fun _ => rfl) e; clear e
    obtain ⟨a13_0, a13_1⟩ := a13
    refine idxAr gok rfl rfl c16 c17 ?_; clear c16 c17
    refine loadN [(.int .i64 a13_0), (.int .i64 a13_1)] rfl c18 ?_; clear c18
    refine alloc_ gok rfl H ?_; clear H; intro b20 w19 hx H
    clear hx
    replace H : Cx w0 fp0 S0 w19 [Bx b20 [(.int .i64 0), (.int .i64 0)], Bx b5 [(.int .i64 1), (.int .i64 2), (.int .i64 1), (.int .i64 0), (.int .i64 2), (.int .i64 1), (.int .i64 0), (.int .i64 1), (.int .i64 1), (.int .i64 1), (.int .i64 1), (.int .i64 1)], Bx b2 [(.int .i64 0), (.int .i64 0)]] := H
    refine stA gok [(.int .i64 a13_0), (.int .i64 a13_1)] rfl H rfl rfl rfl ?_; clear H; intro w22 H
    replace H : Cx w0 fp0 S0 w22 [Bx b20 [(.int .i64 a13_0), (.int .i64 a13_1)], Bx b5 [(.int .i64 1), (.int .i64 2), (.int .i64 1), (.int .i64 0), (.int .i64 2), (.int .i64 1), (.int .i64 0), (.int .i64 1), (.int .i64 1), (.int .i64 1), (.int .i64 1), (.int .i64 1)], Bx b2 [(.int .i64 0), (.int .i64 0)]] := H
    refine fld gok rfl rfl rfl rfl ?_
    refine load1 (H.bx 0 rfl (j := 1) rfl) ?_
    refine fld gok rfl rfl rfl rfl ?_
    refine load1 (H.bx 0 rfl (j := 0) rfl) ?_
    refine build_ (cs := #[(.int .i64 a13_1), (.int .i64 a13_0)]) gok rfl rfl rfl ?_
    replace H := H.sel [2, 0, 1] rfl
    refine stA gok [(.int .i64 a13_1), (.int .i64 a13_0)] rfl H rfl rfl rfl ?_; clear H; intro w23 H
    replace H : Cx w0 fp0 S0 w23 [Bx b2 [(.int .i64 a13_1), (.int .i64 a13_0)], Bx b20 [(.int .i64 a13_0), (.int .i64 a13_1)], Bx b5 [(.int .i64 1), (.int .i64 2), (.int .i64 1), (.int .i64 0), (.int .i64 2), (.int .i64 1), (.int .i64 0), (.int .i64 1), (.int .i64 1), (.int .i64 1), (.int .i64 1), (.int .i64 1)]] := H
    refine loadN [(.int .i64 a13_1), (.int .i64 a13_0)] rfl (fun j u hj => H.bx 0 rfl hj) ?_
    cases hF14
    exact ⟨_, _, rfl, ⟨rfl, rfl⟩, (H.sel [] rfl).close trivial⟩
  · have hF24 := condT hF9; clear hF9
    obtain ⟨a25, e, hF26⟩ := bindS hF24; clear hF24
    refine arO e ?_; clear e
    obtain ⟨a27, e, hF28⟩ := bindS hF26; clear hF26
    obtain ⟨p29, c30, c31, c32⟩ := H.bxV (s := 2) 0 rfl [(1, 2), (1, 0), (2, 1), (0, 1), (1, 1), (1, 1)] (fun x => [.int .i64 x.1, .int .i64 x.2]) rfl (fun _ => rfl) e; clear e
    obtain ⟨a27_0, a27_1⟩ := a27
    refine idxAr gok rfl rfl c30 c31 ?_; clear c30 c31
    refine loadN [(.int .i64 a27_0), (.int .i64 a27_1)] rfl c32 ?_; clear c32
    replace H := H.sel [1, 0] rfl
    refine stA gok [(.int .i64 a27_0), (.int .i64 a27_1)] rfl H rfl rfl rfl ?_; clear H; intro w33 H
    replace H : Cx w0 fp0 S0 w33 [Bx b2 [(.int .i64 a27_0), (.int .i64 a27_1)], Bx b5 [(.int .i64 1), (.int .i64 2), (.int .i64 1), (.int .i64 0), (.int .i64 2), (.int .i64 1), (.int .i64 0), (.int .i64 1), (.int .i64 1), (.int .i64 1), (.int .i64 1), (.int .i64 1)]] := H
    refine loadN [(.int .i64 a27_0), (.int .i64 a27_1)] rfl (fun j u hj => H.bx 0 rfl hj) ?_
    cases hF28
    exact ⟨_, _, rfl, ⟨rfl, rfl⟩, (H.sel [] rfl).close trivial⟩

theorem impl_hasValue_c (kind_ : Int) (y : Bool) (hF : F_impl_hasValue kind_ = some y) :
    ConF Try.prog 88 #[(.int .i64 kind_)] [] [] (fun v Γ' => v = (.bool y) ∧ Γ' = []) := by
  intro w0 S0 fp0 hI hS
  have H : Cx w0 fp0 S0 w0 [] := Cx.start hI hS
  clear hI hS
  refine enterC (args := [_]) gok Try.func88 rfl _ rfl rfl rfl ?_
  obtain ⟨r9, hF11, hF10⟩ := bindS hF; clear hF
  refine cut (fun (q12 : Bool) => [(2, (.bool q12))]) (fun (q12 : Bool) w' => q12 = r9 ∧ Cx w0 fp0 S0 w' []) ?_ ?_
  · skip
    obtain ⟨a13, e, hF14⟩ := bindS hF11; clear hF11
    refine boolO e ?_; clear e
    cases a13
    · have hF15 := condF hF14; clear hF14
      obtain ⟨a16, e, hF17⟩ := bindS hF15; clear hF15
      refine boolO e ?_; clear e
      exact ⟨a16, ⟨rfl, trivial⟩, Option.some.inj hF17, H.sel [] rfl⟩
    · have hF18 := condT hF14; clear hF14
      exact ⟨true, ⟨rfl, trivial⟩, Option.some.inj hF18, H.sel [] rfl⟩
  · clear hF11 H
    rintro T20 s7 w19 ⟨hr, (H : Cx w0 fp0 S0 w19 [])⟩
    subst hr
    cases hF10
    exact ⟨_, _, rfl, ⟨rfl, rfl⟩, (H.sel [] rfl).close trivial⟩

theorem impl_isGeneratorValue_c (kind_ : Int) (value_ : Int) (y : Bool) (hF : F_impl_isGeneratorValue kind_ value_ = some y) :
    ConF Try.prog 65 #[(.int .i64 kind_), (.int .i64 value_)] [] [] (fun v Γ' => v = (.bool y) ∧ Γ' = []) := by
  intro w0 S0 fp0 hI hS
  have H : Cx w0 fp0 S0 w0 [] := Cx.start hI hS
  clear hI hS
  refine enterC (args := [_, _]) gok Try.func65 rfl _ rfl rfl rfl ?_
  refine sq ?_
  obtain ⟨y1, e, hF2⟩ := bindS hF; clear hF
  have ey1 := e; clear e
  refine callF (impl_hasValue_c kind_ y1 ey1) (Γi := []) H trivial ?_; clear H ey1
  rintro _ _ w3 ⟨rfl, rfl⟩ (H : Cx w0 fp0 S0 w3 [])
  cases y1
  · have hF4 := condF hF2; clear hF2
    obtain ⟨a5, e, hF6⟩ := bindS hF4; clear hF4
    refine boolO e ?_; clear e
    cases hF6
    exact ⟨_, _, rfl, ⟨rfl, rfl⟩, (H.sel [] rfl).close trivial⟩
  · have hF7 := condT hF2; clear hF2
    obtain ⟨y8, e, hF9⟩ := bindS hF7; clear hF7
    have ey8 := e; clear e
    refine callF (impl_within_c value_ 0 96 y8 ey8) (Γi := []) H trivial ?_; clear H ey8
    rintro _ _ w10 ⟨rfl, rfl⟩ (H : Cx w0 fp0 S0 w10 [])
    cases hF9
    exact ⟨_, _, rfl, ⟨rfl, rfl⟩, (H.sel [] rfl).close trivial⟩

theorem impl_leafWires_c (n__0 : Int) (n__1 : Int) (n__2 : ByteArray) (y0_0 : Int) (y0_1 : Int) (y1 : Bool) (hF : F_impl_leafWires (n__0, n__1, n__2) = some ((y0_0, y0_1), y1)) :
    ConF Try.prog 45 #[(.agg #[(.int .i64 n__0), (.int .i64 n__1), (.string n__2)])] [] [] (fun v Γ' => v = (.tuple #[(.agg #[(.int .i64 y0_0), (.int .i64 y0_1)]), (.bool y1)]) ∧ Γ' = []) := by
  intro w0 S0 fp0 hI hS
  have H : Cx w0 fp0 S0 w0 [] := Cx.start hI hS
  clear hI hS
  refine enterC (args := [_]) gok Try.func45 rfl _ rfl rfl rfl ?_
  refine box_ H ?_; clear H; intro b2 w1 hx H
  clear hx
  replace H : Cx w0 fp0 S0 w1 [Bx b2 [(.int .i64 n__0), (.int .i64 n__1), (.string n__2)]] := H
  refine alloc_ gok rfl H ?_; clear H; intro b5 w4 hx H
  clear hx
  replace H : Cx w0 fp0 S0 w4 [Bx b5 [(.int .i64 0), (.int .i64 0)], Bx b2 [(.int .i64 n__0), (.int .i64 n__1), (.string n__2)]] := H
  refine sq ?_
  refine fld gok rfl rfl rfl rfl ?_
  refine load1 (H.bx 1 rfl (j := 2) rfl) ?_
  obtain ⟨a7, e, hF8⟩ := bindS hF; clear hF
  refine neqZ e ?_; clear e
  cases a7
  · have hF9 := condF hF8; clear hF8
    refine fld gok rfl rfl rfl rfl ?_
    refine load1 (H.bx 1 rfl (j := 0) rfl) ?_
    obtain ⟨a10, e, hF11⟩ := bindS hF9; clear hF9
    refine boolO e ?_; clear e
    cases a10
    · have hF12 := condF hF11; clear hF11
      refine fld gok rfl rfl rfl rfl ?_
      refine load1 (H.bx 1 rfl (j := 0) rfl) ?_
      obtain ⟨a13, e, hF14⟩ := bindS hF12; clear hF12
      refine boolO e ?_; clear e
      cases a13
      · have hF15 := condF hF14; clear hF14
        refine fld gok rfl rfl rfl rfl ?_
        refine load1 (H.bx 1 rfl (j := 0) rfl) ?_
        obtain ⟨y16, e, hF17⟩ := bindS hF15; clear hF15
        have ey16 := e; clear e
        refine callF (impl_isGenerator_c n__0 y16 ey16) (Γi := []) H trivial ?_; clear H ey16
        rintro _ _ w18 ⟨rfl, rfl⟩ (H : Cx w0 fp0 S0 w18 [Bx b5 [(.int .i64 0), (.int .i64 0)], Bx b2 [(.int .i64 n__0), (.int .i64 n__1), (.string n__2)]])
        cases y16
        · have hF19 := condF hF17; clear hF17
          refine build_ (cs := #[(.int .i64 0), (.int .i64 0)]) gok rfl rfl rfl ?_
          refine stA gok [(.int .i64 0), (.int .i64 0)] rfl H rfl rfl rfl ?_; clear H; intro w20 H
          replace H : Cx w0 fp0 S0 w20 [Bx b5 [(.int .i64 0), (.int .i64 0)], Bx b2 [(.int .i64 n__0), (.int .i64 n__1), (.string n__2)]] := H
          refine loadN [(.int .i64 0), (.int .i64 0)] rfl (fun j u hj => H.bx 0 rfl hj) ?_
          cases hF19
          exact ⟨_, _, rfl, ⟨rfl, rfl⟩, (H.sel [] rfl).close trivial⟩
        · have hF21 := condT hF17; clear hF17
          refine heldX H [8, 9] (.fst 0 (.fst 3 (.fst 5 (.fst 1 (.fst 4 (.fst 6 (.act 2 (.act 7 (.act 8 (.act 9 .done)))))))))) mixed [] trivial (by kernel_rfl) ?_
          clear H; intro w22 H
          have hX : Ext w22 w22 := Upd.refl _ _
          have H0 := H
          refine anyH (fun _ => fld gok rfl rfl rfl rfl ⟨rfl, rfl⟩) ?_
          refine anyH (fun _ => fld gok rfl rfl rfl rfl ⟨rfl, rfl⟩) ?_
          refine anyH (fun _ => fld gok rfl rfl rfl rfl ⟨rfl, rfl⟩) ?_
          refine load1X (H.bx 1 rfl (j := 0) rfl) ?_
          refine load1X (H.bx 1 rfl (j := 0) rfl) ?_
          refine load1X (H.bx 1 rfl (j := 1) rfl) ?_
          obtain ⟨y23, e, hF24⟩ := bindS hF21; clear hF21
          obtain ⟨y23_0, y23_1⟩ := y23
          have ey23 := e; clear e
          refine callFx (impl_generatorWires_c n__0 y23_0 y23_1 ey23) H trivial ?_; clear H ey23
          rintro _ _ w25 ⟨rfl, rfl⟩ hx (H : Cx w0 fp0 S0 w25 [Bx b5 [(.int .i64 0), (.int .i64 0)], Bx b2 [(.int .i64 n__0), (.int .i64 n__1), (.string n__2)]])
          replace hX := hX.trans0 hx; clear hx
          refine hold hX ?_
          obtain ⟨y26, e, hF27⟩ := bindS hF24; clear hF24
          have ey26 := e; clear e
          refine callFx (impl_isGeneratorValue_c n__0 n__1 y26 ey26) H trivial ?_; clear H ey26
          rintro _ _ w28 ⟨rfl, rfl⟩ hx (H : Cx w0 fp0 S0 w28 [Bx b5 [(.int .i64 0), (.int .i64 0)], Bx b2 [(.int .i64 n__0), (.int .i64 n__1), (.string n__2)]])
          replace hX := hX.trans0 hx; clear hx
          refine hold hX ?_
          refine stA gok [(.int .i64 y23_0), (.int .i64 y23_1)] rfl H rfl rfl rfl ?_; clear H; intro w29 H
          replace H : Cx w0 fp0 S0 w29 [Bx b5 [(.int .i64 y23_0), (.int .i64 y23_1)], Bx b2 [(.int .i64 n__0), (.int .i64 n__1), (.string n__2)]] := H
          refine hold trivial ?_
          refine hold trivial ?_
          refine loadN [(.int .i64 y23_0), (.int .i64 y23_1)] rfl (fun j u hj => H.bx 0 rfl hj) ?_
          cases hF27
          exact ⟨_, _, rfl, ⟨rfl, rfl⟩, (H.sel [] rfl).close trivial⟩
      · have hF30 := condT hF14; clear hF14
        refine heldX H [4, 5, 1, 2, 3] (.pure 1 (.pure 2 (.pure 3 (.fst 0 (.act 4 (.act 5 .done)))))) mixed [((Addr.add ⟨b2, 0, none⟩ 1), (.int .i64 n__1))] ⟨H.bx 1 rfl (j := 1) rfl, trivial⟩ (by kernel_rfl) ?_
        clear H; intro w31 H
        have hX : Ext w31 w31 := Upd.refl _ _
        have H0 := H
        refine anyH (fun _ => fld gok rfl rfl rfl rfl ⟨rfl, rfl⟩) ?_
        refine load1W 0 rfl ?_
        obtain ⟨a32, e, hF33⟩ := bindS hF30; clear hF30
        refine boolO e ?_; clear e
        refine anyH (fun _ => build_ (cs := #[(.int .i64 2), (.int .i64 2)]) gok rfl rfl rfl ⟨rfl, rfl⟩) ?_
        refine stA gok [(.int .i64 2), (.int .i64 2)] rfl H rfl rfl rfl ?_; clear H; intro w34 H
        replace H : Cx w0 fp0 S0 w34 [Bx b5 [(.int .i64 2), (.int .i64 2)], Bx b2 [(.int .i64 n__0), (.int .i64 n__1), (.string n__2)]] := H
        refine hold ⟨H.bx 1 rfl (j := 1) rfl, trivial⟩ ?_
        refine hold ⟨H.bx 1 rfl (j := 1) rfl, trivial⟩ ?_
        refine loadN [(.int .i64 2), (.int .i64 2)] rfl (fun j u hj => H.bx 0 rfl hj) ?_
        cases hF33
        exact ⟨_, _, rfl, ⟨rfl, rfl⟩, (H.sel [] rfl).close trivial⟩
    · have hF35 := condT hF11; clear hF11
      refine heldX H [8, 9] (.fst 0 (.fst 2 (.fst 5 (.fst 1 (.fst 3 (.fst 4 (.fst 6 (.act 7 (.act 8 (.act 9 .done)))))))))) mixed [] trivial (by kernel_rfl) ?_
      clear H; intro w36 H
      have hX : Ext w36 w36 := Upd.refl _ _
      have H0 := H
      refine anyH (fun _ => fld gok rfl rfl rfl rfl ⟨rfl, rfl⟩) ?_
      refine anyH (fun _ => fld gok rfl rfl rfl rfl ⟨rfl, rfl⟩) ?_
      refine anyH (fun _ => fld gok rfl rfl rfl rfl ⟨rfl, rfl⟩) ?_
      refine load1X (H.bx 1 rfl (j := 1) rfl) ?_
      refine load1X (H.bx 1 rfl (j := 1) rfl) ?_
      refine anyH (fun _ => build_ (cs := #[(.int .i64 n__1), (.int .i64 n__1)]) gok rfl rfl rfl ⟨rfl, rfl⟩) ?_
      refine load1X (H.bx 1 rfl (j := 1) rfl) ?_
      obtain ⟨y37, e, hF38⟩ := bindS hF35; clear hF35
      have ey37 := e; clear e
      refine callFx (impl_within_c n__1 0 12 y37 ey37) H trivial ?_; clear H ey37
      rintro _ _ w39 ⟨rfl, rfl⟩ hx (H : Cx w0 fp0 S0 w39 [Bx b5 [(.int .i64 0), (.int .i64 0)], Bx b2 [(.int .i64 n__0), (.int .i64 n__1), (.string n__2)]])
      replace hX := hX.trans0 hx; clear hx
      refine hold hX ?_
      refine stA gok [(.int .i64 n__1), (.int .i64 n__1)] rfl H rfl rfl rfl ?_; clear H; intro w40 H
      replace H : Cx w0 fp0 S0 w40 [Bx b5 [(.int .i64 n__1), (.int .i64 n__1)], Bx b2 [(.int .i64 n__0), (.int .i64 n__1), (.string n__2)]] := H
      refine hold trivial ?_
      refine hold trivial ?_
      refine loadN [(.int .i64 n__1), (.int .i64 n__1)] rfl (fun j u hj => H.bx 0 rfl hj) ?_
      cases hF38
      exact ⟨_, _, rfl, ⟨rfl, rfl⟩, (H.sel [] rfl).close trivial⟩
  · have hF41 := condT hF8; clear hF8
    refine build_ (cs := #[(.int .i64 0), (.int .i64 0)]) gok rfl rfl rfl ?_
    refine stA gok [(.int .i64 0), (.int .i64 0)] rfl H rfl rfl rfl ?_; clear H; intro w42 H
    replace H : Cx w0 fp0 S0 w42 [Bx b5 [(.int .i64 0), (.int .i64 0)], Bx b2 [(.int .i64 n__0), (.int .i64 n__1), (.string n__2)]] := H
    refine loadN [(.int .i64 0), (.int .i64 0)] rfl (fun j u hj => H.bx 0 rfl hj) ?_
    cases hF41
    exact ⟨_, _, rfl, ⟨rfl, rfl⟩, (H.sel [] rfl).close trivial⟩

theorem impl_typed_impl_leafWires_c (nodes_ : List (Int × Int × ByteArray)) (nodes_h : Hd) (y0_0 : Int) (y0_1 : Int) (y1 : Bool) (hF : F_impl_typed_impl_leafWires nodes_ = some ((y0_0, y0_1), y1)) :
    ConF Try.prog 44 #[(nodes_h).v, (.func (.func 45) #[] #[])] [Es (List (Int × Int × ByteArray)) nodes_ nodes_h] [] (fun v Γ' => v = (.tuple #[(.agg #[(.int .i64 y0_0), (.int .i64 y0_1)]), (.bool y1)]) ∧ Γ' = []) := by
  intro w0 S0 fp0 hI hS
  have H : Cx w0 fp0 S0 w0 [Es (List (Int × Int × ByteArray)) nodes_ nodes_h] := Cx.start hI hS
  clear hI hS
  refine enterC (args := [_, _]) gok Try.func44 rfl _ rfl rfl rfl ?_
  refine alloc_ gok rfl H ?_; clear H; intro b3 w2 hx H
  clear hx
  replace H : Cx w0 fp0 S0 w2 [Bx b3 [(.int .i64 0), (.int .i64 0)], Es (List (Int × Int × ByteArray)) nodes_ nodes_h] := H
  refine sq ?_
  refine lenE (H.rs (α := List (Int × Int × ByteArray)) 1 rfl).len ?_
  obtain ⟨y5, e, hF6⟩ := bindS hF; clear hF
  have ey5 := e; clear e
  refine callF (impl_within_c ((nodes_.length : Nat) : Int) 1 400 y5 ey5) (Γi := []) H trivial ?_; clear H ey5
  rintro _ _ w7 ⟨rfl, rfl⟩ (H : Cx w0 fp0 S0 w7 [Bx b3 [(.int .i64 0), (.int .i64 0)], Es (List (Int × Int × ByteArray)) nodes_ nodes_h])
  obtain ⟨a8, e, hF9⟩ := bindS hF6; clear hF6
  refine boolO e ?_; clear e
  cases a8
  · have hF10 := condF hF9; clear hF9
    refine lit0 (α := Int × Int) gok rfl rfl H ?_; clear H; intro h12 w11 hx H
    clear hx
    refine sq ?_
    refine lenE (H.rs (α := List (Int × Int × ByteArray)) 2 rfl).len ?_
    have hmx887 := (H.rs (α := List (Int × Int × ByteArray)) 2 rfl).max
    obtain ⟨r888, e, hF889⟩ := bindS hF10; clear hF10
    refine loopO _ nodes_.length (fun (k14 : Nat) (s884 : List (Int × Int)) (g885 : Hd) => [(1, (.func (.func 45) #[] #[])), (4, (.pointer (some ⟨b3, 0, none⟩))), (6, (g885).v), (20, (nodes_h).v), (21, (.int .i64 ((nodes_.length : Nat) : Int))), (22, (.int .i64 ((k14 : Nat) : Int)))]) (fun _ (s884 : List (Int × Int)) (g885 : Hd) w' => Cx w0 fp0 S0 w' [Bx b3 [(.int .i64 0), (.int .i64 0)], E (List (Int × Int)) s884 g885, Es (List (Int × Int × ByteArray)) nodes_ nodes_h]) ([] : List (Int × Int)) h12 e ⟨rfl, rfl, rfl, rfl, rfl, rfl, trivial⟩ (H.sel [1, 0, 2] rfl) ?_ ?_
    · clear H e
      rintro T891 k14 s884 g885 w890 o892 hk (H : Cx w0 fp0 S0 w890 [Bx b3 [(.int .i64 0), (.int .i64 0)], E (List (Int × Int)) s884 g885, Es (List (Int × Int × ByteArray)) nodes_ nodes_h]) hrt hF893
      refine boolE (z := true) (ltLen hk) ?_
      refine sq ?_
      obtain ⟨r1107, hF1109, hF1108⟩ := bindS hF893; clear hF893
      refine cut (fun (q1110 : (List (Int × Int)) × Hd) => [(1, (.func (.func 45) #[] #[])), (4, (.pointer (some ⟨b3, 0, none⟩))), (6, (q1110.2).v), (20, (nodes_h).v), (21, (.int .i64 ((nodes_.length : Nat) : Int))), (22, (.int .i64 ((k14 : Nat) : Int)))]) (fun (q1110 : (List (Int × Int)) × Hd) w' => .inl q1110.1 = r1107 ∧ Cx w0 fp0 S0 w' [Bx b3 [(.int .i64 0), (.int .i64 0)], E (List (Int × Int)) q1110.1 q1110.2, Es (List (Int × Int × ByteArray)) nodes_ nodes_h]) ?_ ?_
      · skip
        obtain ⟨a1117, e, hF1118⟩ := bindS hF1109; clear hF1109
        have HH := H; clear H; obtain ⟨p1115, m1116, g1119, c1111, c1112, c1113, c1114, H⟩ := HH.el (α := Int × Int × ByteArray) 2 rfl e; clear HH
        clear e
        obtain ⟨a1117_0, a1117_1, a1117_2⟩ := a1117
        obtain ⟨_, _, _⟩ := g1119
        replace H := H.sel [1, 2, 3] rfl
        refine idxE c1111 c1112 c1113 ?_; clear c1111 c1112 c1113
        refine loadN [(.int .i64 a1117_0), (.int .i64 a1117_1), (.string a1117_2)] rfl c1114 ?_; clear c1114
        refine alloc_ gok rfl H ?_; clear H; intro b1122 w1121 hx H
        clear hx
        replace H : Cx w0 fp0 S0 w1121 [Bx b1122 [(.int .i64 0), (.int .i64 0), (.string .empty)], Bx b3 [(.int .i64 0), (.int .i64 0)], E (List (Int × Int)) s884 g885, Es (List (Int × Int × ByteArray)) nodes_ nodes_h] := H
        refine stA gok [(.int .i64 a1117_0), (.int .i64 a1117_1), (.string a1117_2)] rfl H rfl rfl rfl ?_; clear H; intro w1124 H
        replace H : Cx w0 fp0 S0 w1124 [Bx b1122 [(.int .i64 a1117_0), (.int .i64 a1117_1), (.string a1117_2)], Bx b3 [(.int .i64 0), (.int .i64 0)], E (List (Int × Int)) s884 g885, Es (List (Int × Int × ByteArray)) nodes_ nodes_h] := H
        refine sq ?_
        obtain ⟨r1133, hF1135, hF1134⟩ := bindS hF1118; clear hF1118
        refine cut (fun (q1136 : Bool) => [(1, (.func (.func 45) #[] #[])), (4, (.pointer (some ⟨b3, 0, none⟩))), (6, (g885).v), (8, (.pointer (some ⟨b1122, 0, none⟩))), (20, (nodes_h).v), (21, (.int .i64 ((nodes_.length : Nat) : Int))), (22, (.int .i64 ((k14 : Nat) : Int))), (33, (.bool q1136))]) (fun (q1136 : Bool) w' => q1136 = r1133 ∧ Cx w0 fp0 S0 w' [Bx b3 [(.int .i64 0), (.int .i64 0)], E (List (Int × Int)) s884 g885, Bx b1122 [(.int .i64 a1117_0), (.int .i64 a1117_1), (.string a1117_2)], Es (List (Int × Int × ByteArray)) nodes_ nodes_h]) ?_ ?_
        · skip
          refine fld gok rfl rfl rfl rfl ?_
          refine load1 (H.bx 0 rfl (j := 0) rfl) ?_
          obtain ⟨a1137, e, hF1138⟩ := bindS hF1135; clear hF1135
          refine boolO e ?_; clear e
          cases a1137
          · have hF1139 := condF hF1138; clear hF1138
            exact ⟨false, ⟨rfl, rfl, rfl, rfl, rfl, rfl, rfl, rfl, trivial⟩, Option.some.inj hF1139, H.sel [1, 2, 0, 3] rfl⟩
          · have hF1140 := condT hF1138; clear hF1138
            refine fld gok rfl rfl rfl rfl ?_
            refine load1 (H.bx 0 rfl (j := 0) rfl) ?_
            obtain ⟨a1141, e, hF1142⟩ := bindS hF1140; clear hF1140
            refine boolO e ?_; clear e
            exact ⟨a1141, ⟨rfl, rfl, rfl, rfl, rfl, rfl, rfl, rfl, trivial⟩, Option.some.inj hF1142, H.sel [1, 2, 0, 3] rfl⟩
        · clear hF1135 H
          rintro T1144 s1131 w1143 ⟨hr, (H : Cx w0 fp0 S0 w1143 [Bx b3 [(.int .i64 0), (.int .i64 0)], E (List (Int × Int)) s884 g885, Bx b1122 [(.int .i64 a1117_0), (.int .i64 a1117_1), (.string a1117_2)], Es (List (Int × Int × ByteArray)) nodes_ nodes_h])⟩
          subst hr
          cases s1131
          · have hF1145 := condF hF1134; clear hF1134
            refine sq ?_
            obtain ⟨r1158, hF1160, hF1159⟩ := bindS hF1145; clear hF1145
            refine cut (fun (q1161 : Bool) => [(1, (.func (.func 45) #[] #[])), (4, (.pointer (some ⟨b3, 0, none⟩))), (6, (g885).v), (8, (.pointer (some ⟨b1122, 0, none⟩))), (20, (nodes_h).v), (21, (.int .i64 ((nodes_.length : Nat) : Int))), (22, (.int .i64 ((k14 : Nat) : Int))), (59, (.bool q1161))]) (fun (q1161 : Bool) w' => q1161 = r1158 ∧ Cx w0 fp0 S0 w' [Bx b3 [(.int .i64 0), (.int .i64 0)], E (List (Int × Int)) s884 g885, Bx b1122 [(.int .i64 a1117_0), (.int .i64 a1117_1), (.string a1117_2)], Es (List (Int × Int × ByteArray)) nodes_ nodes_h]) ?_ ?_
            · skip
              refine fld gok rfl rfl rfl rfl ?_
              refine load1 (H.bx 2 rfl (j := 1) rfl) ?_
              obtain ⟨a1162, e, hF1163⟩ := bindS hF1160; clear hF1160
              refine boolO e ?_; clear e
              cases a1162
              · have hF1164 := condF hF1163; clear hF1163
                refine fld gok rfl rfl rfl rfl ?_
                refine load1 (H.bx 2 rfl (j := 2) rfl) ?_
                obtain ⟨a1165, e, hF1166⟩ := bindS hF1164; clear hF1164
                refine neqZ e ?_; clear e
                cases a1165
                · have hF1167 := condF hF1166; clear hF1166
                  refine lenE (H.ro (α := List (Int × Int)) 1 rfl).len ?_
                  obtain ⟨a1168, e, hF1169⟩ := bindS hF1167; clear hF1167
                  refine boolO e ?_; clear e
                  exact ⟨a1168, ⟨rfl, rfl, rfl, rfl, rfl, rfl, rfl, rfl, trivial⟩, Option.some.inj hF1169, H.sel [0, 1, 2, 3] rfl⟩
                · have hF1170 := condT hF1166; clear hF1166
                  exact ⟨true, ⟨rfl, rfl, rfl, rfl, rfl, rfl, rfl, rfl, trivial⟩, Option.some.inj hF1170, H.sel [0, 1, 2, 3] rfl⟩
              · have hF1171 := condT hF1163; clear hF1163
                exact ⟨true, ⟨rfl, rfl, rfl, rfl, rfl, rfl, rfl, rfl, trivial⟩, Option.some.inj hF1171, H.sel [0, 1, 2, 3] rfl⟩
            · clear hF1160 H
              rintro T1173 s1156 w1172 ⟨hr, (H : Cx w0 fp0 S0 w1172 [Bx b3 [(.int .i64 0), (.int .i64 0)], E (List (Int × Int)) s884 g885, Bx b1122 [(.int .i64 a1117_0), (.int .i64 a1117_1), (.string a1117_2)], Es (List (Int × Int × ByteArray)) nodes_ nodes_h])⟩
              subst hr
              cases s1156
              · have hF1174 := condF hF1159; clear hF1159
                refine lenE (H.ro (α := List (Int × Int)) 1 rfl).len ?_
                obtain ⟨a1175, e, hF1176⟩ := bindS hF1174; clear hF1174
                refine arO e ?_; clear e
                obtain ⟨r1223, hF1225, hF1224⟩ := bindS hF1176; clear hF1176
                refine heldJ H [16, 17, 14] (.fst 0 (.fst 2 (.fst 3 (.fst 4 (.fst 5 (.fst 7 (.fst 8 (.fst 9 (.fst 1 (.fst 6 (.fst 10 (.alts (.alt 11 (.fst 12 (.pure 14 (.fst 13 (.act 15 (.act 16 (.act 17 .done)))))) (.alt 15 (.act 11 (.fst 12 (.pure 14 (.fst 13 (.act 16 (.act 17 .done)))))) .no)))))))))))))) mixed [] trivial (by kernel_rfl) (fun (q1226 : (Int × Int × Bool) × Nat) => [(1, (.func (.func 45) #[] #[])), (4, (.pointer (some ⟨b3, 0, none⟩))), (6, (g885).v), (11, (.int .i64 a1175)), (12, (.pointer (some ⟨q1226.2, 0, none⟩))), (13, (.bool q1226.1.2.2)), (20, (nodes_h).v), (21, (.int .i64 ((nodes_.length : Nat) : Int))), (22, (.int .i64 ((k14 : Nat) : Int)))]) (fun (q1226 : (Int × Int × Bool) × Nat) w' => (q1226.1.1, q1226.1.2.1, q1226.1.2.2) = r1223 ∧ Cx w0 fp0 S0 w' [Bx b3 [(.int .i64 0), (.int .i64 0)], E (List (Int × Int)) s884 g885, Bx q1226.2 [(.int .i64 q1226.1.1), (.int .i64 q1226.1.2.1)], Es (List (Int × Int × ByteArray)) nodes_ nodes_h]) ?_ ?_
                · skip
                  clear H; intro w1227 H
                  have hX : Ext w1227 w1227 := Upd.refl _ _
                  have H0 := H
                  refine anyH (fun _ => fld gok rfl rfl rfl rfl ⟨rfl, rfl⟩) ?_
                  obtain ⟨a1228, e, hF1229⟩ := bindS hF1225; clear hF1225
                  refine arO e ?_; clear e
                  obtain ⟨a1236, e, hF1237⟩ := bindS hF1229; clear hF1229
                  replace H := H.sel [1, 0, 2, 3] rfl
                  replace H := H.toEH (α := Int × Int)
                  have HH := H; clear H; obtain ⟨p1234, m1235, g1238, c1230, c1231, c1232, c1233, H⟩ := HH.peek e; clear HH
                  clear e
                  obtain ⟨a1236_0, a1236_1⟩ := a1236
                  obtain ⟨_, _⟩ := g1238
                  refine idxE c1230 c1231 c1232 ?_
                  obtain ⟨a1245, e, hF1246⟩ := bindS hF1237; clear hF1237
                  have HH := H; clear H; obtain ⟨p1243, m1244, g1247, c1239, c1240, c1241, c1242, H⟩ := HH.peek e; clear HH
                  clear e
                  obtain ⟨a1245_0, a1245_1⟩ := a1245
                  obtain ⟨_, _⟩ := g1247
                  refine idxE c1239 c1240 c1241 ?_
                  refine load1X (H.bx 2 rfl (j := 0) rfl) ?_
                  refine loadNX [(.int .i64 a1236_0), (.int .i64 a1236_1)] rfl c1233 ?_; clear c1233
                  refine loadNX [(.int .i64 a1245_0), (.int .i64 a1245_1)] rfl c1242 ?_; clear c1242
                  refine both ?_ ?_
                  · skip
                    obtain ⟨y1255, e, hF1256⟩ := bindS hF1246; clear hF1246
                    obtain ⟨⟨y1255_0_0, y1255_0_1⟩, y1255_1⟩ := y1255
                    have ey1255 := e; clear e
                    refine callFx (impl_joinWires_c a1117_0 a1236_0 a1236_1 a1245_0 a1245_1 y1255_0_0 y1255_0_1 y1255_1 ey1255) H trivial ?_; clear H ey1255
                    rintro _ _ w1257 ⟨rfl, rfl⟩ hx (H : Cx w0 fp0 S0 w1257 [EH (Int × Int) s884 g885 [⟨m1244, (a1245_0, a1245_1), ((), ())⟩, ⟨m1235, (a1236_0, a1236_1), ((), ())⟩], Bx b3 [(.int .i64 0), (.int .i64 0)], Bx b1122 [(.int .i64 a1117_0), (.int .i64 a1117_1), (.string a1117_2)], Es (List (Int × Int × ByteArray)) nodes_ nodes_h])
                    replace hX := hX.trans0 hx; clear hx
                    refine hold hX ?_
                    refine alloc_ gok rfl H ?_; clear H; intro b1259 w1258 hx H
                    replace hX := hX.trans0 hx; clear hx
                    replace H : Cx w0 fp0 S0 w1258 [Bx b1259 [(.int .i64 0), (.int .i64 0)], EH (Int × Int) s884 g885 [⟨m1244, (a1245_0, a1245_1), ((), ())⟩, ⟨m1235, (a1236_0, a1236_1), ((), ())⟩], Bx b3 [(.int .i64 0), (.int .i64 0)], Bx b1122 [(.int .i64 a1117_0), (.int .i64 a1117_1), (.string a1117_2)], Es (List (Int × Int × ByteArray)) nodes_ nodes_h] := H
                    refine hold hX ?_
                    refine stA gok [(.int .i64 y1255_0_0), (.int .i64 y1255_0_1)] rfl H rfl rfl rfl ?_; clear H; intro w1261 H
                    replace H : Cx w0 fp0 S0 w1261 [Bx b1259 [(.int .i64 y1255_0_0), (.int .i64 y1255_0_1)], EH (Int × Int) s884 g885 [⟨m1244, (a1245_0, a1245_1), ((), ())⟩, ⟨m1235, (a1236_0, a1236_1), ((), ())⟩], Bx b3 [(.int .i64 0), (.int .i64 0)], Bx b1122 [(.int .i64 a1117_0), (.int .i64 a1117_1), (.string a1117_2)], Es (List (Int × Int × ByteArray)) nodes_ nodes_h] := H
                    refine hold trivial ?_
                    refine hold trivial ?_
                    replace H := H.sel [1, 0, 2, 3, 4] rfl
                    replace H := H.ofEH
                    exact ⟨((y1255_0_0, y1255_0_1, y1255_1), b1259), ⟨rfl, rfl, rfl, rfl, rfl, rfl, rfl, rfl, rfl, trivial⟩, Option.some.inj hF1256, H.sel [2, 0, 1, 4] rfl⟩
                  · skip
                    refine both ?_ ?_
                    · skip
                      obtain ⟨a1262, eq1263, hF1264⟩ := bindS hF1246; clear hF1246
                      refine alloc_ gok rfl H ?_; clear H; intro b1266 w1265 hx H
                      replace hX := hX.trans0 hx; clear hx
                      replace H : Cx w0 fp0 S0 w1265 [Bx b1266 [(.int .i64 0), (.int .i64 0)], EH (Int × Int) s884 g885 [⟨m1244, (a1245_0, a1245_1), ((), ())⟩, ⟨m1235, (a1236_0, a1236_1), ((), ())⟩], Bx b3 [(.int .i64 0), (.int .i64 0)], Bx b1122 [(.int .i64 a1117_0), (.int .i64 a1117_1), (.string a1117_2)], Es (List (Int × Int × ByteArray)) nodes_ nodes_h] := H
                      refine hold hX ?_
                      have e := eq1263; clear eq1263
                      obtain ⟨⟨a1262_0_0, a1262_0_1⟩, a1262_1⟩ := a1262
                      have ea1262 := e; clear e
                      refine callFx (impl_joinWires_c a1117_0 a1236_0 a1236_1 a1245_0 a1245_1 a1262_0_0 a1262_0_1 a1262_1 ea1262) H trivial ?_; clear H ea1262
                      rintro _ _ w1268 ⟨rfl, rfl⟩ hx (H : Cx w0 fp0 S0 w1268 [Bx b1266 [(.int .i64 0), (.int .i64 0)], EH (Int × Int) s884 g885 [⟨m1244, (a1245_0, a1245_1), ((), ())⟩, ⟨m1235, (a1236_0, a1236_1), ((), ())⟩], Bx b3 [(.int .i64 0), (.int .i64 0)], Bx b1122 [(.int .i64 a1117_0), (.int .i64 a1117_1), (.string a1117_2)], Es (List (Int × Int × ByteArray)) nodes_ nodes_h])
                      replace hX := hX.trans0 hx; clear hx
                      refine hold hX ?_
                      refine stA gok [(.int .i64 a1262_0_0), (.int .i64 a1262_0_1)] rfl H rfl rfl rfl ?_; clear H; intro w1269 H
                      replace H : Cx w0 fp0 S0 w1269 [Bx b1266 [(.int .i64 a1262_0_0), (.int .i64 a1262_0_1)], EH (Int × Int) s884 g885 [⟨m1244, (a1245_0, a1245_1), ((), ())⟩, ⟨m1235, (a1236_0, a1236_1), ((), ())⟩], Bx b3 [(.int .i64 0), (.int .i64 0)], Bx b1122 [(.int .i64 a1117_0), (.int .i64 a1117_1), (.string a1117_2)], Es (List (Int × Int × ByteArray)) nodes_ nodes_h] := H
                      refine hold trivial ?_
                      refine hold trivial ?_
                      replace H := H.sel [1, 0, 2, 3, 4] rfl
                      replace H := H.ofEH
                      exact ⟨((a1262_0_0, a1262_0_1, a1262_1), b1266), ⟨rfl, rfl, rfl, rfl, rfl, rfl, rfl, rfl, rfl, trivial⟩, Option.some.inj hF1264, H.sel [2, 0, 1, 4] rfl⟩
                    · skip
                      exact trivial
                · clear hF1225 H
                  rintro T1271 ⟨⟨s1220_0, s1220_1, s1220_2⟩, g1221⟩ w1270 ⟨hr, (H : Cx w0 fp0 S0 w1270 [Bx b3 [(.int .i64 0), (.int .i64 0)], E (List (Int × Int)) s884 g885, Bx g1221 [(.int .i64 s1220_0), (.int .i64 s1220_1)], Es (List (Int × Int × ByteArray)) nodes_ nodes_h])⟩
                  subst hr
                  refine sq ?_
                  obtain ⟨a1272, e, hF1273⟩ := bindS hF1224; clear hF1224
                  refine boolO e ?_; clear e
                  cases a1272
                  · have hF1274 := condF hF1273; clear hF1273
                    refine heldX H [6, 7] (.fst 0 (.fst 1 (.fst 2 (.fst 3 (.fst 4 (.act 5 (.act 6 (.act 7 .done)))))))) mixed [] trivial (by kernel_rfl) ?_
                    clear H; intro w1275 H
                    have hX : Ext w1275 w1275 := Upd.refl _ _
                    have H0 := H
                    obtain ⟨a1276, e, hF1277⟩ := bindS hF1274; clear hF1274
                    refine arO e ?_; clear e
                    obtain ⟨a1278, e, hF1279⟩ := bindS hF1277; clear hF1277
                    replace H := H.sel [1, 0, 2, 3] rfl
                    refine slOX (α := Int × Int) gok rfl rfl H e rfl rfl ?_; clear e; intro h1280 HH; clear H; have H := HH; clear HH
                    refine loadNX [(.int .i64 s1220_0), (.int .i64 s1220_1)] rfl (fun j u hj => H.bx 2 rfl hj) ?_
                    replace H := H.sc (α := Int) s1220_1
                    replace H := H.sc (α := Int) s1220_0
                    replace H := H.join (α := Int) (β := Int)
                    refine lit1 (α := Int × Int) (g := ((), ())) gok rfl rfl rfl rfl rfl H ?_; clear H; intro h1283 w1282 hx H
                    replace hX := hX.trans0 hx; clear hx
                    refine hold hX ?_
                    obtain ⟨a1288, e, hF1289⟩ := bindS hF1279; clear hF1279
                    replace H := H.sel [1, 0, 2, 3, 4] rfl
                    refine append_ (α := Int × Int) gok rfl rfl rfl rfl H e ?_; clear e H; intro h1291 w1290 H
                    refine hold trivial ?_
                    refine hold trivial ?_
                    exact ⟨(a1288, h1291), ⟨rfl, rfl, rfl, rfl, rfl, rfl, trivial⟩, Option.some.inj hF1289, H.sel [1, 0, 3] rfl⟩
                  · have hF1293 := condT hF1273; clear hF1273
                    refine build_ (cs := #[(.int .i64 0), (.int .i64 0)]) gok rfl rfl rfl ?_
                    refine stA gok [(.int .i64 0), (.int .i64 0)] rfl H rfl rfl rfl ?_; clear H; intro w1294 H
                    replace H : Cx w0 fp0 S0 w1294 [Bx b3 [(.int .i64 0), (.int .i64 0)], E (List (Int × Int)) s884 g885, Bx g1221 [(.int .i64 s1220_0), (.int .i64 s1220_1)], Es (List (Int × Int × ByteArray)) nodes_ nodes_h] := H
                    have hs := Option.some.inj hF1293; subst hs; clear hF1293
                    have hF1295 : some _ = some _ := hF1108; clear hF1108
                    have hs := Option.some.inj hF1295; subst hs; clear hF1295
                    have hr := hrt _ rfl; subst hr
                    have hF1296 : some _ = some _ := hF889
                    refine loadN [(.int .i64 0), (.int .i64 0)] rfl (fun j u hj => H.bx 0 rfl hj) ?_
                    cases hF1296
                    exact ⟨_, _, rfl, ⟨rfl, rfl⟩, (H.sel [] rfl).close trivial⟩
              · have hF1297 := condT hF1159; clear hF1159
                refine build_ (cs := #[(.int .i64 0), (.int .i64 0)]) gok rfl rfl rfl ?_
                refine stA gok [(.int .i64 0), (.int .i64 0)] rfl H rfl rfl rfl ?_; clear H; intro w1298 H
                replace H : Cx w0 fp0 S0 w1298 [Bx b3 [(.int .i64 0), (.int .i64 0)], E (List (Int × Int)) s884 g885, Bx b1122 [(.int .i64 a1117_0), (.int .i64 a1117_1), (.string a1117_2)], Es (List (Int × Int × ByteArray)) nodes_ nodes_h] := H
                have hs := Option.some.inj hF1297; subst hs; clear hF1297
                have hF1299 : some _ = some _ := hF1108; clear hF1108
                have hs := Option.some.inj hF1299; subst hs; clear hF1299
                have hr := hrt _ rfl; subst hr
                have hF1300 : some _ = some _ := hF889
                refine loadN [(.int .i64 0), (.int .i64 0)] rfl (fun j u hj => H.bx 0 rfl hj) ?_
                cases hF1300
                exact ⟨_, _, rfl, ⟨rfl, rfl⟩, (H.sel [] rfl).close trivial⟩
          · have hF1301 := condT hF1134; clear hF1134
            refine loadN [(.int .i64 a1117_0), (.int .i64 a1117_1), (.string a1117_2)] rfl (fun j u hj => H.bx 2 rfl hj) ?_
            obtain ⟨y1302, e, hF1303⟩ := bindS hF1301; clear hF1301
            obtain ⟨⟨y1302_0_0, y1302_0_1⟩, y1302_1⟩ := y1302
            have ey1302 := e; clear e
            refine callF (impl_leafWires_c a1117_0 a1117_1 a1117_2 y1302_0_0 y1302_0_1 y1302_1 ey1302) (Γi := []) H trivial ?_; clear H ey1302
            rintro _ _ w1304 ⟨rfl, rfl⟩ (H : Cx w0 fp0 S0 w1304 [Bx b3 [(.int .i64 0), (.int .i64 0)], E (List (Int × Int)) s884 g885, Bx b1122 [(.int .i64 a1117_0), (.int .i64 a1117_1), (.string a1117_2)], Es (List (Int × Int × ByteArray)) nodes_ nodes_h])
            refine alloc_ gok rfl H ?_; clear H; intro b1306 w1305 hx H
            clear hx
            replace H : Cx w0 fp0 S0 w1305 [Bx b1306 [(.int .i64 0), (.int .i64 0)], Bx b3 [(.int .i64 0), (.int .i64 0)], E (List (Int × Int)) s884 g885, Bx b1122 [(.int .i64 a1117_0), (.int .i64 a1117_1), (.string a1117_2)], Es (List (Int × Int × ByteArray)) nodes_ nodes_h] := H
            refine stA gok [(.int .i64 y1302_0_0), (.int .i64 y1302_0_1)] rfl H rfl rfl rfl ?_; clear H; intro w1308 H
            replace H : Cx w0 fp0 S0 w1308 [Bx b1306 [(.int .i64 y1302_0_0), (.int .i64 y1302_0_1)], Bx b3 [(.int .i64 0), (.int .i64 0)], E (List (Int × Int)) s884 g885, Bx b1122 [(.int .i64 a1117_0), (.int .i64 a1117_1), (.string a1117_2)], Es (List (Int × Int × ByteArray)) nodes_ nodes_h] := H
            refine sq ?_
            obtain ⟨a1309, e, hF1310⟩ := bindS hF1303; clear hF1303
            refine boolO e ?_; clear e
            cases a1309
            · have hF1311 := condF hF1310; clear hF1310
              refine loadN [(.int .i64 y1302_0_0), (.int .i64 y1302_0_1)] rfl (fun j u hj => H.bx 0 rfl hj) ?_
              replace H := H.sc (α := Int) y1302_0_1
              replace H := H.sc (α := Int) y1302_0_0
              replace H := H.join (α := Int) (β := Int)
              refine lit1 (α := Int × Int) (g := ((), ())) gok rfl rfl rfl rfl rfl H ?_; clear H; intro h1313 w1312 hx H
              clear hx
              obtain ⟨a1318, e, hF1319⟩ := bindS hF1311; clear hF1311
              replace H := H.sel [3, 0, 1, 2, 4, 5] rfl
              refine append_ (α := Int × Int) gok rfl rfl rfl rfl H e ?_; clear e H; intro h1321 w1320 H
              exact ⟨(a1318, h1321), ⟨rfl, rfl, rfl, rfl, rfl, rfl, trivial⟩, Option.some.inj hF1319, H.sel [2, 0, 4] rfl⟩
            · have hF1323 := condT hF1310; clear hF1310
              refine build_ (cs := #[(.int .i64 0), (.int .i64 0)]) gok rfl rfl rfl ?_
              replace H := H.sel [1, 0, 2, 3, 4] rfl
              refine stA gok [(.int .i64 0), (.int .i64 0)] rfl H rfl rfl rfl ?_; clear H; intro w1324 H
              replace H : Cx w0 fp0 S0 w1324 [Bx b3 [(.int .i64 0), (.int .i64 0)], Bx b1306 [(.int .i64 y1302_0_0), (.int .i64 y1302_0_1)], E (List (Int × Int)) s884 g885, Bx b1122 [(.int .i64 a1117_0), (.int .i64 a1117_1), (.string a1117_2)], Es (List (Int × Int × ByteArray)) nodes_ nodes_h] := H
              have hs := Option.some.inj hF1323; subst hs; clear hF1323
              have hF1325 : some _ = some _ := hF1108; clear hF1108
              have hs := Option.some.inj hF1325; subst hs; clear hF1325
              have hr := hrt _ rfl; subst hr
              have hF1326 : some _ = some _ := hF889
              refine loadN [(.int .i64 0), (.int .i64 0)] rfl (fun j u hj => H.bx 0 rfl hj) ?_
              cases hF1326
              exact ⟨_, _, rfl, ⟨rfl, rfl⟩, (H.sel [] rfl).close trivial⟩
      · clear hF1109 H
        rintro T1328 ⟨s1104, g1105⟩ w1327 ⟨hr, (H : Cx w0 fp0 S0 w1327 [Bx b3 [(.int .i64 0), (.int .i64 0)], E (List (Int × Int)) s1104 g1105, Es (List (Int × Int × ByteArray)) nodes_ nodes_h])⟩
        subst hr
        refine arK hk hmx887 ?_
        have hs := Option.some.inj hF1108; subst hs; clear hF1108
        exact ⟨s1104, g1105, rfl, ⟨rfl, rfl, rfl, rfl, rfl, rfl, trivial⟩, H.sel [0, 1, 2] rfl⟩
    · clear H e
      rintro T1330 s1331 g1332 w1329 hr (H : Cx w0 fp0 S0 w1329 [Bx b3 [(.int .i64 0), (.int .i64 0)], E (List (Int × Int)) s1331 g1332, Es (List (Int × Int × ByteArray)) nodes_ nodes_h])
      subst hr
      refine boolE (z := false) geLen ?_
      refine sq ?_
      obtain ⟨a1340, e, hF1341⟩ := bindS hF889; clear hF889
      replace H := H.sel [1, 0, 2] rfl
      replace H := H.toEH (α := Int × Int)
      have HH := H; clear H; obtain ⟨p1338, m1339, g1342, c1334, c1335, c1336, c1337, H⟩ := HH.peek e; clear HH
      clear e
      obtain ⟨a1340_0, a1340_1⟩ := a1340
      obtain ⟨_, _⟩ := g1342
      refine idxE c1334 c1335 c1336 ?_
      refine loadN [(.int .i64 a1340_0), (.int .i64 a1340_1)] rfl c1337 ?_; clear c1337
      refine lenE (H.rohd (α := Int × Int) 0 rfl).len ?_
      obtain ⟨a1343, e, hF1344⟩ := bindS hF1341; clear hF1341
      refine boolO e ?_; clear e
      replace H := H.sel [1, 0, 2] rfl
      refine stA gok [(.int .i64 a1340_0), (.int .i64 a1340_1)] rfl H rfl rfl rfl ?_; clear H; intro w1345 H
      replace H : Cx w0 fp0 S0 w1345 [Bx b3 [(.int .i64 a1340_0), (.int .i64 a1340_1)], EH (Int × Int) s1331 g1332 [⟨m1339, (a1340_0, a1340_1), ((), ())⟩], Es (List (Int × Int × ByteArray)) nodes_ nodes_h] := H
      replace H := H.sel [1, 0, 2] rfl
      replace H := H.ofEH
      refine loadN [(.int .i64 a1340_0), (.int .i64 a1340_1)] rfl (fun j u hj => H.bx 1 rfl hj) ?_
      cases hF1344
      exact ⟨_, _, rfl, ⟨rfl, rfl⟩, (H.sel [] rfl).close trivial⟩
  · have hF1346 := condT hF9; clear hF9
    refine build_ (cs := #[(.int .i64 0), (.int .i64 0)]) gok rfl rfl rfl ?_
    refine stA gok [(.int .i64 0), (.int .i64 0)] rfl H rfl rfl rfl ?_; clear H; intro w1347 H
    replace H : Cx w0 fp0 S0 w1347 [Bx b3 [(.int .i64 0), (.int .i64 0)], Es (List (Int × Int × ByteArray)) nodes_ nodes_h] := H
    refine loadN [(.int .i64 0), (.int .i64 0)] rfl (fun j u hj => H.bx 0 rfl hj) ?_
    cases hF1346
    exact ⟨_, _, rfl, ⟨rfl, rfl⟩, (H.sel [] rfl).close trivial⟩

theorem impl_Term_wires_c (t__0 : List (Int × Int × ByteArray)) (t__0h : Hd) (y0_0 : Int) (y0_1 : Int) (y1 : Bool) (hF : F_impl_Term_wires t__0 = some ((y0_0, y0_1), y1)) :
    ConF Try.prog 28 #[(.agg #[(t__0h).v])] [Es (List (Int × Int × ByteArray)) t__0 t__0h] [] (fun v Γ' => v = (.tuple #[(.agg #[(.int .i64 y0_0), (.int .i64 y0_1)]), (.bool y1)]) ∧ Γ' = []) := by
  intro w0 S0 fp0 hI hS
  have H : Cx w0 fp0 S0 w0 [Es (List (Int × Int × ByteArray)) t__0 t__0h] := Cx.start hI hS
  clear hI hS
  refine enterC (args := [_]) gok Try.func28 rfl _ rfl rfl rfl ?_
  refine box_ H ?_; clear H; intro b3 w2 hx H
  clear hx
  replace H : Cx w0 fp0 S0 w2 [Bx b3 [(t__0h).v], Es (List (Int × Int × ByteArray)) t__0 t__0h] := H
  refine alloc_ gok rfl H ?_; clear H; intro b6 w5 hx H
  clear hx
  replace H : Cx w0 fp0 S0 w5 [Bx b6 [(.int .i64 0), (.int .i64 0)], Bx b3 [(t__0h).v], Es (List (Int × Int × ByteArray)) t__0 t__0h] := H
  refine fld gok rfl rfl rfl rfl ?_
  refine load1 (H.bx 1 rfl (j := 0) rfl) ?_
  obtain ⟨y8, e, hF9⟩ := bindS hF; clear hF
  obtain ⟨⟨y8_0_0, y8_0_1⟩, y8_1⟩ := y8
  have ey8 := e; clear e
  refine callF (impl_typed_impl_leafWires_c t__0 t__0h y8_0_0 y8_0_1 y8_1 ey8) (Γi := []) H ⟨Vw.sh 2 rfl, trivial⟩ ?_; clear H ey8
  rintro _ _ w10 ⟨rfl, rfl⟩ (H : Cx w0 fp0 S0 w10 [Bx b6 [(.int .i64 0), (.int .i64 0)], Bx b3 [(t__0h).v], Es (List (Int × Int × ByteArray)) t__0 t__0h])
  refine stA gok [(.int .i64 y8_0_0), (.int .i64 y8_0_1)] rfl H rfl rfl rfl ?_; clear H; intro w11 H
  replace H : Cx w0 fp0 S0 w11 [Bx b6 [(.int .i64 y8_0_0), (.int .i64 y8_0_1)], Bx b3 [(t__0h).v], Es (List (Int × Int × ByteArray)) t__0 t__0h] := H
  refine loadN [(.int .i64 y8_0_0), (.int .i64 y8_0_1)] rfl (fun j u hj => H.bx 0 rfl hj) ?_
  cases hF9
  exact ⟨_, _, rfl, ⟨rfl, rfl⟩, (H.sel [] rfl).close trivial⟩

theorem impl_isLower_c (b_ : Int) (y : Bool) (hF : F_impl_isLower b_ = some y) :
    ConF Try.prog 46 #[(.int .u8 b_)] [] [] (fun v Γ' => v = (.bool y) ∧ Γ' = []) := by
  intro w0 S0 fp0 hI hS
  have H : Cx w0 fp0 S0 w0 [] := Cx.start hI hS
  clear hI hS
  refine enterC (args := [_]) gok Try.func46 rfl _ rfl rfl rfl ?_
  obtain ⟨r9, hF11, hF10⟩ := bindS hF; clear hF
  refine cut (fun (q12 : Bool) => [(2, (.bool q12))]) (fun (q12 : Bool) w' => q12 = r9 ∧ Cx w0 fp0 S0 w' []) ?_ ?_
  · skip
    obtain ⟨a13, e, hF14⟩ := bindS hF11; clear hF11
    refine geqY e ?_; clear e
    cases a13
    · have hF15 := condF hF14; clear hF14
      exact ⟨false, ⟨rfl, trivial⟩, Option.some.inj hF15, H.sel [] rfl⟩
    · have hF16 := condT hF14; clear hF14
      obtain ⟨a17, e, hF18⟩ := bindS hF16; clear hF16
      refine leqY e ?_; clear e
      exact ⟨a17, ⟨rfl, trivial⟩, Option.some.inj hF18, H.sel [] rfl⟩
  · clear hF11 H
    rintro T20 s7 w19 ⟨hr, (H : Cx w0 fp0 S0 w19 [])⟩
    subst hr
    cases hF10
    exact ⟨_, _, rfl, ⟨rfl, rfl⟩, (H.sel [] rfl).close trivial⟩

theorem impl_kindWords_c  (y : List ByteArray) (hF : F_impl_kindWords = some y) :
    ConF Try.prog 66 #[] [] [] (fun v Γ' => ∃ z0 : Hd, v = (z0).v ∧ Γ' = [E (List ByteArray) y z0]) := by
  intro w0 S0 fp0 hI hS
  have H : Cx w0 fp0 S0 w0 [] := Cx.start hI hS
  clear hI hS
  refine enterC (args := []) gok Try.func66 rfl _ rfl rfl rfl ?_
  replace H := H.sc (α := ByteArray) ⟨#[99, 111, 100, 101, 108, 97, 121]⟩
  replace H := H.sc (α := ByteArray) ⟨#[99, 111, 115, 99, 97, 108, 101]⟩
  replace H := H.sc (α := ByteArray) ⟨#[99, 111, 122, 101, 114, 111]⟩
  replace H := H.sc (α := ByteArray) ⟨#[99, 111, 97, 100, 100]⟩
  replace H := H.sc (α := ByteArray) ⟨#[99, 111, 100, 105, 115, 99, 97, 114, 100]⟩
  replace H := H.sc (α := ByteArray) ⟨#[99, 111, 99, 111, 112, 121]⟩
  replace H := H.sc (α := ByteArray) ⟨#[100, 101, 108, 97, 121]⟩
  replace H := H.sc (α := ByteArray) ⟨#[115, 99, 97, 108, 101]⟩
  replace H := H.sc (α := ByteArray) ⟨#[122, 101, 114, 111]⟩
  replace H := H.sc (α := ByteArray) ⟨#[97, 100, 100]⟩
  replace H := H.sc (α := ByteArray) ⟨#[100, 105, 115, 99, 97, 114, 100]⟩
  replace H := H.sc (α := ByteArray) ⟨#[99, 111, 112, 121]⟩
  replace H := H.sc (α := ByteArray) ⟨#[115, 119, 97, 112]⟩
  replace H := H.sc (α := ByteArray) ⟨#[105, 100]⟩
  replace H := H.sc (α := ByteArray) .empty
  refine litN (α := ByteArray) (us := [(.string .empty), (.string ⟨#[105, 100]⟩), (.string ⟨#[115, 119, 97, 112]⟩), (.string ⟨#[99, 111, 112, 121]⟩), (.string ⟨#[100, 105, 115, 99, 97, 114, 100]⟩), (.string ⟨#[97, 100, 100]⟩), (.string ⟨#[122, 101, 114, 111]⟩), (.string ⟨#[115, 99, 97, 108, 101]⟩), (.string ⟨#[100, 101, 108, 97, 121]⟩), (.string ⟨#[99, 111, 99, 111, 112, 121]⟩), (.string ⟨#[99, 111, 100, 105, 115, 99, 97, 114, 100]⟩), (.string ⟨#[99, 111, 97, 100, 100]⟩), (.string ⟨#[99, 111, 122, 101, 114, 111]⟩), (.string ⟨#[99, 111, 115, 99, 97, 108, 101]⟩), (.string ⟨#[99, 111, 100, 101, 108, 97, 121]⟩)]) (xs := [.empty, ⟨#[105, 100]⟩, ⟨#[115, 119, 97, 112]⟩, ⟨#[99, 111, 112, 121]⟩, ⟨#[100, 105, 115, 99, 97, 114, 100]⟩, ⟨#[97, 100, 100]⟩, ⟨#[122, 101, 114, 111]⟩, ⟨#[115, 99, 97, 108, 101]⟩, ⟨#[100, 101, 108, 97, 121]⟩, ⟨#[99, 111, 99, 111, 112, 121]⟩, ⟨#[99, 111, 100, 105, 115, 99, 97, 114, 100]⟩, ⟨#[99, 111, 97, 100, 100]⟩, ⟨#[99, 111, 122, 101, 114, 111]⟩, ⟨#[99, 111, 115, 99, 97, 108, 101]⟩, ⟨#[99, 111, 100, 101, 108, 97, 121]⟩]) (gs := [(), (), (), (), (), (), (), (), (), (), (), (), (), (), ()]) gok rfl rfl rfl ⟨rfl, rfl, rfl, rfl, rfl, rfl, rfl, rfl, rfl, rfl, rfl, rfl, rfl, rfl, rfl, trivial⟩ rfl rfl H ?_; clear H; intro h2 w1 hx H
  clear hx
  cases hF
  exact ⟨_, _, rfl, ⟨h2, rfl, rfl⟩, (H.sel [0] rfl).close ⟨cloE, trivial⟩⟩

theorem impl_kindOf_c (word_ : ByteArray) (y : Int) (hF : F_impl_kindOf word_ = some y) :
    ConF Try.prog 47 #[(.string word_)] [] [] (fun v Γ' => v = (.int .i64 y) ∧ Γ' = []) := by
  intro w0 S0 fp0 hI hS
  have H : Cx w0 fp0 S0 w0 [] := Cx.start hI hS
  clear hI hS
  refine enterC (args := [_]) gok Try.func47 rfl _ rfl rfl rfl ?_
  refine sq ?_
  obtain ⟨y1, e, hF2⟩ := bindS hF; clear hF
  have ey1 := e; clear e
  refine callF (impl_kindWords_c y1 ey1) (Γi := []) H trivial ?_; clear H ey1
  rintro _ _ w3 ⟨h4, rfl, rfl⟩ (H : Cx w0 fp0 S0 w3 [E (List ByteArray) y1 h4])
  refine lenE (H.ro (α := List ByteArray) 0 rfl).len ?_
  have hmx23 := (H.ro (α := List ByteArray) 0 rfl).max
  obtain ⟨r24, e, hF25⟩ := bindS hF2; clear hF2
  refine loopO _ y1.length (fun (k6 : Nat) (_ : Unit) (_ : Unit) => [(0, (.string word_)), (5, (h4).v), (6, (.int .i64 ((y1.length : Nat) : Int))), (7, (.int .i64 ((k6 : Nat) : Int)))]) (fun _ (_ : Unit) (_ : Unit) w' => Cx w0 fp0 S0 w' [E (List ByteArray) y1 h4]) () () e ⟨rfl, rfl, rfl, rfl, trivial⟩ (H.sel [0] rfl) ?_ ?_
  · clear H e
    rintro T27 k6 _ _ w26 o28 hk (H : Cx w0 fp0 S0 w26 [E (List ByteArray) y1 h4]) hrt hF29
    refine boolE (z := true) (ltLen hk) ?_
    refine sq ?_
    refine sq ?_
    obtain ⟨a36, e, hF37⟩ := bindS hF29; clear hF29
    obtain ⟨p34, m35, c30, c31, c32, c33⟩ := (H.ro (α := List ByteArray) 0 rfl).at1 e; clear e
    refine idxE c30 c31 c32 ?_; clear c30 c31 c32
    refine load1 c33 ?_; clear c33
    obtain ⟨a38, e, hF39⟩ := bindS hF37; clear hF37
    refine eqZ e ?_; clear e
    cases a38
    · have hF40 := condF hF39; clear hF39
      refine arK hk hmx23 ?_
      have hs := Option.some.inj hF40; subst hs; clear hF40
      exact ⟨(), (), rfl, ⟨rfl, rfl, rfl, rfl, trivial⟩, H.sel [0] rfl⟩
    · have hF41 := condT hF39; clear hF39
      have hs := Option.some.inj hF41; subst hs; clear hF41
      have hr := hrt _ rfl; subst hr
      have hF42 : some _ = some _ := hF25
      cases hF42
      exact ⟨_, _, rfl, ⟨rfl, rfl⟩, (H.sel [] rfl).close trivial⟩
  · clear H e
    rintro T44 _ _ w43 hr (H : Cx w0 fp0 S0 w43 [E (List ByteArray) y1 h4])
    subst hr
    refine boolE (z := false) geLen ?_
    refine sq ?_
    cases hF25
    exact ⟨_, _, rfl, ⟨rfl, rfl⟩, (H.sel [] rfl).close trivial⟩

theorem impl_isDigit_c (b_ : Int) (y : Bool) (hF : F_impl_isDigit b_ = some y) :
    ConF Try.prog 48 #[(.int .u8 b_)] [] [] (fun v Γ' => v = (.bool y) ∧ Γ' = []) := by
  intro w0 S0 fp0 hI hS
  have H : Cx w0 fp0 S0 w0 [] := Cx.start hI hS
  clear hI hS
  refine enterC (args := [_]) gok Try.func48 rfl _ rfl rfl rfl ?_
  obtain ⟨r9, hF11, hF10⟩ := bindS hF; clear hF
  refine cut (fun (q12 : Bool) => [(2, (.bool q12))]) (fun (q12 : Bool) w' => q12 = r9 ∧ Cx w0 fp0 S0 w' []) ?_ ?_
  · skip
    obtain ⟨a13, e, hF14⟩ := bindS hF11; clear hF11
    refine geqY e ?_; clear e
    cases a13
    · have hF15 := condF hF14; clear hF14
      exact ⟨false, ⟨rfl, trivial⟩, Option.some.inj hF15, H.sel [] rfl⟩
    · have hF16 := condT hF14; clear hF14
      obtain ⟨a17, e, hF18⟩ := bindS hF16; clear hF16
      refine leqY e ?_; clear e
      exact ⟨a17, ⟨rfl, trivial⟩, Option.some.inj hF18, H.sel [] rfl⟩
  · clear hF11 H
    rintro T20 s7 w19 ⟨hr, (H : Cx w0 fp0 S0 w19 [])⟩
    subst hr
    cases hF10
    exact ⟨_, _, rfl, ⟨rfl, rfl⟩, (H.sel [] rfl).close trivial⟩

theorem impl_isName_c (s_ : ByteArray) (y : Bool) (hF : F_impl_isName s_ = some y) :
    ConF Try.prog 29 #[(.string s_)] [] [] (fun v Γ' => v = (.bool y) ∧ Γ' = []) := by
  intro w0 S0 fp0 hI hS
  have H : Cx w0 fp0 S0 w0 [] := Cx.start hI hS
  clear hI hS
  refine enterC (args := [_]) gok Try.func29 rfl _ rfl rfl rfl ?_
  refine sq ?_
  obtain ⟨r24, hF26, hF25⟩ := bindS hF; clear hF
  refine cut (fun (q27 : Bool) => [(0, (.string s_)), (18, (.bool q27))]) (fun (q27 : Bool) w' => q27 = r24 ∧ Cx w0 fp0 S0 w' []) ?_ ?_
  · skip
    refine lenE (m := s_.size) rfl ?_
    obtain ⟨y28, e, hF29⟩ := bindS hF26; clear hF26
    have ey28 := e; clear e
    refine callF (impl_within_c ((s_.size : Nat) : Int) 1 8 y28 ey28) (Γi := []) H trivial ?_; clear H ey28
    rintro _ _ w30 ⟨rfl, rfl⟩ (H : Cx w0 fp0 S0 w30 [])
    obtain ⟨a31, e, hF32⟩ := bindS hF29; clear hF29
    refine boolO e ?_; clear e
    cases a31
    · have hF33 := condF hF32; clear hF32
      obtain ⟨a34, e, hF35⟩ := bindS hF33; clear hF33
      refine indexZ gok rfl e ?_; clear e
      obtain ⟨y36, e, hF37⟩ := bindS hF35; clear hF35
      have ey36 := e; clear e
      refine callF (impl_isLower_c a34 y36 ey36) (Γi := []) H trivial ?_; clear H ey36
      rintro _ _ w38 ⟨rfl, rfl⟩ (H : Cx w0 fp0 S0 w38 [])
      obtain ⟨a39, e, hF40⟩ := bindS hF37; clear hF37
      refine boolO e ?_; clear e
      cases a39
      · have hF41 := condF hF40; clear hF40
        obtain ⟨y42, e, hF43⟩ := bindS hF41; clear hF41
        have ey42 := e; clear e
        refine callF (impl_kindOf_c s_ y42 ey42) (Γi := []) H trivial ?_; clear H ey42
        rintro _ _ w44 ⟨rfl, rfl⟩ (H : Cx w0 fp0 S0 w44 [])
        obtain ⟨a45, e, hF46⟩ := bindS hF43; clear hF43
        refine boolO e ?_; clear e
        exact ⟨a45, ⟨rfl, rfl, trivial⟩, Option.some.inj hF46, H.sel [] rfl⟩
      · have hF47 := condT hF40; clear hF40
        exact ⟨true, ⟨rfl, rfl, trivial⟩, Option.some.inj hF47, H.sel [] rfl⟩
    · have hF48 := condT hF32; clear hF32
      exact ⟨true, ⟨rfl, rfl, trivial⟩, Option.some.inj hF48, H.sel [] rfl⟩
  · clear hF26 H
    rintro T50 s22 w49 ⟨hr, (H : Cx w0 fp0 S0 w49 [])⟩
    subst hr
    cases s22
    · have hF51 := condF hF25; clear hF25
      refine sq ?_
      refine lenE (m := s_.size) rfl ?_
      obtain ⟨a99, hn, hF100⟩ := bindS hF51; clear hF51
      obtain ⟨r102, e, hF103⟩ := bindS hF100; clear hF100
      refine loopO _ (((s_.size : Nat) : Int).toNat) (fun (k52 : Nat) (_ : Unit) (_ : Unit) => [(0, (.string s_)), (20, (.int .i64 ((s_.size : Nat) : Int))), (21, (.int .i64 ((k52 : Nat) : Int)))]) (fun _ (_ : Unit) (_ : Unit) w' => Cx w0 fp0 S0 w' []) () () e ⟨rfl, rfl, rfl, trivial⟩ (H.sel [] rfl) ?_ ?_
      · clear H e
        rintro T105 k52 _ _ w104 o106 hk (H : Cx w0 fp0 S0 w104 []) hrt hF107
        refine boolE (z := true) (ltNat hk) ?_
        refine sq ?_
        refine sq ?_
        obtain ⟨r126, hF128, hF127⟩ := bindS hF107; clear hF107
        refine cut (fun (q129 : Bool) => [(0, (.string s_)), (20, (.int .i64 ((s_.size : Nat) : Int))), (21, (.int .i64 ((k52 : Nat) : Int))), (35, (.bool q129))]) (fun (q129 : Bool) w' => q129 = r126 ∧ Cx w0 fp0 S0 w' []) ?_ ?_
        · skip
          obtain ⟨a130, e, hF131⟩ := bindS hF128; clear hF128
          refine indexZ gok rfl e ?_; clear e
          obtain ⟨y132, e, hF133⟩ := bindS hF131; clear hF131
          have ey132 := e; clear e
          refine callF (impl_isLower_c a130 y132 ey132) (Γi := []) H trivial ?_; clear H ey132
          rintro _ _ w134 ⟨rfl, rfl⟩ (H : Cx w0 fp0 S0 w134 [])
          obtain ⟨a135, e, hF136⟩ := bindS hF133; clear hF133
          refine boolO e ?_; clear e
          cases a135
          · have hF137 := condF hF136; clear hF136
            exact ⟨false, ⟨rfl, rfl, rfl, rfl, trivial⟩, Option.some.inj hF137, H.sel [] rfl⟩
          · have hF138 := condT hF136; clear hF136
            obtain ⟨a139, e, hF140⟩ := bindS hF138; clear hF138
            refine indexZ gok rfl e ?_; clear e
            obtain ⟨y141, e, hF142⟩ := bindS hF140; clear hF140
            have ey141 := e; clear e
            refine callF (impl_isDigit_c a139 y141 ey141) (Γi := []) H trivial ?_; clear H ey141
            rintro _ _ w143 ⟨rfl, rfl⟩ (H : Cx w0 fp0 S0 w143 [])
            obtain ⟨a144, e, hF145⟩ := bindS hF142; clear hF142
            refine boolO e ?_; clear e
            exact ⟨a144, ⟨rfl, rfl, rfl, rfl, trivial⟩, Option.some.inj hF145, H.sel [] rfl⟩
        · clear hF128 H
          rintro T147 s124 w146 ⟨hr, (H : Cx w0 fp0 S0 w146 [])⟩
          subst hr
          cases s124
          · have hF148 := condF hF127; clear hF127
            refine arK hk (maxI hn) ?_
            have hs := Option.some.inj hF148; subst hs; clear hF148
            exact ⟨(), (), rfl, ⟨rfl, rfl, rfl, trivial⟩, H.sel [] rfl⟩
          · have hF149 := condT hF127; clear hF127
            have hs := Option.some.inj hF149; subst hs; clear hF149
            have hr := hrt _ rfl; subst hr
            have hF150 : some _ = some _ := hF103
            cases hF150
            exact ⟨_, _, rfl, ⟨rfl, rfl⟩, (H.sel [] rfl).close trivial⟩
      · clear H e
        rintro T152 _ _ w151 hr (H : Cx w0 fp0 S0 w151 [])
        subst hr
        refine boolE (z := false) geNat ?_
        refine sq ?_
        cases hF103
        exact ⟨_, _, rfl, ⟨rfl, rfl⟩, (H.sel [] rfl).close trivial⟩
    · have hF155 := condT hF25; clear hF25
      cases hF155
      exact ⟨_, _, rfl, ⟨rfl, rfl⟩, (H.sel [] rfl).close trivial⟩

theorem impl_zeros_c (n_ : Int) (y : List Int) (hF : F_impl_zeros n_ = some y) :
    ConF Try.prog 94 #[(.int .i64 n_)] [] [] (fun v Γ' => ∃ z0 : Hd, v = (z0).v ∧ Γ' = [E (List Int) y z0]) := by
  intro w0 S0 fp0 hI hS
  have H : Cx w0 fp0 S0 w0 [] := Cx.start hI hS
  clear hI hS
  refine enterC (args := [_]) gok Try.func94 rfl _ rfl rfl rfl ?_
  obtain ⟨a1, e, hF2⟩ := bindS hF; clear hF
  refine make_ (α := Int) gok rfl rfl rfl rfl (makeCO_of e) H ?_; clear e H; intro h4 w3 hx H
  clear hx
  cases hF2
  exact ⟨_, _, rfl, ⟨h4, rfl, rfl⟩, (H.sel [0] rfl).close ⟨cloE, trivial⟩⟩

theorem impl_upTo_c (n_ : Int) (y : List Int) (hF : F_impl_upTo n_ = some y) :
    ConF Try.prog 74 #[(.int .i64 n_)] [] [] (fun v Γ' => ∃ z0 : Hd, v = (z0).v ∧ Γ' = [E (List Int) y z0]) := by
  intro w0 S0 fp0 hI hS
  have H : Cx w0 fp0 S0 w0 [] := Cx.start hI hS
  clear hI hS
  refine enterC (args := [_]) gok Try.func74 rfl _ rfl rfl rfl ?_
  obtain ⟨y1, e, hF2⟩ := bindS hF; clear hF
  have ey1 := e; clear e
  refine callF (impl_zeros_c n_ y1 ey1) (Γi := []) H trivial ?_; clear H ey1
  rintro _ _ w3 ⟨h4, rfl, rfl⟩ (H : Cx w0 fp0 S0 w3 [E (List Int) y1 h4])
  refine sq ?_
  refine lenE (H.ro (α := List Int) 0 rfl).len ?_
  have hmx31 := (H.ro (α := List Int) 0 rfl).max
  obtain ⟨r32, e, hF33⟩ := bindS hF2; clear hF2
  refine loopS _ y1.length (fun (k6 : Nat) (s29 : List Int) (_ : Unit) => [(3, (h4).v), (8, (.int .i64 ((y1.length : Nat) : Int))), (9, (.int .i64 ((k6 : Nat) : Int)))]) (fun _ (s29 : List Int) (_ : Unit) w' => Cx w0 fp0 S0 w' [E (List Int) s29 h4]) y1 () e ⟨rfl, rfl, rfl, trivial⟩ (H.sel [0] rfl) ?_ ?_
  · clear H e
    rintro T35 k6 s29 _ w34 o36 hk (H : Cx w0 fp0 S0 w34 [E (List Int) s29 h4]) hF37
    refine boolE (z := true) (ltLen hk) ?_
    refine sq ?_
    refine sq ?_
    obtain ⟨a44, e, hF45⟩ := bindS hF37; clear hF37
    have ea44 := e; clear e
    obtain ⟨p42, m43, c38, c39, c40⟩ := (H.ro (α := List Int) 0 rfl).setp ea44
    refine idxE c38 c39 c40 ?_
    refine setS (α := Int) H c38 c39 ea44 ?_; clear H c38 c39 c40 ea44; intro w46 H
    refine arK hk hmx31 ?_
    have hs := Option.some.inj hF45; subst hs; clear hF45
    exact ⟨(), ⟨rfl, rfl, rfl, trivial⟩, H.sel [0] rfl⟩
  · clear H e
    rintro T48 _ w47 (H : Cx w0 fp0 S0 w47 [E (List Int) r32 h4])
    refine boolE (z := false) geLen ?_
    refine sq ?_
    cases hF33
    exact ⟨_, _, rfl, ⟨h4, rfl, rfl⟩, (H.sel [0] rfl).close ⟨cloE, trivial⟩⟩

theorem impl_chosen_c (v_ : List Int) (v_h : Hd) (at_ : List Int) (at_h : Hd) (y : List Int) (hF : F_impl_chosen v_ at_ = some y) :
    ConF Try.prog 90 #[(v_h).v, (at_h).v] [Es (List Int) v_ v_h, Es (List Int) at_ at_h] [] (fun v Γ' => ∃ z0 : Hd, v = (z0).v ∧ Γ' = [E (List Int) y z0]) := by
  intro w0 S0 fp0 hI hS
  have H : Cx w0 fp0 S0 w0 [Es (List Int) v_ v_h, Es (List Int) at_ at_h] := Cx.start hI hS
  clear hI hS
  refine enterC (args := [_, _]) gok Try.func90 rfl _ rfl rfl rfl ?_
  refine lenE (H.rs (α := List Int) 1 rfl).len ?_
  obtain ⟨a3, e, hF4⟩ := bindS hF; clear hF
  refine make_ (α := Int) gok rfl rfl rfl rfl e H ?_; clear e H; intro h6 w5 hx H
  clear hx
  refine sq ?_
  refine lenE (H.rs (α := List Int) 2 rfl).len ?_
  have hmx65 := (H.rs (α := List Int) 2 rfl).max
  obtain ⟨r66, e, hF67⟩ := bindS hF4; clear hF4
  refine loopS _ at_.length (fun (k8 : Nat) (s62 : List Int) (g63 : Hd) => [(0, (v_h).v), (5, (g63).v), (11, (at_h).v), (12, (.int .i64 ((at_.length : Nat) : Int))), (13, (.int .i64 ((k8 : Nat) : Int)))]) (fun _ (s62 : List Int) (g63 : Hd) w' => Cx w0 fp0 S0 w' [Es (List Int) v_ v_h, E (List Int) s62 g63, Es (List Int) at_ at_h]) a3 h6 e ⟨rfl, rfl, rfl, rfl, rfl, trivial⟩ (H.sel [1, 0, 2] rfl) ?_ ?_
  · clear H e
    rintro T69 k8 s62 g63 w68 o70 hk (H : Cx w0 fp0 S0 w68 [Es (List Int) v_ v_h, E (List Int) s62 g63, Es (List Int) at_ at_h]) hF71
    refine boolE (z := true) (ltLen hk) ?_
    refine sq ?_
    refine sq ?_
    obtain ⟨a78, e, hF79⟩ := bindS hF71; clear hF71
    obtain ⟨p76, m77, c72, c73, c74, c75⟩ := (H.rs (α := List Int) 2 rfl).at1 e; clear e
    refine idxE c72 c73 c74 ?_; clear c72 c73 c74
    refine load1 c75 ?_; clear c75
    obtain ⟨a86, e, hF87⟩ := bindS hF79; clear hF79
    obtain ⟨p84, m85, c80, c81, c82, c83⟩ := (H.rs (α := List Int) 0 rfl).at1 e; clear e
    refine idxE c80 c81 c82 ?_; clear c80 c81 c82
    refine load1 c83 ?_; clear c83
    refine lit1S (α := Int) gok rfl rfl rfl rfl H ?_; clear H; intro h89 w88 hx H
    clear hx
    obtain ⟨a91, e, hF92⟩ := bindS hF87; clear hF87
    replace H := H.sel [2, 0, 1, 3] rfl
    refine append_ (α := Int) gok rfl rfl rfl rfl H e ?_; clear e H; intro h94 w93 H
    refine arK hk hmx65 ?_
    have hs := Option.some.inj hF92; subst hs; clear hF92
    exact ⟨h94, ⟨rfl, rfl, rfl, rfl, rfl, trivial⟩, H.sel [1, 0, 2] rfl⟩
  · clear H e
    rintro T97 g99 w96 (H : Cx w0 fp0 S0 w96 [Es (List Int) v_ v_h, E (List Int) r66 g99, Es (List Int) at_ at_h])
    refine boolE (z := false) geLen ?_
    refine sq ?_
    cases hF67
    exact ⟨_, _, rfl, ⟨g99, rfl, rfl⟩, (H.sel [1] rfl).close ⟨cloE, trivial⟩⟩

theorem impl_mapped_c (list_ : List Int) (list_h : Hd) (to_ : List Int) (to_h : Hd) (y : List Int) (hF : F_impl_mapped list_ to_ = some y) :
    ConF Try.prog 69 #[(list_h).v, (to_h).v] [Es (List Int) list_ list_h, Es (List Int) to_ to_h] [] (fun v Γ' => ∃ z0 : Hd, v = (z0).v ∧ Γ' = [E (List Int) y z0]) := by
  intro w0 S0 fp0 hI hS
  have H : Cx w0 fp0 S0 w0 [Es (List Int) list_ list_h, Es (List Int) to_ to_h] := Cx.start hI hS
  clear hI hS
  refine enterC (args := [_, _]) gok Try.func69 rfl _ rfl rfl rfl ?_
  obtain ⟨y3, e, hF4⟩ := bindS hF; clear hF
  have ey3 := e; clear e
  refine callF (impl_chosen_c to_ to_h list_ list_h y3 ey3) (Γi := []) H ⟨Vw.sh 1 rfl, Vw.sh 0 rfl, trivial⟩ ?_; clear H ey3
  rintro _ _ w5 ⟨h6, rfl, rfl⟩ (H : Cx w0 fp0 S0 w5 [E (List Int) y3 h6, Es (List Int) list_ list_h, Es (List Int) to_ to_h])
  cases hF4
  exact ⟨_, _, rfl, ⟨h6, rfl, rfl⟩, (H.sel [0] rfl).close ⟨cloE, trivial⟩⟩

theorem impl_Graph_moved_c (g__0 : Int) (g__1 : List (Int × Int × List Int × List Int)) (g__1h : Hd) (g__2 : List Int) (g__2h : Hd) (g__3 : List Int) (g__3h : Hd) (count_ : Int) (to_ : List Int) (to_h : Hd) (y_0 : Int) (y_1 : List (Int × Int × List Int × List Int)) (y_2 : List Int) (y_3 : List Int) (hF : F_impl_Graph_moved (g__0, g__1, g__2, g__3) count_ to_ = some (y_0, y_1, y_2, y_3)) :
    ConF Try.prog 89 #[(.agg #[(.int .i64 g__0), (g__1h).v, (g__2h).v, (g__3h).v]), (.int .i64 count_), (to_h).v] [Es (List (Int × Int × List Int × List Int)) g__1 g__1h, Es (List Int) g__2 g__2h, Es (List Int) g__3 g__3h, Es (List Int) to_ to_h] [] (fun v Γ' => ∃ z0 z1 z2 : Hd, v = (.agg #[(.int .i64 y_0), (z0).v, (z1).v, (z2).v]) ∧ Γ' = [E (List (Int × Int × List Int × List Int)) y_1 z0, E (List Int) y_2 z1, E (List Int) y_3 z2]) := by
  intro w0 S0 fp0 hI hS
  have H : Cx w0 fp0 S0 w0 [Es (List (Int × Int × List Int × List Int)) g__1 g__1h, Es (List Int) g__2 g__2h, Es (List Int) g__3 g__3h, Es (List Int) to_ to_h] := Cx.start hI hS
  clear hI hS
  refine enterC (args := [_, _, _]) gok Try.func89 rfl _ rfl rfl rfl ?_
  refine box_ H ?_; clear H; intro b6 w5 hx H
  clear hx
  replace H : Cx w0 fp0 S0 w5 [Bx b6 [(.int .i64 g__0), (g__1h).v, (g__2h).v, (g__3h).v], Es (List (Int × Int × List Int × List Int)) g__1 g__1h, Es (List Int) g__2 g__2h, Es (List Int) g__3 g__3h, Es (List Int) to_ to_h] := H
  refine alloc_ gok rfl H ?_; clear H; intro b9 w8 hx H
  clear hx
  replace H : Cx w0 fp0 S0 w8 [Bx b9 [(.int .i64 0), (.slice none 0 0), (.slice none 0 0), (.slice none 0 0)], Bx b6 [(.int .i64 g__0), (g__1h).v, (g__2h).v, (g__3h).v], Es (List (Int × Int × List Int × List Int)) g__1 g__1h, Es (List Int) g__2 g__2h, Es (List Int) g__3 g__3h, Es (List Int) to_ to_h] := H
  obtain ⟨r80, hF82, hF81⟩ := bindS hF; clear hF
  refine heldJ H [11] (.fst 0 (.fst 1 (.fst 3 (.fst 5 (.fst 7 (.fst 2 (.fst 6 (.alts (.alt 4 (.alts (.alt 8 (.fst 9 (.act 10 (.act 11 .done))) (.alt 10 (.act 8 (.fst 9 (.act 11 .done))) .no))) (.alt 10 (.act 4 (.act 8 (.fst 9 (.act 11 .done)))) .no)))))))))) mixed [] trivial (by kernel_rfl) (fun (q83 : (Int × List Int × List Int) × (Hd × Hd × Nat)) => [(2, (to_h).v), (3, (.pointer (some ⟨b6, 0, none⟩))), (6, (.pointer (some ⟨b9, 0, none⟩))), (7, (.pointer (some ⟨q83.2.2.2, 0, none⟩)))]) (fun (q83 : (Int × List Int × List Int) × (Hd × Hd × Nat)) w' => (q83.1.1, q83.1.2.1, q83.1.2.2) = r80 ∧ Cx w0 fp0 S0 w' [Es (List Int) to_ to_h, Bx b6 [(.int .i64 g__0), (g__1h).v, (g__2h).v, (g__3h).v], Es (List (Int × Int × List Int × List Int)) g__1 g__1h, Es (List Int) g__2 g__2h, Es (List Int) g__3 g__3h, Bx b9 [(.int .i64 0), (.slice none 0 0), (.slice none 0 0), (.slice none 0 0)], Bx q83.2.2.2 [(.int .i64 q83.1.1), (.slice none 0 0), (q83.2.1).v, (q83.2.2.1).v], E (List Int) q83.1.2.1 q83.2.1, E (List Int) q83.1.2.2 q83.2.2.1]) ?_ ?_
  · skip
    clear H; intro w84 H
    have hX : Ext w84 w84 := Upd.refl _ _
    have H0 := H
    refine anyH (fun _ => fld gok rfl rfl rfl rfl ⟨rfl, rfl⟩) ?_
    refine anyH (fun _ => fld gok rfl rfl rfl rfl ⟨rfl, rfl⟩) ?_
    refine load1X (H.bx 1 rfl (j := 2) rfl) ?_
    refine load1X (H.bx 1 rfl (j := 3) rfl) ?_
    refine both ?_ ?_
    · skip
      obtain ⟨y99, e, hF100⟩ := bindS hF82; clear hF82
      have ey99 := e; clear e
      refine callFx (impl_mapped_c g__2 g__2h to_ to_h y99 ey99) H ⟨Vw.sh 3 rfl, Vw.sh 5 rfl, trivial⟩ ?_; clear H ey99
      rintro _ _ w101 ⟨h102, rfl, rfl⟩ hx (H : Cx w0 fp0 S0 w101 [E (List Int) y99 h102, Bx b9 [(.int .i64 0), (.slice none 0 0), (.slice none 0 0), (.slice none 0 0)], Bx b6 [(.int .i64 g__0), (g__1h).v, (g__2h).v, (g__3h).v], Es (List (Int × Int × List Int × List Int)) g__1 g__1h, Es (List Int) g__2 g__2h, Es (List Int) g__3 g__3h, Es (List Int) to_ to_h])
      replace hX := hX.trans0 hx; clear hx
      refine hold hX ?_
      refine both ?_ ?_
      · skip
        obtain ⟨y113, e, hF114⟩ := bindS hF100; clear hF100
        have ey113 := e; clear e
        refine callFx (impl_mapped_c g__3 g__3h to_ to_h y113 ey113) H ⟨Vw.sh 5 rfl, Vw.sh 6 rfl, trivial⟩ ?_; clear H ey113
        rintro _ _ w115 ⟨h116, rfl, rfl⟩ hx (H : Cx w0 fp0 S0 w115 [E (List Int) y113 h116, E (List Int) y99 h102, Bx b9 [(.int .i64 0), (.slice none 0 0), (.slice none 0 0), (.slice none 0 0)], Bx b6 [(.int .i64 g__0), (g__1h).v, (g__2h).v, (g__3h).v], Es (List (Int × Int × List Int × List Int)) g__1 g__1h, Es (List Int) g__2 g__2h, Es (List Int) g__3 g__3h, Es (List Int) to_ to_h])
        replace hX := hX.trans0 hx; clear hx
        refine hold hX ?_
        refine anyH (fun _ => build_ (cs := #[(.int .i64 count_), (.slice none 0 0), (h102).v, (h116).v]) gok rfl rfl rfl ⟨rfl, rfl⟩) ?_
        refine alloc_ gok rfl H ?_; clear H; intro b119 w118 hx H
        replace hX := hX.trans0 hx; clear hx
        replace H : Cx w0 fp0 S0 w118 [Bx b119 [(.int .i64 0), (.slice none 0 0), (.slice none 0 0), (.slice none 0 0)], E (List Int) y113 h116, E (List Int) y99 h102, Bx b9 [(.int .i64 0), (.slice none 0 0), (.slice none 0 0), (.slice none 0 0)], Bx b6 [(.int .i64 g__0), (g__1h).v, (g__2h).v, (g__3h).v], Es (List (Int × Int × List Int × List Int)) g__1 g__1h, Es (List Int) g__2 g__2h, Es (List Int) g__3 g__3h, Es (List Int) to_ to_h] := H
        refine hold hX ?_
        refine stA gok [(.int .i64 count_), (.slice none 0 0), (h102).v, (h116).v] rfl H rfl rfl rfl ?_; clear H; intro w121 H
        replace H : Cx w0 fp0 S0 w121 [Bx b119 [(.int .i64 count_), (.slice none 0 0), (h102).v, (h116).v], E (List Int) y113 h116, E (List Int) y99 h102, Bx b9 [(.int .i64 0), (.slice none 0 0), (.slice none 0 0), (.slice none 0 0)], Bx b6 [(.int .i64 g__0), (g__1h).v, (g__2h).v, (g__3h).v], Es (List (Int × Int × List Int × List Int)) g__1 g__1h, Es (List Int) g__2 g__2h, Es (List Int) g__3 g__3h, Es (List Int) to_ to_h] := H
        refine hold trivial ?_
        exact ⟨((count_, y99, y113), (h102, h116, b119)), ⟨rfl, rfl, rfl, rfl, trivial⟩, Option.some.inj hF114, H.sel [8, 4, 5, 6, 7, 3, 0, 2, 1] rfl⟩
      · skip
        refine both ?_ ?_
        · skip
          obtain ⟨a122, eq123, hF124⟩ := bindS hF100; clear hF100
          refine alloc_ gok rfl H ?_; clear H; intro b126 w125 hx H
          replace hX := hX.trans0 hx; clear hx
          replace H : Cx w0 fp0 S0 w125 [Bx b126 [(.int .i64 0), (.slice none 0 0), (.slice none 0 0), (.slice none 0 0)], E (List Int) y99 h102, Bx b9 [(.int .i64 0), (.slice none 0 0), (.slice none 0 0), (.slice none 0 0)], Bx b6 [(.int .i64 g__0), (g__1h).v, (g__2h).v, (g__3h).v], Es (List (Int × Int × List Int × List Int)) g__1 g__1h, Es (List Int) g__2 g__2h, Es (List Int) g__3 g__3h, Es (List Int) to_ to_h] := H
          refine hold hX ?_
          have e := eq123; clear eq123
          have ea122 := e; clear e
          refine callFx (impl_mapped_c g__3 g__3h to_ to_h a122 ea122) H ⟨Vw.sh 6 rfl, Vw.sh 7 rfl, trivial⟩ ?_; clear H ea122
          rintro _ _ w128 ⟨h129, rfl, rfl⟩ hx (H : Cx w0 fp0 S0 w128 [E (List Int) a122 h129, Bx b126 [(.int .i64 0), (.slice none 0 0), (.slice none 0 0), (.slice none 0 0)], E (List Int) y99 h102, Bx b9 [(.int .i64 0), (.slice none 0 0), (.slice none 0 0), (.slice none 0 0)], Bx b6 [(.int .i64 g__0), (g__1h).v, (g__2h).v, (g__3h).v], Es (List (Int × Int × List Int × List Int)) g__1 g__1h, Es (List Int) g__2 g__2h, Es (List Int) g__3 g__3h, Es (List Int) to_ to_h])
          replace hX := hX.trans0 hx; clear hx
          refine hold hX ?_
          refine anyH (fun _ => build_ (cs := #[(.int .i64 count_), (.slice none 0 0), (h102).v, (h129).v]) gok rfl rfl rfl ⟨rfl, rfl⟩) ?_
          replace H := H.sel [1, 0, 2, 3, 4, 5, 6, 7, 8] rfl
          refine stA gok [(.int .i64 count_), (.slice none 0 0), (h102).v, (h129).v] rfl H rfl rfl rfl ?_; clear H; intro w131 H
          replace H : Cx w0 fp0 S0 w131 [Bx b126 [(.int .i64 count_), (.slice none 0 0), (h102).v, (h129).v], E (List Int) a122 h129, E (List Int) y99 h102, Bx b9 [(.int .i64 0), (.slice none 0 0), (.slice none 0 0), (.slice none 0 0)], Bx b6 [(.int .i64 g__0), (g__1h).v, (g__2h).v, (g__3h).v], Es (List (Int × Int × List Int × List Int)) g__1 g__1h, Es (List Int) g__2 g__2h, Es (List Int) g__3 g__3h, Es (List Int) to_ to_h] := H
          refine hold trivial ?_
          exact ⟨((count_, y99, a122), (h102, h129, b126)), ⟨rfl, rfl, rfl, rfl, trivial⟩, Option.some.inj hF124, H.sel [8, 4, 5, 6, 7, 3, 0, 2, 1] rfl⟩
        · skip
          exact trivial
    · skip
      refine both ?_ ?_
      · skip
        obtain ⟨a132, eq133, hF134⟩ := bindS hF82; clear hF82
        obtain ⟨a135, eq136, hF137⟩ := bindS hF134; clear hF134
        refine alloc_ gok rfl H ?_; clear H; intro b139 w138 hx H
        replace hX := hX.trans0 hx; clear hx
        replace H : Cx w0 fp0 S0 w138 [Bx b139 [(.int .i64 0), (.slice none 0 0), (.slice none 0 0), (.slice none 0 0)], Bx b9 [(.int .i64 0), (.slice none 0 0), (.slice none 0 0), (.slice none 0 0)], Bx b6 [(.int .i64 g__0), (g__1h).v, (g__2h).v, (g__3h).v], Es (List (Int × Int × List Int × List Int)) g__1 g__1h, Es (List Int) g__2 g__2h, Es (List Int) g__3 g__3h, Es (List Int) to_ to_h] := H
        refine hold hX ?_
        have e := eq133; clear eq133
        have ea132 := e; clear e
        refine callFx (impl_mapped_c g__2 g__2h to_ to_h a132 ea132) H ⟨Vw.sh 4 rfl, Vw.sh 6 rfl, trivial⟩ ?_; clear H ea132
        rintro _ _ w141 ⟨h142, rfl, rfl⟩ hx (H : Cx w0 fp0 S0 w141 [E (List Int) a132 h142, Bx b139 [(.int .i64 0), (.slice none 0 0), (.slice none 0 0), (.slice none 0 0)], Bx b9 [(.int .i64 0), (.slice none 0 0), (.slice none 0 0), (.slice none 0 0)], Bx b6 [(.int .i64 g__0), (g__1h).v, (g__2h).v, (g__3h).v], Es (List (Int × Int × List Int × List Int)) g__1 g__1h, Es (List Int) g__2 g__2h, Es (List Int) g__3 g__3h, Es (List Int) to_ to_h])
        replace hX := hX.trans0 hx; clear hx
        refine hold hX ?_
        have e := eq136; clear eq136
        have ea135 := e; clear e
        refine callFx (impl_mapped_c g__3 g__3h to_ to_h a135 ea135) H ⟨Vw.sh 6 rfl, Vw.sh 7 rfl, trivial⟩ ?_; clear H ea135
        rintro _ _ w144 ⟨h145, rfl, rfl⟩ hx (H : Cx w0 fp0 S0 w144 [E (List Int) a135 h145, E (List Int) a132 h142, Bx b139 [(.int .i64 0), (.slice none 0 0), (.slice none 0 0), (.slice none 0 0)], Bx b9 [(.int .i64 0), (.slice none 0 0), (.slice none 0 0), (.slice none 0 0)], Bx b6 [(.int .i64 g__0), (g__1h).v, (g__2h).v, (g__3h).v], Es (List (Int × Int × List Int × List Int)) g__1 g__1h, Es (List Int) g__2 g__2h, Es (List Int) g__3 g__3h, Es (List Int) to_ to_h])
        replace hX := hX.trans0 hx; clear hx
        refine hold hX ?_
        refine anyH (fun _ => build_ (cs := #[(.int .i64 count_), (.slice none 0 0), (h142).v, (h145).v]) gok rfl rfl rfl ⟨rfl, rfl⟩) ?_
        replace H := H.sel [2, 0, 1, 3, 4, 5, 6, 7, 8] rfl
        refine stA gok [(.int .i64 count_), (.slice none 0 0), (h142).v, (h145).v] rfl H rfl rfl rfl ?_; clear H; intro w147 H
        replace H : Cx w0 fp0 S0 w147 [Bx b139 [(.int .i64 count_), (.slice none 0 0), (h142).v, (h145).v], E (List Int) a135 h145, E (List Int) a132 h142, Bx b9 [(.int .i64 0), (.slice none 0 0), (.slice none 0 0), (.slice none 0 0)], Bx b6 [(.int .i64 g__0), (g__1h).v, (g__2h).v, (g__3h).v], Es (List (Int × Int × List Int × List Int)) g__1 g__1h, Es (List Int) g__2 g__2h, Es (List Int) g__3 g__3h, Es (List Int) to_ to_h] := H
        refine hold trivial ?_
        exact ⟨((count_, a132, a135), (h142, h145, b139)), ⟨rfl, rfl, rfl, rfl, trivial⟩, Option.some.inj hF137, H.sel [8, 4, 5, 6, 7, 3, 0, 2, 1] rfl⟩
      · skip
        exact trivial
  · clear hF82 H
    rintro T149 ⟨⟨s75_0, s75_1, s75_2⟩, ⟨g76_0, g76_1, g76_2⟩⟩ w148 ⟨hr, (H : Cx w0 fp0 S0 w148 [Es (List Int) to_ to_h, Bx b6 [(.int .i64 g__0), (g__1h).v, (g__2h).v, (g__3h).v], Es (List (Int × Int × List Int × List Int)) g__1 g__1h, Es (List Int) g__2 g__2h, Es (List Int) g__3 g__3h, Bx b9 [(.int .i64 0), (.slice none 0 0), (.slice none 0 0), (.slice none 0 0)], Bx g76_2 [(.int .i64 s75_0), (.slice none 0 0), (g76_0).v, (g76_1).v], E (List Int) s75_1 g76_0, E (List Int) s75_2 g76_1])⟩
    subst hr
    refine sq ?_
    refine fld gok rfl rfl rfl rfl ?_
    refine load1 (H.bx 1 rfl (j := 1) rfl) ?_
    refine lenE (H.rs (α := List (Int × Int × List Int × List Int)) 2 rfl).len ?_
    have hmx246 := (H.rs (α := List (Int × Int × List Int × List Int)) 2 rfl).max
    obtain ⟨r247, e, hF248⟩ := bindS hF81; clear hF81
    replace H := H.nil (α := Int × Int × List Int × List Int)
    refine loopS _ g__1.length (fun (k150 : Nat) (s243 : List (Int × Int × List Int × List Int)) (g244 : Hd) => [(2, (to_h).v), (6, (.pointer (some ⟨b9, 0, none⟩))), (7, (.pointer (some ⟨g76_2, 0, none⟩))), (21, (g__1h).v), (22, (.int .i64 ((g__1.length : Nat) : Int))), (23, (.int .i64 ((k150 : Nat) : Int)))]) (fun _ (s243 : List (Int × Int × List Int × List Int)) (g244 : Hd) w' => Cx w0 fp0 S0 w' [Es (List Int) to_ to_h, Bx b9 [(.int .i64 0), (.slice none 0 0), (.slice none 0 0), (.slice none 0 0)], Bx g76_2 [(.int .i64 s75_0), (g244).v, (g76_0).v, (g76_1).v], E (List (Int × Int × List Int × List Int)) s243 g244, E (List Int) s75_1 g76_0, E (List Int) s75_2 g76_1, Es (List (Int × Int × List Int × List Int)) g__1 g__1h]) [] nilH e ⟨rfl, rfl, rfl, rfl, rfl, rfl, trivial⟩ (H.sel [1, 6, 7, 0, 8, 9, 3] rfl) ?_ ?_
    · clear H e
      rintro T251 k150 s243 g244 w250 o252 hk (H : Cx w0 fp0 S0 w250 [Es (List Int) to_ to_h, Bx b9 [(.int .i64 0), (.slice none 0 0), (.slice none 0 0), (.slice none 0 0)], Bx g76_2 [(.int .i64 s75_0), (g244).v, (g76_0).v, (g76_1).v], E (List (Int × Int × List Int × List Int)) s243 g244, E (List Int) s75_1 g76_0, E (List Int) s75_2 g76_1, Es (List (Int × Int × List Int × List Int)) g__1 g__1h]) hF253
      refine boolE (z := true) (ltLen hk) ?_
      refine sq ?_
      refine sq ?_
      obtain ⟨a260, e, hF261⟩ := bindS hF253; clear hF253
      have HH := H; clear H; obtain ⟨p258, m259, g262, c254, c255, c256, c257, H⟩ := HH.el (α := Int × Int × List Int × List Int) 6 rfl e; clear HH
      clear e
      obtain ⟨a260_0, a260_1, a260_2, a260_3⟩ := a260
      obtain ⟨_, _, h264, h265⟩ := g262
      replace H := H.part (β := List Int) a260_2 (h264 : Hd) 0 rfl (fun S h => (And.left (And.right (And.right h))))
      replace H := H.part (β := List Int) a260_3 (h265 : Hd) 1 rfl (fun S h => (And.right (And.right (And.right h))))
      replace H := H.sel [0, 1, 3, 4, 5, 6, 7, 8, 9] rfl
      refine idxE c254 c255 c256 ?_; clear c254 c255 c256
      refine loadN [(.int .i64 a260_0), (.int .i64 a260_1), (h264).v, (h265).v] rfl c257 ?_; clear c257
      refine alloc_ gok rfl H ?_; clear H; intro b269 w268 hx H
      clear hx
      replace H : Cx w0 fp0 S0 w268 [Bx b269 [(.int .i64 0), (.int .i64 0), (.slice none 0 0), (.slice none 0 0)], Es (List Int) a260_3 h265, Es (List Int) a260_2 h264, Es (List Int) to_ to_h, Bx b9 [(.int .i64 0), (.slice none 0 0), (.slice none 0 0), (.slice none 0 0)], Bx g76_2 [(.int .i64 s75_0), (g244).v, (g76_0).v, (g76_1).v], E (List (Int × Int × List Int × List Int)) s243 g244, E (List Int) s75_1 g76_0, E (List Int) s75_2 g76_1, Es (List (Int × Int × List Int × List Int)) g__1 g__1h] := H
      refine stA gok [(.int .i64 a260_0), (.int .i64 a260_1), (h264).v, (h265).v] rfl H rfl rfl rfl ?_; clear H; intro w271 H
      replace H : Cx w0 fp0 S0 w271 [Bx b269 [(.int .i64 a260_0), (.int .i64 a260_1), (h264).v, (h265).v], Es (List Int) a260_3 h265, Es (List Int) a260_2 h264, Es (List Int) to_ to_h, Bx b9 [(.int .i64 0), (.slice none 0 0), (.slice none 0 0), (.slice none 0 0)], Bx g76_2 [(.int .i64 s75_0), (g244).v, (g76_0).v, (g76_1).v], E (List (Int × Int × List Int × List Int)) s243 g244, E (List Int) s75_1 g76_0, E (List Int) s75_2 g76_1, Es (List (Int × Int × List Int × List Int)) g__1 g__1h] := H
      refine heldX H [16, 18, 17] (.fst 0 (.fst 2 (.fst 4 (.fst 6 (.fst 8 (.fst 10 (.fst 12 (.fst 1 (.fst 3 (.fst 5 (.fst 7 (.fst 11 (.act 9 (.act 13 (.fst 14 (.act 15 (.act 16 (.act 17 (.act 18 .done))))))))))))))))))) mixed [] trivial (by kernel_rfl) ?_
      clear H; intro w272 H
      have hX : Ext w272 w272 := Upd.refl _ _
      have H0 := H
      refine anyH (fun _ => fld gok rfl rfl rfl rfl ⟨rfl, rfl⟩) ?_
      refine anyH (fun _ => fld gok rfl rfl rfl rfl ⟨rfl, rfl⟩) ?_
      refine anyH (fun _ => fld gok rfl rfl rfl rfl ⟨rfl, rfl⟩) ?_
      refine anyH (fun _ => fld gok rfl rfl rfl rfl ⟨rfl, rfl⟩) ?_
      refine anyH (fun _ => fld gok rfl rfl rfl rfl ⟨rfl, rfl⟩) ?_
      refine load1X (H.bx 5 rfl (j := 1) rfl) ?_
      refine load1X (H.bx 0 rfl (j := 0) rfl) ?_
      refine load1X (H.bx 0 rfl (j := 1) rfl) ?_
      refine load1X (H.bx 0 rfl (j := 2) rfl) ?_
      refine load1X (H.bx 0 rfl (j := 3) rfl) ?_
      obtain ⟨y273, e, hF274⟩ := bindS hF261; clear hF261
      have ey273 := e; clear e
      refine callFx (impl_mapped_c a260_2 h264 to_ to_h y273 ey273) H ⟨Vw.sh 2 rfl, Vw.sh 3 rfl, trivial⟩ ?_; clear H ey273
      rintro _ _ w275 ⟨h276, rfl, rfl⟩ hx (H : Cx w0 fp0 S0 w275 [E (List Int) y273 h276, Bx b269 [(.int .i64 a260_0), (.int .i64 a260_1), (h264).v, (h265).v], Es (List Int) a260_3 h265, Es (List Int) a260_2 h264, Es (List Int) to_ to_h, Bx b9 [(.int .i64 0), (.slice none 0 0), (.slice none 0 0), (.slice none 0 0)], Bx g76_2 [(.int .i64 s75_0), (g244).v, (g76_0).v, (g76_1).v], E (List (Int × Int × List Int × List Int)) s243 g244, E (List Int) s75_1 g76_0, E (List Int) s75_2 g76_1, Es (List (Int × Int × List Int × List Int)) g__1 g__1h])
      replace hX := hX.trans0 hx; clear hx
      refine hold hX ?_
      obtain ⟨y278, e, hF279⟩ := bindS hF274; clear hF274
      have ey278 := e; clear e
      refine callFx (impl_mapped_c a260_3 h265 to_ to_h y278 ey278) H ⟨Vw.sh 2 rfl, Vw.sh 4 rfl, trivial⟩ ?_; clear H ey278
      rintro _ _ w280 ⟨h281, rfl, rfl⟩ hx (H : Cx w0 fp0 S0 w280 [E (List Int) y278 h281, E (List Int) y273 h276, Bx b269 [(.int .i64 a260_0), (.int .i64 a260_1), (h264).v, (h265).v], Es (List Int) a260_3 h265, Es (List Int) a260_2 h264, Es (List Int) to_ to_h, Bx b9 [(.int .i64 0), (.slice none 0 0), (.slice none 0 0), (.slice none 0 0)], Bx g76_2 [(.int .i64 s75_0), (g244).v, (g76_0).v, (g76_1).v], E (List (Int × Int × List Int × List Int)) s243 g244, E (List Int) s75_1 g76_0, E (List Int) s75_2 g76_1, Es (List (Int × Int × List Int × List Int)) g__1 g__1h])
      replace hX := hX.trans0 hx; clear hx
      refine hold hX ?_
      refine anyH (fun _ => build_ (cs := #[(.int .i64 a260_0), (.int .i64 a260_1), (h276).v, (h281).v]) gok rfl rfl rfl ⟨rfl, rfl⟩) ?_
      replace H := H.sel [1, 0, 2, 3, 4, 5, 6, 7, 8, 9, 10, 11] rfl
      replace H := H.join (α := List Int) (β := List Int)
      replace H := H.sc (α := Int) a260_1
      replace H := H.join (α := Int) (β := List Int × List Int)
      replace H := H.sc (α := Int) a260_0
      replace H := H.join (α := Int) (β := Int × List Int × List Int)
      refine lit1 (α := Int × Int × List Int × List Int) (g := ((), (), h276, h281)) gok rfl rfl rfl rfl rfl H ?_; clear H; intro h284 w283 hx H
      replace hX := hX.trans0 hx; clear hx
      refine hold hX ?_
      obtain ⟨a291, e, hF292⟩ := bindS hF279; clear hF279
      replace H := H.sel [7, 0, 1, 2, 3, 4, 5, 6, 8, 9, 10] rfl
      refine append_ (α := Int × Int × List Int × List Int) gok rfl rfl rfl rfl H e ?_; clear e H; intro h294 w293 H
      refine hold trivial ?_
      refine fld gok rfl rfl rfl rfl ?_
      refine hold trivial ?_
      replace H := H.sel [6, 0, 1, 2, 3, 4, 5, 7, 8, 9] rfl
      refine stB (j := 1) H rfl rfl ?_; clear H; intro w296 H
      replace H : Cx w0 fp0 S0 w296 [Bx g76_2 [(.int .i64 s75_0), (h294).v, (g76_0).v, (g76_1).v], E (List (Int × Int × List Int × List Int)) a291 h294, Bx b269 [(.int .i64 a260_0), (.int .i64 a260_1), (h264).v, (h265).v], Es (List Int) a260_3 h265, Es (List Int) a260_2 h264, Es (List Int) to_ to_h, Bx b9 [(.int .i64 0), (.slice none 0 0), (.slice none 0 0), (.slice none 0 0)], E (List Int) s75_1 g76_0, E (List Int) s75_2 g76_1, Es (List (Int × Int × List Int × List Int)) g__1 g__1h] := H
      refine hold trivial ?_
      refine arK hk hmx246 ?_
      have hs := Option.some.inj hF292; subst hs; clear hF292
      exact ⟨h294, ⟨rfl, rfl, rfl, rfl, rfl, rfl, trivial⟩, H.sel [5, 6, 0, 1, 7, 8, 9] rfl⟩
    · clear H e
      rintro T298 g300 w297 (H : Cx w0 fp0 S0 w297 [Es (List Int) to_ to_h, Bx b9 [(.int .i64 0), (.slice none 0 0), (.slice none 0 0), (.slice none 0 0)], Bx g76_2 [(.int .i64 s75_0), (g300).v, (g76_0).v, (g76_1).v], E (List (Int × Int × List Int × List Int)) r247 g300, E (List Int) s75_1 g76_0, E (List Int) s75_2 g76_1, Es (List (Int × Int × List Int × List Int)) g__1 g__1h])
      refine boolE (z := false) geLen ?_
      refine sq ?_
      refine loadN [(.int .i64 s75_0), (g300).v, (g76_0).v, (g76_1).v] rfl (fun j u hj => H.bx 2 rfl hj) ?_
      replace H := H.sel [1, 0, 2, 3, 4, 5, 6] rfl
      refine stA gok [(.int .i64 s75_0), (g300).v, (g76_0).v, (g76_1).v] rfl H rfl rfl rfl ?_; clear H; intro w302 H
      replace H : Cx w0 fp0 S0 w302 [Bx b9 [(.int .i64 s75_0), (g300).v, (g76_0).v, (g76_1).v], Es (List Int) to_ to_h, Bx g76_2 [(.int .i64 s75_0), (g300).v, (g76_0).v, (g76_1).v], E (List (Int × Int × List Int × List Int)) r247 g300, E (List Int) s75_1 g76_0, E (List Int) s75_2 g76_1, Es (List (Int × Int × List Int × List Int)) g__1 g__1h] := H
      refine loadN [(.int .i64 s75_0), (g300).v, (g76_0).v, (g76_1).v] rfl (fun j u hj => H.bx 0 rfl hj) ?_
      cases hF248
      exact ⟨_, _, rfl, ⟨g300, g76_0, g76_1, rfl, rfl⟩, (H.sel [3, 4, 5] rfl).close ⟨cloE, cloE, cloE, trivial⟩⟩

theorem impl_from_c (first_ : Int) (n_ : Int) (y : List Int) (hF : F_impl_from first_ n_ = some y) :
    ConF Try.prog 70 #[(.int .i64 first_), (.int .i64 n_)] [] [] (fun v Γ' => ∃ z0 : Hd, v = (z0).v ∧ Γ' = [E (List Int) y z0]) := by
  intro w0 S0 fp0 hI hS
  have H : Cx w0 fp0 S0 w0 [] := Cx.start hI hS
  clear hI hS
  refine enterC (args := [_, _]) gok Try.func70 rfl _ rfl rfl rfl ?_
  obtain ⟨y1, e, hF2⟩ := bindS hF; clear hF
  have ey1 := e; clear e
  refine callF (impl_upTo_c n_ y1 ey1) (Γi := []) H trivial ?_; clear H ey1
  rintro _ _ w3 ⟨h4, rfl, rfl⟩ (H : Cx w0 fp0 S0 w3 [E (List Int) y1 h4])
  refine sq ?_
  refine lenE (H.ro (α := List Int) 0 rfl).len ?_
  have hmx51 := (H.ro (α := List Int) 0 rfl).max
  obtain ⟨r52, e, hF53⟩ := bindS hF2; clear hF2
  refine loopS _ y1.length (fun (k6 : Nat) (s49 : List Int) (_ : Unit) => [(0, (.int .i64 first_)), (5, (h4).v), (10, (.int .i64 ((y1.length : Nat) : Int))), (11, (.int .i64 ((k6 : Nat) : Int)))]) (fun _ (s49 : List Int) (_ : Unit) w' => Cx w0 fp0 S0 w' [E (List Int) s49 h4]) y1 () e ⟨rfl, rfl, rfl, rfl, trivial⟩ (H.sel [0] rfl) ?_ ?_
  · clear H e
    rintro T55 k6 s49 _ w54 o56 hk (H : Cx w0 fp0 S0 w54 [E (List Int) s49 h4]) hF57
    refine boolE (z := true) (ltLen hk) ?_
    refine sq ?_
    refine sq ?_
    obtain ⟨a64, e, hF65⟩ := bindS hF57; clear hF57
    obtain ⟨p62, m63, c58, c59, c60, c61⟩ := (H.ro (α := List Int) 0 rfl).at1 e; clear e
    refine idxE c58 c59 c60 ?_; clear c58 c59 c60
    refine load1 c61 ?_; clear c61
    obtain ⟨a66, e, hF67⟩ := bindS hF65; clear hF65
    refine arO e ?_; clear e
    obtain ⟨a74, e, hF75⟩ := bindS hF67; clear hF67
    have ea74 := e; clear e
    obtain ⟨p72, m73, c68, c69, c70⟩ := (H.ro (α := List Int) 0 rfl).setp ea74
    refine idxE c68 c69 c70 ?_
    refine setS (α := Int) H c68 c69 ea74 ?_; clear H c68 c69 c70 ea74; intro w76 H
    refine arK hk hmx51 ?_
    have hs := Option.some.inj hF75; subst hs; clear hF75
    exact ⟨(), ⟨rfl, rfl, rfl, rfl, trivial⟩, H.sel [0] rfl⟩
  · clear H e
    rintro T78 _ w77 (H : Cx w0 fp0 S0 w77 [E (List Int) r52 h4])
    refine boolE (z := false) geLen ?_
    refine sq ?_
    cases hF53
    exact ⟨_, _, rfl, ⟨h4, rfl, rfl⟩, (H.sel [0] rfl).close ⟨cloE, trivial⟩⟩
end Go.Proofs.Ytaiddnddgmkfnaa
