/-
  The card of the law of NormalGraph: the row's reading, the walk, the tie. No condition of its own. Printed by a program (wip/y/card.py).
-/
import Derived.Test.YtodfjigndedehaaGreatDoorZCall7
import Derived.Test.YtodfjigndedehaaGreatDoorZLawNormalGraph
import Derived.Test.YtodfjigndedehaaGreatDoorZCardS
import Derived.Test.YtodfjigndedehaaGreatDoorZFactNormalGraph
import Derived.Test.YtodfjigndedehaaGreatDoorCards
import Derived.Test.YtodfjigndedehaaGreatDoorTie
import Derived.WalkKit
import Derived.ProofKit
import Derived.OpenShut
import Derived.Deep.DeepHandedRow
import Derived.Lib.LaidTab
namespace Go.Proofs.YtodfjigndedehaaGreatDoor.fnExactNormalGraph
open Go Go.ChangeShapes Go.WideShapes Go.ChangeAt Go.RowKit Go.Proofs.YtodfjigndedehaaGreatDoor.RW
theorem own:ownKnob Tryz.prog.godebug=none:=by kernel_rfl
theorem gTab : Tryz.prog.globalNamed "loop.example/g01073/impl.smallPrimes" = some 0 := by kernel_rfl
theorem JI_:(Tryz.prog.globals[0]?).map (·.type)=some 132:=by kernel_rfl
theorem cellsT:Tryz.prog.cellsOf 132=4:=by kernel_rfl
theorem cellsI:Tryz.prog.cellsOf 3=1:=by kernel_rfl
theorem vD {W : World} (h : laidMetH Tryz.prog Rows.fnExactNormalGraphRow.laid W) : Lib.TabIs Tryz.prog W "loop.example/g01073/impl.smallPrimes" .i64 [2, 3, 5, 7] := Lib.tabIs_of_head (rest := []) gTab JI_ Tryz.underlying132 Tryz.underlying3 cellsI cellsT h
theorem lay {W:World} (h:laidMetH Tryz.prog Rows.fnExactNormalGraphRow.laid W):∀ j u,[Value.int .i64 2,.int .i64 3,.int .i64 5,.int .i64 7][j]?=some u→W.cell? (Addr.add ⟨0,0,none⟩ j)=some u:=by
  intro j u hj
  rw [Addr.add_lit,Nat.zero_add]
  match j,hj with
  | 0,hj=>obtain rfl:=Option.some.inj hj;exact (vD h).cell gTab 0 (by decide)
  | 1,hj=>obtain rfl:=Option.some.inj hj;exact (vD h).cell gTab 1 (by decide)
  | 2,hj=>obtain rfl:=Option.some.inj hj;exact (vD h).cell gTab 2 (by decide)
  | 3,hj=>obtain rfl:=Option.some.inj hj;exact (vD h).cell gTab 3 (by decide)
  | _+4,hj=>cases hj
theorem lay_lt {W:World} (h:laidMetH Tryz.prog Rows.fnExactNormalGraphRow.laid W):0<W.heap.size:=by
  have:=lay h 0 _ rfl
  rw [Addr.add_lit] at this
  exact gQ this
set_option maxRecDepth 20000 in
theorem Eu_ (H:Type) (enc:TypeId×Value→H) (W:World) (base:Nat) (args:Array Value) (ds gs:List (DataW H)) (before:List MemPlace)
    (hval:∀ (j:Nat) t v,Tryz.f3.params[j]?=some t→args[j]?=some v→Value.okWide Tryz.prog W .any base t v)
    (hW:DataW.Whole enc Tryz.prog Tryz.f3.params.toList Rows.fnExactNormalGraphSpec.vars false W args.toList ds gs before) (hL:laidMetH Tryz.prog Rows.fnExactNormalGraphRow.laid W) :
    Calls Tryz.prog 3 args W fun e W'=>∃ v,e=.returned v∧Rows.fnExactNormalGraphSpec.post enc Tryz.prog Tryz.f3 false true false false W args v W':=by
  have hW':=hW
  obtain ⟨p,q,hA0,hV,rfl,hfz,hnd⟩:=hW
  have hA:DataW.TrodAll enc Tryz.prog W 0 (fun _=>true) true Tryz.f3.params.toList args.toList ds p:=hA0
  rw [Tryz.params3] at hA hval
  obtain ⟨v0,vs0,d0,ds0,p0,q0,hargs,rfl,rfl,h0,rr0⟩:=trodAll_cons hA
  obtain ⟨v1,vs1,d1,ds1,p1,q1,rfl,rfl,rfl,h1,rr1⟩:=trodAll_cons rr0
  obtain ⟨rfl,rfl,rfl⟩:=trodAll_nil rr1
  obtain rfl:args=#[v0,v1]:=by cases args;simp_all
  obtain ⟨_,_,_,_,dg,_,rfl,_⟩:=trodVars_one hV
  obtain ⟨x0,rfl,i0⟩:=Hr_ Tryz.underlying3 (hval 0 3 v0 rfl rfl) h0
  obtain ⟨x1,g1,rfl,r1,i1⟩:=GL_ Tryz.underlying24 (CD_ Tryz.underlying24 (by kernel_rfl) (C3_ rfl (by kernel_rfl) (Ie_ Tryz.underlying22 (by kernel_rfl) (by decide) (CD_ Tryz.underlying60 (by kernel_rfl) (CP_ rfl (by kernel_rfl) (AH_ Tryz.underlying3) (CP_ rfl (by kernel_rfl) (AH_ Tryz.underlying3) (C3_ rfl (by kernel_rfl) (HL_ Tryz.underlying9)))))))) (hval 1 24 v1 rfl rfl) h1
  have hc:=F4_ x0 x1 g1 true (GQ_ x0 x1 i0 i1)
  refine (law_fin hc ⟨⟨rfl,r1⟩,JG_ (lay_lt hL) (lay hL),trivial⟩).mono fun e W' ⟨he,hg⟩=>?_
  subst he
  exact ⟨_,rfl,IW_ hW' rfl (by kernel_rfl:Tryz.f3.resultTypes=#[4]) Tryz.underlying4 (by kernel_rfl) (by kernel_rfl) (by kernel_rfl) hg⟩
noncomputable def AJ_ (os:Os):World:=
  { World.holding Tryz.prog os ⟨#[],#[],[]⟩ with heap:=(World.holding Tryz.prog os ⟨#[],#[],[]⟩).heap.modify 0 fun
      | .cells _ t frozen=>.cells #[.int .i64 2,.int .i64 3,.int .i64 5,.int .i64 7] t frozen
      | o=>o }
def wit:Array Value:=#[.int .i64 0,.agg #[.slice none 0 0]]
theorem JC_ (os:Os):laidMet Tryz.prog Rows.fnExactNormalGraphRow.laid ((AJ_ os).forCall (fun _ _=>0) ⟨#[],wit,[]⟩).memory:=
  laidMet_of_run' 8 (by kernel_rfl) (by kernel_rfl)
theorem iX (os:Os){H:Type} (enc:TypeId×Value→H):DataW.whole enc Tryz.prog ((AJ_ os).forCall (fun _ _=>0) ⟨#[],wit,[]⟩).memory Tryz.f3.params.toList Rows.fnExactNormalGraphSpec.vars false wit.toList 8=some ([.lit (.int .i64 0),.agg [.nil]],[.agg [.lit (.int .i64 2),.lit (.int .i64 3),.lit (.int .i64 5),.lit (.int .i64 7)]],MemPlace.row ⟨0,0,none⟩ 4):=by kernel_rfl
set_option maxRecDepth 100000 in
theorem lifted (os:Os) (started:os.Started) (H:Type) (enc:TypeId×Value→H) (F:Stop.Interp) :
    ReturnsInHanded {} Tryz.checked os 3 .any ((OpenSpec.ofChange Rows.fnExactNormalGraphSpec).preRow enc Tryz.prog Tryz.f3 Rows.fnExactNormalGraphRow.domain false Rows.fnExactNormalGraphRow.laid) (((OpenSpec.ofChange Rows.fnExactNormalGraphSpec).at F).post enc Tryz.prog Tryz.f3 false true false false):=by
  refine returnsInHanded_of_row (C:=Tryz.checked) (s:=OpenSpec.ofChange Rows.fnExactNormalGraphSpec) own started (by kernel_rfl) Tryz.func3
    (witness_row_at (enc:=enc) (C:=Tryz.checked) false (AJ_ os) wit rfl (by kernel_rfl) (by kernel_rfl) (by kernel_rfl)
      (OpenSpec.preRow_of_cond 8 (iX os enc) (by kernel_rfl) (fun k hk=>by cases hk) (by kernel_rfl) (JC_ os))) ?_
  intro W base args ds gs before hval hW _ _ _ hL _ _
  exact Eu_ H enc W base args ds gs before hval hW hL
theorem said:Rows.FnExactNormalGraphSaid:=
  OpenClaim.holds_of_cond 3 Tryz.f3 rfl rfl rfl rfl rfl rfl rfl ⟨rfl,rfl,rfl,rfl,rfl⟩ rfl rfl rfl rfl rfl (by kernel_rfl) Tryz.func3 facts
    (of_decide_eq_true (by kernel_rfl)) (by unfold Func.isWrapper;first | (rw [if_pos (by decide +kernel)];kernel_rfl) | (rw [if_neg (by decide +kernel)];exact ⟨rfl,rfl⟩))
    (fun os started H enc _ F=>by rw [OpenClaim.pre_eq_preRow];exact lifted os started H enc F)
theorem plain (f : FuncId) (fn : Func) (hf : Tryz.pinned.checked.prog.funcNamed "loop.example/g01073/laws.FnExactNormalGraph" = some f) (hfn : Tryz.pinned.checked.prog.funcs[f]? = some fn) :
    false=Tryz.pinned.checked.prog.looks []∧∀ (j:Nat) t,fn.params[j]?=some t→Tryz.pinned.checked.prog.wantsStandIn t=false:=by
  obtain rfl : f = 3 := Option.some.inj ((show Tryz.prog.funcNamed "loop.example/g01073/laws.FnExactNormalGraph" = some 3 by kernel_rfl).symm.trans hf) |>.symm
  obtain rfl:fn=Tryz.f3:=(Option.some.inj (Tryz.func3.symm.trans hfn)).symm
  exact ⟨by kernel_rfl,IX_ (P:=Tryz.prog) (by kernel_rfl)⟩
theorem card:Rows.FnExactNormalGraphCardSaid:=
  Claim7.holds_tied_plain_at .later [] _ _ _ _ said (fun _ h=>by cases h) (by kernel_rfl) (fun _ h=>by cases h) fnExactNormalGraph_row_tie rfl ⟨rfl,rfl⟩ (by kernel_rfl) rfl plain (by kernel_rfl)
end Go.Proofs.YtodfjigndedehaaGreatDoor.fnExactNormalGraph
