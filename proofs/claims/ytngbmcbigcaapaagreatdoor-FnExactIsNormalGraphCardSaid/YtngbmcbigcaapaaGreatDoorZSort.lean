/-
  What sorting an empty list does: nothing. Contracts by hand, of the functions of Go's library that are reached. No condition.
-/
import Derived.Test.YtngbmcbigcaapaaGreatDoorZEng
import Derived.Test.YtngbmcbigcaapaaGreatDoorZOps21
namespace Go.Proofs.YtngbmcbigcaapaaGreatDoor
open Go Go.Proofs.YtngbmcbigcaapaaGreatDoor.RW
set_option maxRecDepth 100000
set_option linter.unusedVariables false
theorem FV_ {α:Type}{b:Bool}{x y:α} (h:cond b (some x) none=some y):b=true∧x=y:=by
 cases b
 · cases h
 · exact ⟨rfl,Option.some.inj h⟩
theorem BD_:∀ l:List (Int×Int),kvO (fun (_:Unit) (_ _:Int)=>some ()) l ()=some ()
 | []=>rfl
 | _::l=>BD_ l
theorem convK {P:Program}{G:RW.Eng}{w:World}{K:Value→World→Prop}{k1 k2:IntKind}{s d s1 b1 s2 b2:Nat}{z1 z2:Value}{n m:Int} (ok:EngOk P G) (hs:oA G.tt s=some ⟨.int k1,s1,b1,z1⟩) (hd:oA G.tt d=some ⟨.int k2,s2,b2,z2⟩) (h:k2.wrap n=m) (hK:K (.int k2 m) w):ERun P (convert s d (.int k1 n)) w K:=by
 have h1:=Bj_ (cC ok hs)
 have h2:=Bj_ (cC ok hd)
 refine wB (v:=.int k2 m) (w':=w) ?_ hK
 simp [convert,run_underlying h1,run_underlying h2,Conv.intToInt,h]
theorem geqU {P:Program}{w:World}{K:Value→World→Prop}{t:Nat}{x y:Operand}{a c:Int} (h:a<c) (hK:K (.bool false) w):ERun P (do eqGuard .geq t x y (.int .u64 a) (.int .u64 c);binOp .geq t (.int .u64 a) (.int .u64 c)) w K:=by
 refine wB (v:=.bool false) (w':=w) ?_ hK
 have:¬c≤a:=by omega
 simp [go_sem,this]
theorem EL_:dA Tryz.prog 170 #[.int .u64 0] [] [] (fun v Γ'=>v=.int .i64 0∧Γ'=[]):=by
 intro w0 S0 fp0 hI hS
 have H:Cx w0 fp0 S0 w0 []:=Cx.start hI hS
 clear hI hS
 refine fJ (args:=[_]) gok Tryz.func170 rfl _ rfl rfl rfl ?_
 refine sq ?_
 refine geqU (c:=4294967296) (by decide) ?_
 refine sq ?_
 refine geqU (c:=65536) (by decide) ?_
 refine sq ?_
 refine geqU (c:=256) (by decide) ?_
 refine convK (m:=0) gok rfl rfl rfl ?_
 refine indexZ (z:=0) gok rfl (by rfl) ?_
 refine convK (m:=0) gok rfl rfl rfl ?_
 refine arO (z:=0) rfl ?_
 exact ⟨_,_,rfl,⟨rfl,rfl⟩,(H.sel [] rfl).close trivial⟩
theorem Fi_:dA Tryz.prog 156 #[.int .u64 0] [] [] (fun v Γ'=>v=.int .i64 0∧Γ'=[]):=by
 intro w0 S0 fp0 hI hS
 have H:Cx w0 fp0 S0 w0 []:=Cx.start hI hS
 clear hI hS
 refine fJ (args:=[_]) gok Tryz.func156 rfl _ rfl rfl rfl ?_
 refine sq ?_
 refine uB EL_ (Γi:=[]) H trivial ?_;clear H
 rintro _ _ w1 ⟨rfl,rfl⟩ H
 exact ⟨_,_,rfl,⟨rfl,rfl⟩,(H.sel [] rfl).close trivial⟩
theorem D2_ (x f:Value):dA Tryz.prog 161 #[x,.int .i64 0,.int .i64 0,f] [] [] (fun v Γ'=>v=.tuple #[]∧Γ'=[]):=by
 intro w0 S0 fp0 hI hS
 have H:Cx w0 fp0 S0 w0 []:=Cx.start hI hS
 clear hI hS
 refine fJ (args:=[_,_,_,_]) gok Tryz.func161 rfl _ rfl rfl rfl ?_
 refine arO (z:=1) rfl ?_
 refine loop (σ:=Unit) (fun _=>[(2,.int .i64 0),(8,.int .i64 1)]) (fun _ w'=>Cx w0 fp0 S0 w' []) (fun _=>0) () ⟨rfl,rfl,trivial⟩ H ?_
 clear H
 rintro T0 _ w1 (H:Cx w0 fp0 S0 w1 [])
 refine sq ?_
 refine bA (z:=false) (rfl:decide ((1:Int)<0)=false) ?_
 exact ⟨_,_,rfl,⟨rfl,rfl⟩,(H.sel [] rfl).close trivial⟩
theorem Fz_ (x l f:Value):dA Tryz.prog 155 #[x,.int .i64 0,.int .i64 0,l,f] [] [] (fun v Γ'=>v=.tuple #[]∧Γ'=[]):=by
 intro w0 S0 fp0 hI hS
 have H:Cx w0 fp0 S0 w0 []:=Cx.start hI hS
 clear hI hS
 refine fJ (args:=[_,_,_,_,_]) gok Tryz.func155 rfl _ rfl rfl rfl ?_
 refine loop (σ:=Unit) (fun _=>[(0,x),(1,.int .i64 0),(2,.int .i64 0),(4,f)]) (fun _ w'=>Cx w0 fp0 S0 w' []) (fun _=>0) () ⟨rfl,rfl,rfl,rfl,trivial⟩ H ?_
 clear H
 rintro T0 _ w1 (H:Cx w0 fp0 S0 w1 [])
 refine arO (z:=0) rfl ?_
 refine sq ?_
 refine bA (z:=true) (rfl:decide ((0:Int)≤12)=true) ?_
 refine uB (D2_ x f) (Γi:=[]) H trivial ?_;clear H
 rintro _ _ w2 ⟨rfl,rfl⟩ H
 exact ⟨_,_,rfl,⟨rfl,rfl⟩,(H.sel [] rfl).close trivial⟩
theorem E2_ (h:Hd) (f:Value) (hn:h.n=0):dA Tryz.prog 137 #[h.v,f] [] [] (fun v Γ'=>v=.tuple #[]∧Γ'=[]):=by
 intro w0 S0 fp0 hI hS
 have H:Cx w0 fp0 S0 w0 []:=Cx.start hI hS
 clear hI hS
 refine fJ (args:=[_,_]) gok Tryz.func137 rfl _ rfl rfl rfl ?_
 refine eA hn ?_
 refine convK (m:=0) gok rfl rfl rfl ?_
 refine uB Fi_ (Γi:=[]) H trivial ?_;clear H
 rintro _ _ w1 ⟨rfl,rfl⟩ H
 refine uB (Fz_ h.v _ f) (Γi:=[]) H trivial ?_;clear H
 rintro _ _ w2 ⟨rfl,rfl⟩ H
 exact ⟨_,_,rfl,⟨rfl,rfl⟩,(H.sel [] rfl).close trivial⟩
end Go.Proofs.YtngbmcbigcaapaaGreatDoor
