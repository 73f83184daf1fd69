/-
  What sorting an empty list does: nothing. Contracts by hand, of the functions of Go's library that are reached. No condition.
-/
import Derived.Test.YtodfjigndedehaaGreatDoorZEng
import Derived.Test.YtodfjigndedehaaGreatDoorZOps21
namespace Go.Proofs.YtodfjigndedehaaGreatDoor
open Go Go.Proofs.YtodfjigndedehaaGreatDoor.RW
set_option maxRecDepth 100000
set_option linter.unusedVariables false
theorem Jk_ {α:Type}{b:Bool}{x y:α} (h:cond b (some x) none=some y):b=true∧x=y:=by
 cases b
 · cases h
 · exact ⟨rfl,Option.some.inj h⟩
theorem D7_:∀ l:List (Int×Int),kvO (fun (_:Unit) (_ _:Int)=>some ()) l ()=some ()
 | []=>rfl
 | _::l=>D7_ l
theorem convK {P:Program}{G:RW.Eng}{w:World}{K:Value→World→Prop}{k1 k2:IntKind}{s d s1 b1 s2 b2:Nat}{z1 z2:Value}{n m:Int} (ok:EngOk P G) (hs:tA G.tt s=some ⟨.int k1,s1,b1,z1⟩) (hd:tA G.tt d=some ⟨.int k2,s2,b2,z2⟩) (h:k2.wrap n=m) (hK:K (.int k2 m) w):ERun P (convert s d (.int k1 n)) w K:=by
 have h1:=uQ (mC ok hs)
 have h2:=uQ (mC ok hd)
 refine cC (v:=.int k2 m) (w':=w) ?_ hK
 simp [convert,run_underlying h1,run_underlying h2,Conv.intToInt,h]
theorem geqU {P:Program}{w:World}{K:Value→World→Prop}{t:Nat}{x y:Operand}{a c:Int} (h:a<c) (hK:K (.bool false) w):ERun P (do eqGuard .geq t x y (.int .u64 a) (.int .u64 c);binOp .geq t (.int .u64 a) (.int .u64 c)) w K:=by
 refine cC (v:=.bool false) (w':=w) ?_ hK
 have:¬c≤a:=by omega
 simp [go_sem,this]
theorem HR_:cA Tryz.prog 191 #[.int .u64 0] [] [] (fun v Γ'=>v=.int .i64 0∧Γ'=[]):=by
 intro w0 S0 fp0 hI hS
 have H:Cx w0 fp0 S0 w0 []:=Cx.start hI hS
 clear hI hS
 refine tL (args:=[_]) gok Tryz.func191 rfl _ rfl rfl rfl ?_
 refine sq ?_
 refine geqU (c:=4294967296) (by decide) ?_
 refine sq ?_
 refine geqU (c:=65536) (by decide) ?_
 refine sq ?_
 refine geqU (c:=256) (by decide) ?_
 refine convK (m:=0) gok rfl rfl rfl ?_
 refine indexZ (z:=0) gok rfl (by rfl) ?_
 refine convK (m:=0) gok rfl rfl rfl ?_
 refine arO (z:=0) rfl ?_
 exact ⟨_,_,rfl,⟨rfl,rfl⟩,(H.sel [] rfl).close trivial⟩
theorem IE_:cA Tryz.prog 177 #[.int .u64 0] [] [] (fun v Γ'=>v=.int .i64 0∧Γ'=[]):=by
 intro w0 S0 fp0 hI hS
 have H:Cx w0 fp0 S0 w0 []:=Cx.start hI hS
 clear hI hS
 refine tL (args:=[_]) gok Tryz.func177 rfl _ rfl rfl rfl ?_
 refine sq ?_
 refine iC HR_ (Γi:=[]) H trivial ?_;clear H
 rintro _ _ w1 ⟨rfl,rfl⟩ H
 exact ⟨_,_,rfl,⟨rfl,rfl⟩,(H.sel [] rfl).close trivial⟩
theorem GX_ (x f:Value):cA Tryz.prog 182 #[x,.int .i64 0,.int .i64 0,f] [] [] (fun v Γ'=>v=.tuple #[]∧Γ'=[]):=by
 intro w0 S0 fp0 hI hS
 have H:Cx w0 fp0 S0 w0 []:=Cx.start hI hS
 clear hI hS
 refine tL (args:=[_,_,_,_]) gok Tryz.func182 rfl _ rfl rfl rfl ?_
 refine arO (z:=1) rfl ?_
 refine loop (σ:=Unit) (fun _=>[(2,.int .i64 0),(8,.int .i64 1)]) (fun _ w'=>Cx w0 fp0 S0 w' []) (fun _=>0) () ⟨rfl,rfl,trivial⟩ H ?_
 clear H
 rintro T0 _ w1 (H:Cx w0 fp0 S0 w1 [])
 refine sq ?_
 refine bA (z:=false) (rfl:decide ((1:Int)<0)=false) ?_
 exact ⟨_,_,rfl,⟨rfl,rfl⟩,(H.sel [] rfl).close trivial⟩
theorem IZ_ (x l f:Value):cA Tryz.prog 176 #[x,.int .i64 0,.int .i64 0,l,f] [] [] (fun v Γ'=>v=.tuple #[]∧Γ'=[]):=by
 intro w0 S0 fp0 hI hS
 have H:Cx w0 fp0 S0 w0 []:=Cx.start hI hS
 clear hI hS
 refine tL (args:=[_,_,_,_,_]) gok Tryz.func176 rfl _ rfl rfl rfl ?_
 refine loop (σ:=Unit) (fun _=>[(0,x),(1,.int .i64 0),(2,.int .i64 0),(4,f)]) (fun _ w'=>Cx w0 fp0 S0 w' []) (fun _=>0) () ⟨rfl,rfl,rfl,rfl,trivial⟩ H ?_
 clear H
 rintro T0 _ w1 (H:Cx w0 fp0 S0 w1 [])
 refine arO (z:=0) rfl ?_
 refine sq ?_
 refine bA (z:=true) (rfl:decide ((0:Int)≤12)=true) ?_
 refine iC (GX_ x f) (Γi:=[]) H trivial ?_;clear H
 rintro _ _ w2 ⟨rfl,rfl⟩ H
 exact ⟨_,_,rfl,⟨rfl,rfl⟩,(H.sel [] rfl).close trivial⟩
theorem H8_ (h:Hd) (f:Value) (hn:h.n=0):cA Tryz.prog 160 #[h.v,f] [] [] (fun v Γ'=>v=.tuple #[]∧Γ'=[]):=by
 intro w0 S0 fp0 hI hS
 have H:Cx w0 fp0 S0 w0 []:=Cx.start hI hS
 clear hI hS
 refine tL (args:=[_,_]) gok Tryz.func160 rfl _ rfl rfl rfl ?_
 refine eA hn ?_
 refine convK (m:=0) gok rfl rfl rfl ?_
 refine iC IE_ (Γi:=[]) H trivial ?_;clear H
 rintro _ _ w1 ⟨rfl,rfl⟩ H
 refine iC (IZ_ h.v _ f) (Γi:=[]) H trivial ?_;clear H
 rintro _ _ w2 ⟨rfl,rfl⟩ H
 exact ⟨_,_,rfl,⟨rfl,rfl⟩,(H.sel [] rfl).close trivial⟩
end Go.Proofs.YtodfjigndedehaaGreatDoor
