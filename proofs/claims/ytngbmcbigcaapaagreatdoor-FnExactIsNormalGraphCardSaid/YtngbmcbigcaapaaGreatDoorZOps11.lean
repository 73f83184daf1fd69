/-
  Arrays: literals, addresses of elements; max and min of two ints. Conditions: the engine's eD holds ('EngOk').
-/
import Derived.Test.YtngbmcbigcaapaaGreatDoorZOps10
namespace Go.Proofs.YtngbmcbigcaapaaGreatDoor.RW
open Go
open Rep RepZ
section
variable {P:Program}{G:Eng}{w0 w:World}{F:List Nat}{S0:Nat→Prop}{Γ:List Ent}
theorem buildAr {t n e st bt se be:Nat}{zt ze:Value}{ke:TK}{parts:Array (Nat×Value)}{cs:Array Value}{K:Value→World→Prop} (ok:EngOk P G) (ht:oA G.tt t=some ⟨.array n e,st,bt,zt⟩) (he:oA G.tt e=some ⟨ke,se,be,ze⟩) (hfill:Instr.fill (fun i=>some (i*se,se)) zt.cells parts.toList=some cs) (hK:K (.agg cs) w):ERun P (Instr.build t parts) w K:=by
 obtain ⟨i,hi,hiz,his,hib⟩:=bF ok ht
 simp only at hiz
 have hu:=zW (cC ok ht)
 have hs:=jF ok he w
 simp only at hs
 refine wB (v:=.agg cs) (w':=w) ?_ hK
 simp only [Instr.build,Sem.run_bind,zeroValue,typeInfo,run_program,hi,Sem.run_pure,Result.andThen_ok,hiz,run_underlying hu,hs,hfill]
theorem idxAr {t n e st bt se be:Nat}{zt ze:Value}{ke:TK}{a:Addr}{i:Int}{m:Nat}{K:Value→World→Prop} (ok:EngOk P G) (ht:oA G.tt t=some ⟨.array n e,st,bt,zt⟩) (he:oA G.tt e=some ⟨ke,se,be,ze⟩) (hi:i=(m:Int)) (hm:Nat.blt m n=true) (hK:K (.pointer (some (a.add (m*se)))) w):ERun P (Instr.indexAt t (.pointer (some a)) (.int .i64 i)) w K:=by
 subst hi
 have hm:m<n:=by simpa [Nat.blt_eq] using hm
 have hu:=zW (cC ok ht)
 have hs:=jF ok he w
 simp only at hs
 have h3:(0:Int)≤(m:Int)∧(m:Int)<n:=⟨by omega,by omega⟩
 refine wB (v:=.pointer (some (a.add (m*se)))) (w':=w) ?_ hK
 simp [Instr.indexAt,asIntOf,run_underlying hu,Instr.sureAddr,h3,hs]
 intro h';omega
theorem Cx.bxV {α:Type}{b s:Nat}{cs:List Value}{i:Int}{y:α} (H:Cx w0 F S0 w Γ) (k:Nat) (hk:entAt Γ k=Bx b cs) (xs:List α) (cf:α→List Value) (hcs:cs=xs.flatMap cf) (hl:∀ x,(cf x).length=s) (hi:idxO xs i=some y) :
  ∃ m:Nat,i=(m:Int)∧Nat.blt m xs.length=true∧∀ j u,(cf y)[j]?=some u→w.cell? ((Addr.add ⟨b,0,none⟩ (m*s)).add j)=some u:=by
 obtain ⟨m,rfl,hm,hlt⟩:=uH hi
 refine ⟨m,rfl,by simpa [Nat.blt_eq] using hlt,fun j u hj=>?_⟩
 subst hcs
 have key:∀ (xs:List α) (m:Nat),xs[m]?=some y→(xs.flatMap cf)[m*s+j]?=some u:=by
  intro xs
  induction xs with
  | nil=>intro m h;simp at h
  | cons x xs ih=>
   intro m h
   have hjs:j<s:=by rw [←hl y];exact (List.getElem?_eq_some_iff.1 hj).1
   cases m with
   | zero=>
    simp only [List.getElem?_cons_zero,Option.some.injEq] at h
    subst h
    rw [List.flatMap_cons,Nat.zero_mul,Nat.zero_add,List.getElem?_append_left (by rw [hl];exact hjs)]
    exact hj
   | succ m=>
    have h2:=ih m (by simpa using h)
    rw [List.flatMap_cons,List.getElem?_append_right (by rw [hl,Nat.add_mul];omega)]
    rw [hl,show (m+1)*s+j-s=m*s+j by rw [Nat.add_mul];omega]
    exact h2
 have h1:=H.bx k hk (key xs m hm)
 rw [Addr.add_lit] at h1 ⊢
 rw [Addr.add_lit]
 rwa [show 0+m*s+j=0+(m*s+j) by omega]
theorem max_ {tys:Array TypeId}{ty:TypeId}{a b z:Int}{K:Value→World→Prop} (h:some (mM a b)=some z) (hK:K (.int .i64 z) w):ERun P (Builtin.max_ tys ty #[.int .i64 a,.int .i64 b]) w K:=by
 obtain rfl:=Option.some.inj h
 refine wB (v:=.int .i64 (mM a b)) (w':=w) ?_ hK
 simp [Builtin.max_,Builtin.max2,mM]
theorem min_ {tys:Array TypeId}{ty:TypeId}{a b z:Int}{K:Value→World→Prop} (h:some (lM a b)=some z) (hK:K (.int .i64 z) w):ERun P (Builtin.min_ tys ty #[.int .i64 a,.int .i64 b]) w K:=by
 obtain rfl:=Option.some.inj h
 refine wB (v:=.int .i64 (lM a b)) (w':=w) ?_ hK
 simp [Builtin.min_,Builtin.min2,lM]
end
end Go.Proofs.YtngbmcbigcaapaaGreatDoor.RW
