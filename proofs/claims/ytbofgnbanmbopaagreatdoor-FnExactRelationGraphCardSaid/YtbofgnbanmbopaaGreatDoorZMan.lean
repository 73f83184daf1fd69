/-
  Contracts proved by hand, in the form of the printed ones: pad. Condition of each: its partial function yields a value.
-/
import Derived.Test.YtbofgnbanmbopaaGreatDoorZEng
import Derived.Test.YtbofgnbanmbopaaGreatDoorZOps20
import Derived.Test.YtbofgnbanmbopaaGreatDoorZSort
import Derived.Test.YtbofgnbanmbopaaGreatDoorZFn
namespace Go.Proofs.YtbofgnbanmbopaaGreatDoor
open Go Go.Proofs.YtbofgnbanmbopaaGreatDoor.RW
set_option maxRecDepth 100000
set_option linter.unusedVariables false
theorem Dv_ (v:List Int):(v.take 48).map (Value.int .i64)++(List.replicate 48 (Value.int .i64 0)).drop (v.take 48).length=((v++List.replicate 48 0).take 48).map (Value.int .i64):=by
 rw [List.take_append,List.map_append]
 congr 1
 rw [List.length_take,List.drop_replicate,List.take_replicate,List.map_replicate]
 congr 1;omega
theorem pad_len (v:List Int):(((v++List.replicate 48 0).take 48).map (Value.int .i64)).length=48:=by simp
theorem rY:∀ l:List Int,eJ (l.map (Value.int .i64))=true
 | []=>rfl
 | _::l=>rY l
theorem zW (v_:List Int) (v_h:Hd) (y:List Int) (hF:eT v_=some y) :
  nA Tryz.prog 72 #[(v_h).v] [Es (List Int) v_ v_h] [] (fun v Γ'=>v=(.agg (yD y))∧Γ'=[]):=by
 intro w0 S0 fp0 hI hS
 have H:Cx w0 fp0 S0 w0 [Es (List Int) v_ v_h]:=Cx.start hI hS
 clear hI hS
 refine lA (args:=[_]) gok Tryz.func72 rfl _ rfl rfl rfl ?_
 refine sB gok rfl H ?_;clear H;intro b1 w1 hx H;clear hx
 refine buildA0 gok rfl rfl ?_
 refine sB gok rfl H ?_;clear H;intro b2 w2 hx H;clear hx
 refine stA gok (List.replicate 48 (.int .i64 0)) rfl H rfl rfl rfl ?_;clear H;intro w3 H
 refine slA gok rfl rfl (fun _=>?_) rfl
 refine copyB gok rfl rfl 48 H rfl (H.rs (α:=List Int) 2 rfl) ?_;clear H;intro v4 w4 H
 have hF:some _=some y:=hF
 obtain rfl:=Option.some.inj hF
 rw [Dv_] at H
 have hl:=pad_len v_
 have h1:eJ (((v_++List.replicate 48 0).take 48).map (Value.int .i64))=true:=rY _
 refine vA _ hl (fun j u hj=>H.bx 0 rfl hj) ?_
 replace H:=H.sel [1,0,2] rfl
 refine stA gok _ rfl H hl rfl h1 ?_;clear H;intro w5 H
 refine vA _ hl (fun j u hj=>H.bx 0 rfl hj) ?_
 exact ⟨_,_,rfl,⟨rfl,rfl⟩,(H.sel [] rfl).close trivial⟩
theorem AM_ (c:Int):gV (fun (s:List Int) k v=>(yA c v).bind fun a=>(oA s k a).bind fun b=>some b):=by
 intro s k v k' v' hne
 show (((yA c v).bind fun a=>(oA s k a).bind fun b=>some b).bind fun t=>(yA c v').bind fun a=>(oA t k' a).bind fun b=>some b) =
  (((yA c v').bind fun a=>(oA s k' a).bind fun b=>some b).bind fun t=>(yA c v).bind fun a=>(oA t k a).bind fun b=>some b)
 have hset:∀ i i' b b',i≠i'→((oA s i b).bind fun t=>oA t i' b')=((oA s i' b').bind fun t=>oA t i b):=by
  intro i i' b b' hi
  unfold oA
  by_cases h1:0≤i∧i.toNat<s.length
  ·
   by_cases h2:0≤i'∧i'.toNat<s.length
   ·
    have hn:i.toNat≠i'.toNat:=by omega
    rw [if_pos h1,if_pos h2,Option.bind_some,Option.bind_some,if_pos (by rw [List.length_set];exact h2),if_pos (by rw [List.length_set];exact h1),List.set_comm _ _ hn]
   · rw [if_pos h1,if_neg h2,Option.bind_some,Option.bind_none,if_neg (by rw [List.length_set];exact h2)]
  ·
   by_cases h2:0≤i'∧i'.toNat<s.length
   · rw [if_neg h1,if_pos h2,Option.bind_some,Option.bind_none,if_neg (by rw [List.length_set];exact h1)]
   · rw [if_neg h1,if_neg h2,Option.bind_none,Option.bind_none]
 have hs:∀ (m:Option (List Int)),(m.bind fun a=>some a)=m:=fun m=>by cases m <;> rfl
 simp only [hs]
 cases yA c v with
 | none=>cases yA c v' with
  | none=>rfl
  | some a'=>show none=((oA s k' a').bind fun t=>none);cases oA s k' a' <;> rfl
 | some a=>cases yA c v' with
  | none=>show ((oA s k a).bind fun t=>none)=none;cases oA s k a <;> rfl
  | some a'=>exact hset k k' a a' hne
end Go.Proofs.YtbofgnbanmbopaaGreatDoor
