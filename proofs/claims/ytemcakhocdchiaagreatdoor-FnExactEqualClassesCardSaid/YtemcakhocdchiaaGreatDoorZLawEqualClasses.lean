/-
  Plain laws: the relation of a term: the loops of both. No program in sight. No condition.
-/
import Derived.Test.YtemcakhocdchiaaGreatDoorZP53
import Derived.Test.YtemcakhocdchiaaGreatDoorZP21
import Derived.Test.YtemcakhocdchiaaGreatDoorZP39
namespace Go.Proofs.YtemcakhocdchiaaGreatDoor
def aH (T:Tr):Bool:=(flat T).all fF
def noR:Rel:=(0,0,[])
noncomputable def nS (p:Int) (t:List Nod) (k11:Nat) (s299:List Rel):Option (List Rel):=
   (idxO t ((k11:Nat):Int)).bind fun a315=>
   (subO ((s299.length:Nat):Int) 1).bind fun a323=>
   (some (decide (a315.1=15))).bind fun a325=>
   cond a325
   ((subO a323 1).bind fun a401=>
    (subO a323 1).bind fun a403=>
    (idxO s299 a403).bind fun a411=>
    (idxO s299 a323).bind fun a423=>
    (dB s299 0 a401).bind fun a429=>
    (eQ p (a411.1,a411.2.1,a411.2.2) (a423.1,a423.2.1,a423.2.2)).bind fun y433=>
    (nA a429 [(y433.1,y433.2.1,y433.2.2)]).bind fun a445=>
    some a445)
   ((some (decide (a315.1=16))).bind fun a328=>
    cond a328
    ((subO a323 1).bind fun a350=>
     (subO a323 1).bind fun a352=>
     (idxO s299 a352).bind fun a360=>
     (idxO s299 a323).bind fun a372=>
     (dB s299 0 a350).bind fun a378=>
     (pQ p (a360.1,a360.2.1,a360.2.2) (a372.1,a372.2.1,a372.2.2)).bind fun y382=>
     (nA a378 [(y382.1,y382.2.1,y382.2.2)]).bind fun a394=>
     some a394)
    ((oM p (a315.1,a315.2.1,a315.2.2)).bind fun y331=>
     (nA s299 [(y331.1,y331.2.1,y331.2.2)]).bind fun a343=>
     some a343))
theorem top2 {s:List Rel}{x y:Rel} (hs:s.length≤1000):(s++[x]++[y]).length=s.length+2∧subO (((s++[x]++[y]).length:Nat):Int) 1=some ((s.length+1:Nat):Int)∧subO ((s.length+1:Nat):Int) 1=some ((s.length:Nat):Int) ∧
  subO (((s++[x]++[y]).length:Nat):Int) 2=some ((s.length:Nat):Int)∧idxO (s++[x]++[y]) ((s.length:Nat):Int)=some x∧idxO (s++[x]++[y]) ((s.length+1:Nat):Int)=some y∧dB (s++[x]++[y]) 0 ((s.length:Nat):Int)=some s:=by
 have hlen:(s++[x]++[y]).length=s.length+2:=by simp
 refine ⟨hlen,by rw [hlen,wC (by omega) (by omega)];congr 1;omega,by rw [wC (by omega) (by omega)];congr 1;omega,by rw [hlen,wC (by omega) (by omega)];congr 1;omega,?_,?_,?_⟩
 · rw [idxO_nat,List.append_assoc,List.getElem?_append_right (Nat.le_refl _),Nat.sub_self];rfl
 · rw [idxO_nat,List.append_assoc,List.getElem?_append_right (by omega),Nat.add_sub_cancel_left];rfl
 ·
  unfold dB;rw [if_pos ⟨by omega,by omega,by rw [hlen];omega⟩,List.append_assoc]
  simp
theorem HV_ {p:Int}{t:List Nod}{j:Nat}{n:Nod}{s:List Rel} (hf:fdB p=true) (ht:t[j]?=some n) (hn:lfB n=true) (h1:fF n=true) (h2:ovN p n=true) (hs:s.length≤1000):nS p t j s=some (s++[mI p n]):=by
 have hm:bB=1099511627776:=rfl
 have hk:=cM hn
 exact bnd (kA ht) (bnd (wC (by omega) (by omega)) (stp (cFW (dF (by omega)) (stp (cFW (dF (by omega)) (bnd (BB_ hf hn h1 h2).2.2 (bnd (iB (by simp;omega)) rfl)))))))
theorem HU_ {p:Int}{t:List Nod}{j:Nat}{k:Int}{s:List Rel}{x y:Rel}{u v w:Int×Int} (hf:fdB p=true) (ht:t[j]?=some (k,0,.empty)) (hk:k=15∨k=16) (hs:s.length≤1000) (hu:mG u) (hv:mG v) (hx:RelOk p u x) (hy:RelOk p v y) (h:jn k u v=some w) :
  nS p t j (s++[x]++[y])=some (s++[mJ p k x y]):=by
 have hm:bB=1099511627776:=rfl
 obtain ⟨q1,q2,q3,_,q5,q6,q7⟩:=top2 (s:=s) (x:=x) (y:=y) hs
 obtain ⟨_,c1,c2⟩:=BF_ hf hu hv hx hy h
 refine bnd (kA ht) (bnd q2 ?_)
 by_cases h15:k=15
 · exact stp (cTW (dT h15) (bnd q3 (bnd q3 (bnd q5 (bnd q6 (bnd q7 (bnd (c1 h15).2 (bnd (iB (by simp;omega)) rfl))))))))
 · exact stp (cFW (dF h15) (stp (cTW (dT (by dsimp only;omega)) (bnd q3 (bnd q3 (bnd q5 (bnd q6 (bnd q7 (bnd (c2 h15).2 (bnd (iB (by simp;omega)) rfl))))))))))
theorem C1_ {σ:Type}{f:Nat→σ→Option σ}{n k:Nat}{s s':σ} (h:f k s=some s'):forS f (n+1) k s=forS f n (k+1) s':=by
 show (f k s).bind _=_
 rw [h];rfl
theorem A2_ {p:Int} (hf:fdB p=true){t:List Nod} (ht:t.length≤400):∀ {T:Tr}{w:Int×Int},xD T=some w→okT p T→∀ (pre q:List Nod) (r:List Rel),t=pre++(flat T++q)→r.length≤pre.length →
  forS (nS p t) ((flat T).length+q.length) pre.length r=forS (nS p t) q.length (pre.length+(flat T).length) (r++[wH p T])
 | .leaf n,w,h,ho,pre,q,r,e,hr=>by
  obtain ⟨h1,rfl⟩:=fK h
  have hlt:pre.length<t.length:=by rw [e];simp [flat]
  have hn:t[pre.length]?=some n:=by rw [e,List.getElem?_append_right (Nat.le_refl _),Nat.sub_self];rfl
  have h2:=ho n (by simp [flat])
  rw [show (flat (.leaf n)).length+q.length=q.length+1 by simp [flat];omega,C1_ (HV_ hf hn h1 h2.1 h2.2 (by omega))]
  rfl
 | .node k a b,w,h,ho,pre,q,r,e,hr=>by
  obtain ⟨hk,x,y,h1,h2,h3⟩:=cJ h
  have oa:okT p a:=fun n hn=>ho n (by simp [flat,hn])
  have ob:okT p b:=fun n hn=>ho n (by simp [flat,hn])
  have hlen:(flat (.node k a b)).length=(flat a).length+(flat b).length+1:=by simp [flat];omega
  have htl:t.length=pre.length+((flat a).length+(flat b).length+1+q.length):=by rw [e,List.length_append,List.length_append,hlen]
  have ea:t=pre++(flat a++(flat b++([((k,(0:Int),ByteArray.empty):Nod)]++q))):=by rw [e];simp [flat]
  have eb:t=(pre++flat a)++(flat b++([((k,(0:Int),ByteArray.empty):Nod)]++q)):=by rw [ea];simp
  have hpa:=vG a
  have la:=A2_ hf ht h1 oa pre (flat b++([((k,(0:Int),ByteArray.empty):Nod)]++q)) r ea hr
  have lb:=A2_ hf ht h2 ob (pre++flat a) ([((k,(0:Int),ByteArray.empty):Nod)]++q) (r++[wH p a]) eb (by simp;omega)
  rw [show (pre++flat a).length=pre.length+(flat a).length from List.length_append] at lb
  rw [show (flat (.node k a b)).length+q.length=(flat a).length+(flat b++([((k,(0:Int),ByteArray.empty):Nod)]++q)).length by rw [hlen];simp;omega,la,
   show (flat b++([((k,(0:Int),ByteArray.empty):Nod)]++q)).length=(flat b).length+([((k,(0:Int),ByteArray.empty):Nod)]++q).length from List.length_append,lb]
  have hn:t[pre.length+(flat a).length+(flat b).length]?=some (k,0,.empty):=by
   rw [show t=(pre++flat a++flat b)++([((k,(0:Int),ByteArray.empty):Nod)]++q) by rw [ea];simp,List.getElem?_append_right (by simp;omega)]
   simp [Nat.add_assoc]
  have st:=HU_ (s:=r) hf hn hk (by omega) (kK h1) (kK h2) (xL hf h1 oa) (xL hf h2 ob) h3
  rw [show ([((k,(0:Int),ByteArray.empty):Nod)]++q).length=q.length+1 by simp,C1_ st,hlen,show pre.length+((flat a).length+(flat b).length+1)=pre.length+(flat a).length+(flat b).length+1 by omega]
  rfl
theorem denote_ {p:Int} (hf:fdB p=true){T:Tr}{w:Int×Int} (h:xD T=some w) (ho:okT p T) (hl:(flat T).length≤400):qQ p (flat T)=some (wH p T):=by
 have loop:=A2_ hf hl h ho [] [] [] (by simp) (by simp)
 rw [List.length_nil,Nat.add_zero,Nat.zero_add,List.nil_append] at loop
 have e:qQ p (flat T)=(forS (nS p (flat T)) (flat T).length 0 []).bind fun s452=>(idxO s452 0).bind fun a461=>some (a461.1,a461.2.1,a461.2.2):=rfl
 rw [e,loop];rfl
noncomputable def lX (p:Int) (t:List Nod) (k14:Nat) (s16808:List Rel):Option (List Rel⊕(Rel×Bool)):=
    uB ((idxO t ((k14:Nat):Int)).bind fun a20937=>
     (fL a20937.1).bind fun y20945=>
     (some (!y20945)).bind fun a20948=>
     cond a20948
     (some (.inr (.inr ((0,0,[]),false))))
     (((some (!decide (a20937.1=15))).bind fun a20963=>
       cond a20963
       ((some (!decide (a20937.1=16))).bind fun a20967=>
        some a20967)
       (some false)).bind fun (s20957:Bool)=>
      cond s20957
      ((uM p (a20937.1,a20937.2.1,a20937.2.2)).bind fun y25017=>
       (nA s16808 [(y25017.1,y25017.2.1,y25017.2.2)]).bind fun a25029=>
       some (.inl a25029))
      (((subO ((s16808.length:Nat):Int) 2).bind fun a22977=>
        (idxO s16808 a22977).bind fun a23019=>
        (subO ((s16808.length:Nat):Int) 1).bind fun a22979=>
        (idxO s16808 a22979).bind fun a23071=>
        some (a23071.1,a23071.2.1,a23071.2.2,a23019.1,a23019.2.1,a23019.2.2)).bind fun (s22966:Int×Int×List (List Int)×Int×Int×List (List Int))=>
       (subO ((s16808.length:Nat):Int) 2).bind fun a24972=>
       (dB s16808 0 a24972).bind fun a24974=>
       (some (decide (a20937.1=15))).bind fun a24978=>
       cond a24978
       ((uP p (s22966.2.2.2.1,s22966.2.2.2.2.1,s22966.2.2.2.2.2) (s22966.1,s22966.2.1,s22966.2.2.1)).bind fun y24999=>
        (nA a24974 [(y24999.1,y24999.2.1,y24999.2.2)]).bind fun a25011=>
        some (.inl a25011))
       ((bQ p (s22966.2.2.2.1,s22966.2.2.2.2.1,s22966.2.2.2.2.2) (s22966.1,s22966.2.1,s22966.2.2.1)).bind fun y24981=>
        (nA a24974 [(y24981.1,y24981.2.1,y24981.2.2)]).bind fun a24993=>
        some (.inl a24993))))) fun (s20924:List (Int×Int×List (List Int)))=>
    some (.inl s20924)
theorem HD_ {p:Int}{t:List Nod}{j:Nat}{n:Nod}{s:List Rel} (hf:fdB p=true) (ht:t[j]?=some n) (hn:lfB n=true) (h2:ovN p n=true) (hs:s.length≤1000):lX p t j s=if fF n=true then some (.inl (s++[mI p n])) else some (.inr (noR,false)):=by
 have hm:bB=1099511627776:=rfl
 have hk:=cM hn
 have hT:fL n.1=some (fF n):=vU n.1
 cases h1:fF n with
 | false=>
  rw [h1] at hT
  exact sqW (r:=some (.inr (.inr (noR,false)))) (bnd (kA ht) (bnd hT rfl)) rfl
 | true=>
  rw [h1] at hT
  rw [if_pos rfl]
  refine sqW (r:=some (.inl (s++[mI p n]))) (bnd (kA ht) (bnd hT (stp (cFW rfl (bnd (a:=true) (stp (cTW (nF (dF (by omega))) (stp (congrArg some (nF (dF (by omega))))))) (cTW rfl (bnd (BB_ hf hn h1 h2).2.1 (bnd (iB (by simp;omega)) rfl)))))))) rfl
theorem HC_ {p:Int}{t:List Nod}{j:Nat}{k:Int}{s:List Rel}{x y:Rel}{u v w:Int×Int} (hf:fdB p=true) (ht:t[j]?=some (k,0,.empty)) (hk:k=15∨k=16) (hs:s.length≤1000) (hu:mG u) (hv:mG v) (hx:RelOk p u x) (hy:RelOk p v y) (h:jn k u v=some w) :
  lX p t j (s++[x]++[y])=some (.inl (s++[mJ p k x y])):=by
 have hm:bB=1099511627776:=rfl
 obtain ⟨q1,q2,q3,q4,q5,q6,q7⟩:=top2 (s:=s) (x:=x) (y:=y) hs
 obtain ⟨_,c1,c2⟩:=BF_ hf hu hv hx hy h
 have hT:fL k=some true:=by rw [vU,dT (by omega)]
 have hc:((some (!decide (k=15))).bind fun a20963=>cond a20963 ((some (!decide (k=16))).bind fun a20967=>some a20967) (some false))=some false:=by
  rcases hk with rfl | rfl <;> rfl
 refine sqW (r:=some (.inl (s++[mJ p k x y]))) (bnd (kA ht) (bnd hT (stp (cFW rfl (bnd hc (cFW rfl (bnd (bnd q4 (bnd q5 (bnd q2 (bnd q6 rfl)))) (bnd q4 (bnd q7 ?_))))))))) rfl
 by_cases h15:k=15
 · exact stp (cTW (dT h15) (bnd (c1 h15).1 (bnd (iB (by simp;omega)) rfl)))
 · exact stp (cFW (dF h15) (bnd (c2 h15).1 (bnd (iB (by simp;omega)) rfl)))
def ovT (p:Int) (T:Tr):Prop:=∀ n∈flat T,ovN p n=true
theorem H1_ (k:Int) (a b:Tr) (hk:k=15∨k=16):aH (.node k a b)=(aH a&&aH b):=by
 have:fF (k,0,.empty)=true:=dT (by dsimp only;omega)
 unfold aH
 simp [flat,List.all_append,this]
theorem Fm_ {p:Int}{T:Tr} (h1:aH T=true) (h2:ovT p T):okT p T:=fun n hn=>⟨List.all_eq_true.1 h1 n hn,h2 n hn⟩
theorem Ar_ {p:Int} (hf:fdB p=true){t:List Nod} (ht:t.length≤400):∀ {T:Tr}{w:Int×Int},xD T=some w→ovT p T→∀ (pre q:List Nod) (r:List Rel),t=pre++(flat T++q)→r.length≤pre.length →
  dC (lX p t) ((flat T).length+q.length) pre.length r=if aH T=true then dC (lX p t) q.length (pre.length+(flat T).length) (r++[wH p T]) else some (.inr (noR,false))
 | .leaf n,w,h,ho,pre,q,r,e,hr=>by
  obtain ⟨h1,rfl⟩:=fK h
  have hlt:pre.length<t.length:=by rw [e];simp [flat]
  have hn:t[pre.length]?=some n:=by rw [e,List.getElem?_append_right (Nat.le_refl _),Nat.sub_self];rfl
  have st:=HD_ (s:=r) hf hn h1 (ho n (by simp [flat])) (by omega)
  have e1:aH (.leaf n)=fF n:=by simp [aH,flat]
  rw [e1,show (flat (.leaf n)).length+q.length=q.length+1 by simp [flat];omega]
  cases hb:fF n with
  | true=>
   rw [hb,if_pos rfl] at st
   rw [if_pos rfl,tU st];rfl
  | false=>
   rw [hb] at st
   rw [if_neg (by simp),C2_ (st.trans (if_neg (by simp)))]
 | .node k a b,w,h,ho,pre,q,r,e,hr=>by
  obtain ⟨hk,x,y,h1,h2,h3⟩:=cJ h
  have oa:ovT p a:=fun n hn=>ho n (by simp [flat,hn])
  have ob:ovT p b:=fun n hn=>ho n (by simp [flat,hn])
  have hlen:(flat (.node k a b)).length=(flat a).length+(flat b).length+1:=by simp [flat];omega
  have htl:t.length=pre.length+((flat a).length+(flat b).length+1+q.length):=by rw [e,List.length_append,List.length_append,hlen]
  have ea:t=pre++(flat a++(flat b++([((k,(0:Int),ByteArray.empty):Nod)]++q))):=by rw [e];simp [flat]
  have eb:t=(pre++flat a)++(flat b++([((k,(0:Int),ByteArray.empty):Nod)]++q)):=by rw [ea];simp
  have hpa:=vG a
  have la:=Ar_ hf ht h1 oa pre (flat b++([((k,(0:Int),ByteArray.empty):Nod)]++q)) r ea hr
  rw [show (flat (.node k a b)).length+q.length=(flat a).length+(flat b++([((k,(0:Int),ByteArray.empty):Nod)]++q)).length by rw [hlen];simp;omega,la,H1_ k a b hk]
  cases ma:aH a with
  | false=>simp
  | true=>
   have e4:∀ {α:Type} (u v:α),(if true=true then u else v)=u:=fun u v=>if_pos rfl
   have lb:=Ar_ hf ht h2 ob (pre++flat a) ([((k,(0:Int),ByteArray.empty):Nod)]++q) (r++[wH p a]) eb (by simp;omega)
   rw [show (pre++flat a).length=pre.length+(flat a).length from List.length_append] at lb
   rw [e4,show (flat b++([((k,(0:Int),ByteArray.empty):Nod)]++q)).length=(flat b).length+([((k,(0:Int),ByteArray.empty):Nod)]++q).length from List.length_append,lb]
   cases mb:aH b with
   | false=>simp
   | true=>
    have hn:t[pre.length+(flat a).length+(flat b).length]?=some (k,0,.empty):=by
     rw [show t=(pre++flat a++flat b)++([((k,(0:Int),ByteArray.empty):Nod)]++q) by rw [ea];simp,List.getElem?_append_right (by simp;omega)]
     simp [Nat.add_assoc]
    have st:=HC_ (s:=r) hf hn hk (by omega) (kK h1) (kK h2) (xL hf h1 (Fm_ ma oa)) (xL hf h2 (Fm_ mb ob)) h3
    have e5:(true&&true)=true:=rfl
    rw [e4,e5,e4,show ([((k,(0:Int),ByteArray.empty):Nod)]++q).length=q.length+1 by simp,tU st,hlen,show pre.length+((flat a).length+(flat b).length+1)=pre.length+(flat a).length+(flat b).length+1 by omega]
    rfl
def oF (p:Int) (t:List Nod):Bool:=ovB p t&&t.all fF
open Classical in
noncomputable def sC (p:Int) (t:List Nod):Rel:=if h:fD t=true then wH p (Classical.choose (fO h)) else noR
theorem E4_ {p:Int}{t:List Nod} (h:fD t=true):∃ T w,t=flat T∧xD T=some w∧t.length≤400∧sC p t=wH p T:=by
 obtain ⟨w,h1,h2,h3⟩:=Classical.choose_spec (fO h)
 exact ⟨_,w,h1,h2,h3,by unfold sC;rw [dif_pos h]⟩
theorem oO {p:Int}{t:List Nod} (h:ovB p t=true):fD t=true∧fdB p=true∧∀ n∈t,ovN p n=true:=by
 unfold ovB at h
 simp only [Bool.and_eq_true] at h
 exact ⟨h.1,h.2.1,fun n hn=>List.all_eq_true.1 h.2.2 n hn⟩
theorem dnTerm_ (p:Int) (t:List Nod):uI p t=some (if oF p t=true then (sC p t,true) else (noR,false)):=by
 refine bnd (Eq_ p t) (stp ?_)
 unfold oF
 cases ho:ovB p t with
 | false=>rfl
 | true=>
  obtain ⟨hv,hf,hn⟩:=oO ho
  obtain ⟨T,w,rfl,h2,h3,h4⟩:=E4_ (p:=p) hv
  rw [h4]
  have loop:=Ar_ hf h3 h2 hn [] [] [] (by simp) (by simp)
  rw [List.length_nil,Nat.add_zero,Nat.zero_add,List.nil_append] at loop
  refine cFW rfl (sqW (r:=if aH T=true then some (.inl [wH p T]) else some (.inr (noR,false))) (loop.trans ?_) ?_)
  · cases aH T <;> rfl
  ·
   rw [Bool.true_and]
   show _=some (if aH T=true then (wH p T,true) else (noR,false))
   cases aH T <;> rfl
end Go.Proofs.YtemcakhocdchiaaGreatDoor
namespace Go.Proofs.YtemcakhocdchiaaGreatDoor
theorem Iv_ (p:Int) (t:List Nod):dY t p=some (oF p t):=by
 refine bnd (isOver_ p t) (stp ?_)
 unfold oF
 cases ovB p t with
 | false=>rfl
 | true=>
  refine cFW rfl (sqW (uG fF t 0 (t:=false) (fun j n hj=>?_)) ?_)
  ·
   rw [Nat.zero_add]
   have hd:qT n.1=some (!fF n):=by
    unfold qT fF
    by_cases h1:n.1=8
    · simp [h1]
    · by_cases h2:n.1=14 <;> simp [h1,h2]
   refine bnd (kA hj) (bnd hd ?_)
   cases fF n <;> rfl
  · cases t.all fF <;> rfl
theorem Hz_ {p:Int}{t:List Nod} (h:oF p t=true):fdB p=true∧∃ l r:Nat,l≤12∧r≤12∧RlOk p l r (sC p t)∧qQ p t=some (sC p t):=by
 unfold oF at h
 rw [Bool.and_eq_true] at h
 obtain ⟨hv,hf,hn⟩:=oO h.1
 obtain ⟨T,w,rfl,h2,h3,h4⟩:=E4_ (p:=p) hv
 have ho:okT p T:=fun n hm=>⟨List.all_eq_true.1 h.2 n hm,hn n hm⟩
 have hd:=xL hf h2 ho
 obtain ⟨a1,a2,a3,a4⟩:=kK h2
 rw [h4]
 have hl:=sO hf hd.red
 exact ⟨hf,w.1.toNat,w.2.toNat,by omega,by omega,⟨hf,by rw [hd.l];omega,by rw [hd.r];omega,by omega,hd.red,hl⟩,denote_ hf h2 ho h3⟩
noncomputable def sameW (p:Int) (a b:List Nod):Bool:=decide ((sC p a).1=(sC p b).1)&&decide ((sC p a).2.1=(sC p b).2.1)
end Go.Proofs.YtemcakhocdchiaaGreatDoor
namespace Go.Proofs.YtemcakhocdchiaaGreatDoor
def kD:List (Int×Int)→Int→Int
 | [],_=>0
 | q::l,j=>(if q.1=j then q.2 else 0)+kD l j
theorem sumAt_app:∀ (l m:List (Int×Int)) (j:Int),kD (l++m) j=kD l j+kD m j
 | [],_,_=>by simp [kD]
 | q::l,m,j=>by
  show (if q.1=j then q.2 else 0)+kD (l++m) j=_
  rw [sumAt_app l m j];show _=((if q.1=j then q.2 else 0)+kD l j)+_;omega
theorem AH_ {B:Int} (hB:0≤B):∀ {l:List (Int×Int)}{j:Int},(∀ q∈l,-B≤q.2∧q.2≤B) → -(B*l.length)≤kD l j∧kD l j≤B*l.length
 | [],_,_=>by simp [kD]
 | q::l,j,h=>by
  have ih:=AH_ hB (l:=l) (j:=j) fun x hx=>h x (.tail _ hx)
  have h0:=h q (.head _)
  have e:B*((q::l).length:Nat)=B*(l.length:Int)+B:=by
   rw [List.length_cons];push_cast;rw [Int.mul_add];omega
  show _≤(if q.1=j then q.2 else 0)+kD l j∧(if q.1=j then q.2 else 0)+kD l j≤_
  rw [e]
  split <;> omega
def cg (p:Int) (l:List (Int×Int)):List (Int×Int):=l.map fun q=>(q.1,q.2 % p)
theorem DG_ (p:Int):∀ (l:List (Int×Int)) (j:Int),kD (cg p l) j % p=kD l j % p
 | [],_=>rfl
 | q::l,j=>by
  show ((if q.1=j then q.2 % p else 0)+kD (cg p l) j) % p=((if q.1=j then q.2 else 0)+kD l j) % p
  have ih:=DG_ p l j
  rw [Int.add_emod,ih]
  split
  · rw [mod_mod,← Int.add_emod]
  · rw [←Int.add_emod]
theorem fdAdd_ {p a b:Int} (hp:2≤p∧p≤97) (ha:0≤a∧a<p) (hb:0≤b∧b<p):kU p a b=some ((a+b) % p):=by
 refine bnd (aB (by omega) (by omega)) (bnd (wG (by omega)) ?_)
 rw [Int.tmod_eq_emod_of_nonneg (by omega)]
def sumRow (p:Int) (n:Nat) (L:List (Int×Int)):List Int:=yA n fun j=>kD L (j:Int) % p
theorem dnRowG {p:Int}{n:Nat} (hp:2≤p∧p≤97) (hn:n≤1000000){L:List (Int×Int)} (hL:∀ q∈L,(0≤q.1∧q.1<(n:Int))∧(0≤q.2∧q.2<p)) :
  tE p (n:Int) (L.map (·.1)) (L.map (·.2))=some (sumRow p n L):=by
 have hm:bB=1099511627776:=rfl
 have h0:(yA n fun _=>(0:Int))=sumRow p n (L.take 0):=bD fun k _=>by simp [kD]
 refine bnd (aJ 0 (by omega)) ?_
 rw [h0]
 refine bnd (xC (n:=(L.map (·.1)).length) (fun j=>sumRow p n (L.take j)) fun j hj=>?_) ?_
 ·
  have hj:j<L.length:=by simpa using hj
  obtain ⟨⟨a1,a2⟩,a3⟩:=hL L[j] (List.getElem_mem hj)
  obtain ⟨m,hq⟩:=Int.eq_ofNat_of_zero_le a1
  have hmn:m<n:=by omega
  have e1:idxO (L.map (·.1)) (j:Int)=some (m:Int):=by
   rw [←hq];exact kA (by rw [List.getElem?_map,List.getElem?_eq_getElem hj];rfl)
  have e2:idxO (L.map (·.2)) (j:Int)=some L[j].2:=kA (by rw [List.getElem?_map,List.getElem?_eq_getElem hj];rfl)
  refine bnd e1 (bnd (bE _ hmn) (bnd e2 (bnd (fdAdd_ hp (fJ hp.1) a3) (bnd (mE _ _ hmn) ?_))))
  refine congrArg some (bD fun k _=>?_)
  rw [List.take_add_one,List.getElem?_eq_getElem hj]
  show (if k=m then _ else _)=kD (L.take j++[L[j]]) (k:Int) % p
  rw [sumAt_app]
  show _=(kD (L.take j) k+((if L[j].1=(k:Int) then L[j].2 else 0)+0)) % p
  by_cases hk:k=m
  ·
   subst hk
   rw [if_pos rfl,if_pos hq,Int.add_zero,Int.add_emod (kD _ _ % p),mod_mod,← Int.add_emod]
  · rw [if_neg hk,if_neg (by omega),Int.add_zero,Int.add_zero]
 ·
  have:L.take (L.map (·.1)).length=L:=by rw [List.length_map];exact List.take_length
  rw [this]
def MIs (m:MI) (L:List (Int×Int)):Prop:=sF m.kvs∧(∀ x∈m.kvs.map (·.1),x∈L.map (·.1))∧∀ j,zD m.kvs j=kD L j
theorem D2_:∀ (l:List (Int×Int)) (k v j:Int),zD (putL l k v) j=if k=j then v else zD l j
 | [],k,v,j=>by
  show (if k=j then v else zD [] j)=_
  rfl
 | p::l,k,v,j=>by
  unfold putL
  by_cases h:p.1=k
  ·
   rw [if_pos h]
   show (if k=j then v else zD l j)=if k=j then v else (if p.1=j then p.2 else zD l j)
   by_cases hj:k=j
   · rw [if_pos hj,if_pos hj]
   · rw [if_neg hj,if_neg hj,if_neg (by omega)]
  ·
   rw [if_neg h]
   show (if p.1=j then p.2 else zD (putL l k v) j)=if k=j then v else (if p.1=j then p.2 else zD l j)
   rw [D2_ l k v j]
   by_cases hj:p.1=j
   · rw [if_pos hj,if_pos hj,if_neg (by omega)]
   · rw [if_neg hj,if_neg hj]
theorem ER_:∀ {l:List (Int×Int)}{k:Int},k ∉ l.map (·.1)→zD l k=0
 | [],_,_=>rfl
 | p::l,k,h=>by
  unfold zD
  rw [if_neg (fun e=>h (by rw [←e];simp))]
  exact ER_ fun q=>h (by simp [q])
theorem I1_ (l:List (Int×Int)) (k v:Int) (h:sF l) (x:Int):x∈(putL l k v).map (·.1)↔x=k∨x∈l.map (·.1):=(xU l k v h).2 x
theorem tR {one b:Int}{os:List Int} (hb:-97≤b∧b≤97) (hl:os.length≤1000) :
  ∃ m,qM one os b=some m∧MIs m ((one,1)::os.map fun x=>(x,b)):=by
 have key:∃ r,forS (fun (k6:Nat) (s33:MI)=>
   (idxO os ((k6:Nat):Int)).bind fun a48=>
   (mA (kM s33 a48) b).bind fun a50=>
   some (oJ s33 a48 a50)) os.length 0 (oJ (⟨[]⟩:MI) one 1)=some r∧MIs r ((one,1)::(os.take os.length).map fun x=>(x,b)):=by
  refine AX_ (I:=fun j s=>MIs s ((one,1)::(os.take j).map fun x=>(x,b))) ?_ ?_
  ·
   refine ⟨by simp [oJ,putL,sF],by simp [oJ,putL],fun j=>?_⟩
   show (if one=j then (1:Int) else zD [] j)=(if one=j then 1 else 0)+0
   split <;> rfl
  ·
   rintro j s hj ⟨h1,h2,h3⟩
   have hB:=AH_ (B:=97) (by omega) (l:=(one,1)::(os.take j).map fun x=>(x,b)) (j:=os[j]) (by
    intro q hq
    rcases List.mem_cons.1 hq with rfl | hq
    · exact ⟨by show (-97:Int)≤1;omega,by show (1:Int)≤97;omega⟩
    ·
     obtain ⟨y,_,rfl⟩:=List.mem_map.1 hq
     exact ⟨hb.1,hb.2⟩)
   have hlen:(((one,(1:Int))::(os.take j).map fun x=>(x,b)).length:Int)≤1001:=by simp;omega
   have hg:kM s os[j]=kD ((one,1)::(os.take j).map fun x=>(x,b)) os[j]:=h3 _
   refine ⟨oJ s os[j] (kM s os[j]+b),bnd (kA (List.getElem?_eq_getElem hj)) (bnd (aB (by rw [hg];omega) (by rw [hg];omega)) rfl),?_⟩
   have ht:(os.take (j+1)).map (fun x=>(x,b))=(os.take j).map (fun x=>(x,b))++[(os[j],b)]:=by
    rw [List.take_add_one,List.getElem?_eq_getElem hj,List.map_append];rfl
   rw [ht,← List.cons_append]
   refine ⟨(xU _ _ _ h1).1,fun x hx=>?_,fun i=>?_⟩
   ·
    rcases (I1_ _ _ _ h1 x).1 hx with rfl | hx
    · simp
    · rw [List.map_append];exact List.mem_append_left _ (h2 x hx)
   ·
    show zD (putL s.kvs os[j] (kM s os[j]+b)) i=_
    rw [D2_,sumAt_app,hg]
    show _=_+((if os[j]=i then b else 0)+0)
    by_cases hi:os[j]=i
    · subst hi;rw [if_pos rfl,if_pos rfl,Int.add_zero]
    · rw [if_neg hi,if_neg hi,h3 i,Int.add_zero,Int.add_zero]
 obtain ⟨r,h1,h2⟩:=key
 rw [List.take_length] at h2
 exact ⟨r,bnd h1 rfl,h2⟩
theorem Fr_ {p:Int}{c W:Nat} (hp:2≤p∧p≤97) (hc:c≤100000) (hW:W≤100000):∀ (l:List (Int×Int)) (g:Nat→Int),sF l→(∀ q∈l,(0≤q.1∧q.1<(W:Int))∧(-1000000≤q.2∧q.2≤1000000)) →
  kvO (fun (s:List Int) (k v:Int)=>
   (mA (c:Int) k).bind fun i=>
   (rF p v).bind fun b=>
   (setO s i b).bind fun a=>some a) l (yA (c+W) g)=some (yA (c+W) fun j=>if (j:Int)-c∈l.map (·.1) then zD l ((j:Int)-c) % p else g j)
 | [],g,_,_=>congrArg some (bD fun j _=>by simp)
 | q::l,g,hk,hq=>by
  obtain ⟨h1,h2⟩:=List.nodup_cons.1 hk
  obtain ⟨⟨a1,a2⟩,a3⟩:=hq q (.head _)
  obtain ⟨m,hm⟩:=Int.eq_ofNat_of_zero_le a1
  have hmW:c+m<c+W:=by omega
  refine bnd (bnd (aB (by omega) (by omega)) (bnd (modG hp a3) (bnd (by rw [show (c:Int)+q.1=((c+m:Nat):Int) by push_cast;omega];exact mE _ _ hmW) rfl))) ?_
  rw [Fr_ hp hc hW l _ h2 fun x hx=>hq x (.tail _ hx)]
  refine congrArg some (bD fun j _=>?_)
  by_cases hj:j=c+m
  ·
   have e:(j:Int)-c=q.1:=by omega
   rw [e,if_neg h1,if_pos hj,if_pos (by simp)]
   show _=(if q.1=q.1 then q.2 else zD l q.1) % p
   rw [if_pos rfl]
  ·
   have e:¬(q.1=(j:Int)-c):=by omega
   have:((j:Int)-c∈(q::l).map (·.1))↔((j:Int)-c∈l.map (·.1)):=by
    rw [List.map_cons,List.mem_cons]
    exact ⟨fun h=>h.elim (fun h=>(e h.symm).elim) id,.inr⟩
   rw [if_neg hj]
   by_cases hm:(j:Int)-c∈l.map (·.1)
   ·
    rw [if_pos hm,if_pos (this.2 hm)]
    show _=(if q.1=(j:Int)-c then q.2 else zD l ((j:Int)-c)) % p
    rw [if_neg e]
   · rw [if_neg hm,if_neg (fun h=>hm (this.1 h))]
def wide (p:Int) (c W:Nat) (L:List (Int×Int)):List Int:=List.replicate c 0++sumRow p W L
theorem HZ_ (p:Int) (c W:Nat) (L:List (Int×Int)):wide p c W L=yA (c+W) fun j=>if j<c then 0 else kD L ((j:Int)-c) % p:=by
 refine tabl_of (by simp [wide,sumRow,vE]) fun k hk=>?_
 unfold wide
 by_cases h:k<c
 · rw [if_pos h,List.getElem?_append_left (by simpa using h),List.getElem?_replicate,if_pos h]
 ·
  rw [if_neg h,List.getElem?_append_right (by simpa using h),List.length_replicate]
  unfold sumRow
  rw [lO _ (by omega)]
  congr 3;omega
def LOk (W:Nat) (L:List (Int×Int)):Prop:=L.length≤3∧∀ q∈L,(0≤q.1∧q.1<(W:Int))∧(-97≤q.2∧q.2≤97)
theorem kv_wide {p:Int}{c W:Nat} (hp:2≤p∧p≤97) (hc:c≤100000) (hW:W≤100000){m:MI}{L:List (Int×Int)} (hm:MIs m L) (hL:LOk W L) :
  kvO (fun (s:List Int) (k v:Int)=>
   (mA (c:Int) k).bind fun i=>
   (rF p v).bind fun b=>
   (setO s i b).bind fun a=>some a) m.kvs (List.replicate (c+W) 0)=some (wide p c W L):=by
 obtain ⟨h1,h2,h3⟩:=hm
 have hB:∀ j,-1000000≤kD L j∧kD L j≤1000000:=fun j=>by
  have:=AH_ (B:=97) (by omega) (l:=L) (j:=j) fun q hq=>(hL.2 q hq).2
  have:=hL.1
  omega
 have hat:∀ (l:List (Int×Int)),sF l→∀ q∈l,zD l q.1=q.2:=by
  intro l
  induction l with
  | nil=>intro _ q hq;cases hq
  | cons x l ih=>
   intro hk q hq
   obtain ⟨k1,k2⟩:=List.nodup_cons.1 hk
   show (if x.1=q.1 then x.2 else zD l q.1)=q.2
   rcases List.mem_cons.1 hq with rfl | hq
   · rw [if_pos rfl]
   · rw [if_neg (fun e=>k1 (by show x.1∈_;rw [e];exact List.mem_map_of_mem hq)),ih k2 q hq]
 rw [eR,Fr_ hp hc hW m.kvs _ h1 fun q hq=>⟨?_,?_⟩,HZ_]
 ·
  refine congrArg some (bD fun j hj=>?_)
  by_cases hk:(j:Int)-c∈m.kvs.map (·.1)
  ·
   rw [if_pos hk,h3]
   obtain ⟨q,hq,e⟩:=List.mem_map.1 (h2 _ hk)
   have:=(hL.2 q hq).1.1
   rw [if_neg (by omega)]
  ·
   rw [if_neg hk]
   by_cases hjc:j<c
   · rw [if_pos hjc]
   · rw [if_neg hjc,← h3,ER_ hk];rfl
 ·
  obtain ⟨x,hx,e⟩:=List.mem_map.1 (h2 q.1 (List.mem_map_of_mem hq))
  rw [←e];exact (hL.2 x hx).1
 · rw [←hat m.kvs h1 q hq,h3];exact hB _
end Go.Proofs.YtemcakhocdchiaaGreatDoor
namespace Go.Proofs.YtemcakhocdchiaaGreatDoor
def ori (e:Edg):Option (List Int×List Int):=(some (decide ((9:Int)≤e.1))).bind fun a19=>
  cond a19
  (some (e.2.2.2,e.2.2.1))
  (some (e.2.2.1,e.2.2.2))
def oriS (e:Edg):Option (List Int×List Int×Int):=(some (decide ((9:Int)≤e.1))).bind fun a24=>
  cond a24
  ((subO e.1 9).bind fun a33=>
   (mA a33 3).bind fun a35=>
   some (e.2.2.2,e.2.2.1,a35))
  (some (e.2.2.1,e.2.2.2,e.1))
structure RowsOf (p:Int) (W:Nat) (e:Edg) (Ls:List (List (Int×Int))):Prop where
 spec:kL p (W:Int) e=some (Ls.map (sumRow p W))
 impl:∃ ms,lT e=some ms∧ms.length=Ls.length∧∀ (i:Nat) m L,ms[i]?=some m→Ls[i]?=some L→MIs m L
 ok:∀ L∈Ls,LOk W L
 len:Ls.length≤2
theorem fP {p:Int}{W:Nat} (hp:2≤p∧p≤97) (hW:W≤1000000) (L:List (Int×Int)){at_ vals:List Int} (h1:at_=L.map (·.1)) (h2:vals=L.map fun q=>q.2 % p) (hL:LOk W L):tE p (W:Int) at_ vals=some (sumRow p W L):=by
 have e1:at_=(cg p L).map (·.1):=by rw [h1];unfold cg;rw [List.map_map];rfl
 have e2:vals=(cg p L).map (·.2):=by rw [h2];unfold cg;rw [List.map_map];rfl
 rw [e1,e2,dnRowG hp hW fun q hq=>?_]
 · exact congrArg some (bD fun k _=>DG_ p L k)
 ·
  obtain ⟨x,hx,rfl⟩:=List.mem_map.1 hq
  exact ⟨(hL.2 x hx).1,fJ hp.1⟩
theorem gP {W:Nat}{o b:Int}{is:List Int} (ho:0≤o∧o<(W:Int)) (hi:∀ x∈is,0≤x∧x<(W:Int)) (hl:is.length≤2) (hb:-97≤b∧b≤97):LOk W ((o,1)::is.map fun x=>(x,b)):=by
 refine ⟨by simp;omega,fun q hq=>?_⟩
 rcases List.mem_cons.1 hq with rfl | hq
 · exact ⟨ho,by show (-97:Int)≤1;omega,by show (1:Int)≤97;omega⟩
 ·
  obtain ⟨x,hx,rfl⟩:=List.mem_map.1 hq
  exact ⟨hi x hx,hb⟩
theorem eS {p:Int} (hp:2≤p∧p≤97):(-1) % p=p-1:=by
 have h:(p-1) % p=p-1:=Int.emod_eq_of_lt (by omega) (by omega)
 rw [←Int.add_emod_right (-1) p,show (-1:Int)+p=p-1 by omega,h]
theorem neg_mod {p v:Int} (_:2≤p∧p≤97):(-v) % p=(p-v) % p:=by
 rw [show p-v = -v+p by omega,Int.add_emod_right]
theorem fN {p:Int} (hp:2≤p∧p≤97):(1:Int) % p=1:=Int.emod_eq_of_lt (by omega) (by omega)
section
variable {p:Int}{W:Nat}{e:Edg}{a b c:Int}
theorem rows3 (hp:2≤p∧p≤97) (hW:W≤1000000) (h1:oriS e=some ([a],[b,c],3)) (h2:ori e=some ([a],[b,c])){y:Int} (h3:rI e.1=some y) (h4:uH e.1 y=3)
  (ha:0≤a∧a<(W:Int)) (hb:0≤b∧b<(W:Int)) (hc:0≤c∧c<(W:Int)):RowsOf p W e [[(b,1),(a,-1)],[(c,1),(a,-1)]]:=by
 have sp:subO p 1=some (p-1):=wC (by omega) (by omega)
 have l1:LOk W [(b,1),(a,-1)]:=gP (is:=[a]) hb (by simpa using ha) (by simp) (by omega)
 have l2:LOk W [(c,1),(a,-1)]:=gP (is:=[a]) hc (by simpa using ha) (by simp) (by omega)
 have d1:=fP (at_:=[b,a]) (vals:=[1,p-1]) hp hW _ rfl (by simp [fN hp,eS hp]) l1
 have d2:=fP (at_:=[c,a]) (vals:=[1,p-1]) hp hW _ rfl (by simp [fN hp,eS hp]) l2
 obtain ⟨m1,g1,g2⟩:=tR (one:=b) (b:=-1) (os:=[a]) (by omega) (by simp)
 obtain ⟨m2,g3,g4⟩:=tR (one:=c) (b:=-1) (os:=[a]) (by omega) (by simp)
 refine ⟨bnd h1 (stp (cTW rfl ?_)),⟨[m1,m2],bnd h2 (bnd h3 (bnd (congrArg some h4) (stp (cTW rfl (bnd rfl (bnd g1 (bnd rfl (bnd g3 rfl)))))))),rfl,?_⟩,?_,by simp⟩
 · exact bnd (bnd rfl (bnd rfl (bnd sp (bnd rfl (bnd rfl (bnd sp (bnd d1 (bnd d2 rfl)))))))) rfl
 ·
  intro i m L hm hL
  match i,hm,hL with
  | 0,hm,hL=>obtain rfl:=Option.some.inj hm;obtain rfl:=Option.some.inj hL;exact g2
  | 1,hm,hL=>obtain rfl:=Option.some.inj hm;obtain rfl:=Option.some.inj hL;exact g4
  | _+2,hm,_=>cases hm
 ·
  intro L hL
  rcases List.mem_cons.1 hL with rfl | hL
  · exact l1
  ·
   rcases List.mem_cons.1 hL with rfl | hL
   · exact l2
   · cases hL
theorem A8_ {L:List (Int×Int)}{m:MI} (hs:kL p (W:Int) e=some [sumRow p W L]) (hi:lT e=some [m]) (hm:MIs m L) (hl:LOk W L):RowsOf p W e [L]:=
 ⟨hs,⟨[m],hi,rfl,fun i m' L' h1 h2=>by
  match i,h1,h2 with
  | 0,h1,h2=>obtain rfl:=Option.some.inj h1;obtain rfl:=Option.some.inj h2;exact hm
  | _+1,h1,_=>cases h1⟩,(by
   intro L' h
   rcases List.mem_cons.1 h with rfl | h
   · exact hl
   · cases h),by simp⟩
theorem rows4 {I O:List Int} (h1:oriS e=some (I,O,4)) (h2:ori e=some (I,O)){y:Int} (h3:rI e.1=some y) (h4:uH e.1 y=4):RowsOf p W e []:=
 ⟨bnd h1 (stp (cFW rfl (stp (cFW rfl (stp (cFW rfl (stp (cFW rfl rfl)))))))),⟨[],bnd h2 (bnd h3 (bnd (congrArg some h4) (stp (cFW rfl (stp (cFW rfl (stp (cFW rfl (stp (cFW rfl rfl)))))))))),rfl,(fun i _ _ h=>by cases h)⟩,(fun L h=>by cases h),by simp⟩
theorem rows5 (hp:2≤p∧p≤97) (hW:W≤1000000) (h1:oriS e=some ([a,b],[c],5)) (h2:ori e=some ([a,b],[c])){y:Int} (h3:rI e.1=some y) (h4:uH e.1 y=5)
  (ha:0≤a∧a<(W:Int)) (hb:0≤b∧b<(W:Int)) (hc:0≤c∧c<(W:Int)):RowsOf p W e [[(c,1),(a,-1),(b,-1)]]:=by
 have sp:subO p 1=some (p-1):=wC (by omega) (by omega)
 have l1:LOk W [(c,1),(a,-1),(b,-1)]:=gP (is:=[a,b]) hc (by simpa using ⟨ha,hb⟩) (by simp) (by omega)
 have d1:=fP (at_:=[c,a,b]) (vals:=[1,p-1,p-1]) hp hW _ rfl (by simp [fN hp,eS hp]) l1
 obtain ⟨m1,g1,g2⟩:=tR (one:=c) (b:=-1) (os:=[a,b]) (by omega) (by simp)
 refine A8_ (m:=m1) (bnd h1 (stp (cFW rfl (stp (cTW rfl ?_))))) (bnd h2 (bnd h3 (bnd (congrArg some h4) (stp (cFW rfl (stp (cTW rfl (bnd rfl (bnd g1 rfl))))))))) g2 l1
 exact bnd (bnd rfl (bnd rfl (bnd rfl (bnd sp (bnd sp (bnd d1 rfl)))))) rfl
theorem rows6 {I:List Int} (hp:2≤p∧p≤97) (hW:W≤1000000) (h1:oriS e=some (I,[c],6)) (h2:ori e=some (I,[c])){y:Int} (h3:rI e.1=some y) (h4:uH e.1 y=6)
  (hc:0≤c∧c<(W:Int)):RowsOf p W e [[(c,1)]]:=by
 have l1:LOk W [(c,1)]:=gP (is:=[]) (b:=0) hc (fun x hx=>by cases hx) (Nat.zero_le _) (by omega)
 have d1:=fP (at_:=[c]) (vals:=[1]) hp hW _ rfl (by simp [fN hp]) l1
 obtain ⟨m1,g1,g2⟩:=tR (one:=c) (b:=0) (os:=[]) (by omega) (by simp)
 exact A8_ (m:=m1) (bnd h1 (stp (cFW rfl (stp (cFW rfl (stp (cTW rfl (bnd rfl (bnd d1 rfl)))))))))
  (bnd h2 (bnd h3 (bnd (congrArg some h4) (stp (cFW rfl (stp (cFW rfl (stp (cTW rfl (bnd rfl (bnd g1 rfl)))))))))) ) g2 l1
theorem rows7 (hp:2≤p∧p≤97) (hW:W≤1000000) (h1:oriS e=some ([a],[c],7)) (h2:ori e=some ([a],[c])){y:Int} (h3:rI e.1=some y) (h4:uH e.1 y=7)
  (hv:0≤e.2.1∧e.2.1<p) (ha:0≤a∧a<(W:Int)) (hc:0≤c∧c<(W:Int)):RowsOf p W e [[(c,1),(a,-e.2.1)]]:=by
 have l1:LOk W [(c,1),(a,-e.2.1)]:=gP (is:=[a]) hc (by simpa using ha) (by simp) (by omega)
 have d1:=fP (at_:=[c,a]) (vals:=[1,(p-e.2.1) % p]) hp hW _ rfl (by show [1,(p-e.2.1) % p]=[(1:Int) % p,(-e.2.1) % p];rw [fN hp,neg_mod hp]) l1
 obtain ⟨m1,g1,g2⟩:=tR (one:=c) (b:=-e.2.1) (os:=[a]) (by omega) (by simp)
 have ng:negO e.2.1=some (-e.2.1):=by
  unfold negO;rw [Int.zero_sub];exact tK ⟨by omega,by omega⟩
 refine A8_ (m:=m1) (bnd h1 (stp (cFW rfl (stp (cFW rfl (stp (cFW rfl (stp (cTW rfl ?_))))))))) (bnd h2 (bnd h3 (bnd (congrArg some h4) (stp (cFW rfl (stp (cFW rfl (stp (cFW rfl (stp (cTW rfl (bnd rfl (bnd ng (bnd g1 rfl)))))))))))))) g2 l1
 exact bnd (bnd rfl (bnd rfl (bnd (bX hp hv) (bnd d1 rfl)))) rfl
end
theorem lJ {l:List Int} (h:(l.length:Int)=1):∃ a,l=[a]:=List.length_eq_one_iff.1 (by omega)
theorem qX {l:List Int} (h:(l.length:Int)=2):∃ a b,l=[a,b]:=by
 match l,h with
 | [a,b],_=>exact ⟨a,b,rfl⟩
theorem IG_ {p:Int}{W:Nat}{e:Edg} (hp:2≤p∧p≤97) (hW:W≤1000000) (he:edW (W:Int) e=true) (hv:e.2.1<p) (ht:e.1≠8∧e.1≠14):∃ Ls,RowsOf p W e Ls:=by
 unfold edW arB tF wOk at he
 simp only [Bool.and_eq_true,decide_eq_true_eq,List.all_eq_true] at he
 obtain ⟨⟨⟨hk,hval⟩,hI,hO⟩,wI,wO⟩:=he
 have hk:=rng_true.1 hk
 have hr:∀ {x:Int},rng x 0 ((W:Int)-1)=true→0≤x∧x<(W:Int):=fun h=>by have:=rng_true.1 h;omega
 have hv0:0≤e.2.1:=by
  split at hval
  · exact (rng_true.1 hval).1
  · rw [of_decide_eq_true hval];omega
 have hc:e.1=3∨e.1=4∨e.1=5∨e.1=6∨e.1=7∨e.1=9∨e.1=10∨e.1=11∨e.1=12∨e.1=13:=by omega
 obtain ⟨k,v,I,O⟩:=e
 unfold edI edO at *
 dsimp only at *
 rcases hc with rfl | rfl | rfl | rfl | rfl | rfl | rfl | rfl | rfl | rfl
 ·
  obtain ⟨a,rfl⟩:=lJ hI;obtain ⟨b,c,rfl⟩:=qX hO
  exact ⟨_,rows3 hp hW rfl rfl (y:=9) rfl rfl (hr (wI a (by simp))) (hr (wO b (by simp))) (hr (wO c (by simp)))⟩
 · exact ⟨_,rows4 rfl rfl (y:=10) rfl rfl⟩
 ·
  obtain ⟨a,b,rfl⟩:=qX hI;obtain ⟨c,rfl⟩:=lJ hO
  exact ⟨_,rows5 hp hW rfl rfl (y:=11) rfl rfl (hr (wI a (by simp))) (hr (wI b (by simp))) (hr (wO c (by simp)))⟩
 ·
  obtain ⟨c,rfl⟩:=lJ hO
  exact ⟨_,rows6 hp hW rfl rfl (y:=12) rfl rfl (hr (wO c (by simp)))⟩
 ·
  obtain ⟨a,rfl⟩:=lJ hI;obtain ⟨c,rfl⟩:=lJ hO
  exact ⟨_,rows7 hp hW rfl rfl (y:=13) rfl rfl ⟨hv0,hv⟩ (hr (wI a (by simp))) (hr (wO c (by simp)))⟩
 ·
  obtain ⟨a,rfl⟩:=lJ hO;obtain ⟨b,c,rfl⟩:=qX hI
  exact ⟨_,rows3 hp hW rfl rfl (y:=3) rfl rfl (hr (wO a (by simp))) (hr (wI b (by simp))) (hr (wI c (by simp)))⟩
 · exact ⟨_,rows4 rfl rfl (y:=4) rfl rfl⟩
 ·
  obtain ⟨a,b,rfl⟩:=qX hO;obtain ⟨c,rfl⟩:=lJ hI
  exact ⟨_,rows5 hp hW rfl rfl (y:=5) rfl rfl (hr (wO a (by simp))) (hr (wO b (by simp))) (hr (wI c (by simp)))⟩
 ·
  obtain ⟨c,rfl⟩:=lJ hI
  exact ⟨_,rows6 hp hW rfl rfl (y:=6) rfl rfl (hr (wI c (by simp)))⟩
 ·
  obtain ⟨a,rfl⟩:=lJ hO;obtain ⟨c,rfl⟩:=lJ hI
  exact ⟨_,rows7 hp hW rfl rfl (y:=7) rfl rfl ⟨hv0,hv⟩ (hr (wO a (by simp))) (hr (wI c (by simp)))⟩
end Go.Proofs.YtemcakhocdchiaaGreatDoor
namespace Go.Proofs.YtemcakhocdchiaaGreatDoor
open Classical in
noncomputable def lsOf (p:Int) (W:Nat) (e:Edg):List (List (Int×Int)):=if h:∃ Ls,RowsOf p W e Ls then Classical.choose h else []
theorem Bi_ {p:Int}{W:Nat}{e:Edg} (h:∃ Ls,RowsOf p W e Ls):RowsOf p W e (lsOf p W e):=by
 unfold lsOf;rw [dif_pos h];exact Classical.choose_spec h
noncomputable def aM (p:Int) (c W:Nat) (e:Edg):List (List Int):=(lsOf p W e).map (wide p c W)
def nP (p:Int) (c W:Nat) (ends:List Int) (k:Nat):List Int:=sumRow p (c+W) [((k:Nat),1),((c:Int)+ends.getD k 0,-1)]
def zL (p:Int) (W:Nat) (ends:List Int):List (List Int):=(List.range ends.length).map (nP p ends.length W ends)
noncomputable def Et_ (p:Int) (W:Nat) (E:List Edg) (ends:List Int):List (List Int):=zL p W ends++(E.map (aM p ends.length W)).flatten
noncomputable def eM (p:Int) (g:Gra):Int×Int×List (List Int):=(((g.2.2.1++g.2.2.2).length:Nat),g.1,Et_ p g.1.toNat g.2.1 (g.2.2.1++g.2.2.2))
theorem HS_ {p:Int}{c W:Nat}{e:Edg} (h:∃ Ls,RowsOf p W e Ls):(aM p c W e).length≤2:=by
 unfold aM;rw [List.length_map];exact (Bi_ h).len
theorem D9_ {p:Int}{c W:Nat}:∀ {E:List Edg},(∀ e∈E,∃ Ls,RowsOf p W e Ls)→((E.map (aM p c W)).flatten).length≤2*E.length
 | [],_=>by simp
 | e::E,h=>by
  have ih:=D9_ (c:=c) (E:=E) fun x hx=>h x (.tail _ hx)
  have:=HS_ (c:=c) (h e (.head _))
  rw [List.map_cons,List.flatten_cons,List.length_append,List.length_cons];omega
theorem Ds_ {p:Int}{c W:Nat}{E:List Edg}{f:Nat→List (List Int)→Option (List (List Int))}{s:List (List Int)} (hE:E.length≤60) (hs:s.length≤1000) (hR:∀ e∈E,∃ Ls,RowsOf p W e Ls)
  (h:∀ j e s',E[j]?=some e→s'.length≤2000→f j s'=some (s'++aM p c W e)):forS f E.length 0 s=some (s++(E.map (aM p c W)).flatten):=by
 have:=xC (f:=f) (n:=E.length) (fun j=>s++((E.take j).map (aM p c W)).flatten) (fun j hj=>by
  have hl:=D9_ (c:=c) (E:=E.take j) fun x hx=>hR x (List.mem_of_mem_take hx)
  have:(E.take j).length≤60:=by rw [List.length_take];omega
  rw [h j E[j] _ (List.getElem?_eq_getElem hj) (by rw [List.length_append];omega)]
  rw [List.take_add_one,List.getElem?_eq_getElem hj,List.map_append,List.flatten_append,List.append_assoc]
  simp)
 simpa using this
theorem dX {W:Nat}{ends:List Int} (h:∀ x∈ends,0≤x∧x<(W:Int)){k:Nat} (hk:k<ends.length):ends[k]?=some (ends.getD k 0)∧0≤ends.getD k 0∧ends.getD k 0<(W:Int):=by
 have e:ends.getD k 0=ends[k]:=by simp [hk]
 rw [e]
 exact ⟨List.getElem?_eq_getElem hk,h _ (List.getElem_mem hk)⟩
theorem IA_ {c W:Nat}{ends:List Int} (hc:ends.length=c) (h:∀ x∈ends,0≤x∧x<(W:Int)){k:Nat} (hk:k<c):LOk (c+W) [((k:Nat),1),((c:Int)+ends.getD k 0,-1)]:=by
 obtain ⟨_,h1,h2⟩:=dX h (k:=k) (by omega)
 exact gP (is:=[(c:Int)+ends.getD k 0]) (by push_cast;omega) (by intro x hx;obtain rfl:=List.mem_singleton.1 hx;push_cast;omega) (by simp) (by omega)
theorem Iz_ {p:Int}{c W:Nat}{ends:List Int} (hp:2≤p∧p≤97) (hc:ends.length=c) (hn:c+W≤100000) (h:∀ x∈ends,0≤x∧x<(W:Int)){k:Nat} (hk:k<c) :
  (bI ((c:Int)+(W:Int)) (k:Int)).bind (fun y130=>(mA (c:Int) (ends.getD k 0)).bind fun a135=>(subO p 1).bind fun a137=>setO y130 a135 a137)=some (nP p c W ends k):=by
 have hm:bB=1099511627776:=rfl
 obtain ⟨_,h1,h2⟩:=dX h (k:=k) (by omega)
 obtain ⟨m,hmm⟩:=Int.eq_ofNat_of_zero_le h1
 have hu:bI ((c:Int)+(W:Int)) (k:Int)=some (yA (c+W) fun j=>if j=k then 1 else 0):=by
  rw [show (c:Int)+(W:Int)=((c+W:Nat):Int) by push_cast;rfl]
  refine bnd (gI (by omega)) ?_
  rw [eR]
  exact bnd (mE _ _ (by omega)) rfl
 refine bnd hu (bnd (aB (by omega) (by omega)) (bnd (wC (by omega) (by omega)) ?_))
 rw [show (c:Int)+ends.getD k 0=((c+m:Nat):Int) by rw [hmm];push_cast;rfl,mE _ _ (by omega)]
 refine congrArg some (bD fun j _=>?_)
 show _=((if ((k:Nat):Int)=(j:Int) then (1:Int) else 0)+((if (c:Int)+ends.getD k 0=(j:Int) then (-1:Int) else 0)+0)) % p
 rw [hmm]
 by_cases hj:j=c+m
 ·
  subst hj
  rw [if_pos rfl,if_neg (by omega),if_pos (by push_cast;omega),Int.zero_add,Int.add_zero,eS hp]
 ·
  have e3:¬((c:Int)+(m:Int)=(j:Int)):=by omega
  rw [if_neg hj,if_neg e3]
  by_cases hjk:j=k
  ·
   subst hjk
   rw [if_pos rfl,if_pos rfl];exact (fN hp).symm
  · rw [if_neg hjk,if_neg (by omega)];exact (Int.zero_emod p).symm
theorem both_sy {p:Int}{W:Nat}{E:List Edg}{I O:List Int} (hp:2≤p∧p≤97) (hg:gOk ((W:Int),E,I,O)=true) (hv:∀ e∈E,e.2.1<p∧e.1≠8∧e.1≠14) :
  nU p ((W:Int),E,I,O)=some (eM p ((W:Int),E,I,O))∧wS p ((W:Int),E,I,O)=some (eM p ((W:Int),E,I,O)):=by
 have hm:bB=1099511627776:=rfl
 unfold gOk wOk at hg
 simp only [Bool.and_eq_true,decide_eq_true_eq,List.all_eq_true] at hg
 obtain ⟨g1,g2,g3,g4,g5,g6,g7,_⟩:=hg
 have hW:=rng_true.1 g1
 have hW:W≤100:=by omega
 have hends:∀ x∈I++O,0≤x∧x<(W:Int):=fun x hx=>by
  rcases List.mem_append.1 hx with hx | hx
  · have:=rng_true.1 (g5 x hx);omega
  · have:=rng_true.1 (g6 x hx);omega
 have hR:∀ e∈E,∃ Ls,RowsOf p W e Ls:=fun e he=>IG_ hp (by omega) (g7 e he) (hv e he).1 (hv e he).2
 obtain ⟨ends,he⟩:∃ l,l=I++O:=⟨_,rfl⟩
 obtain ⟨c,hc⟩:∃ c,c=ends.length:=⟨_,rfl⟩
 have hc24:c≤24:=by rw [hc,he,List.length_append];omega
 have hen:∀ x∈ends,0≤x∧x<(W:Int):=by rw [he];exact hends
 have hs:eM p ((W:Int),E,I,O)=((c:Int),(W:Int),zL p W ends++(E.map (aM p c W)).flatten):=by
  unfold eM Et_
  simp only [Int.toNat_natCast]
  rw [←he,← hc]
 have hif:(zL p W ends).length=c:=by unfold zL;simp [hc]
 rw [hs]
 constructor
 ·
  refine bnd (own_ (by show I.length≤_;omega)) (bnd (iB (by show I.length+O.length≤_;omega)) ?_)
  show (forS _ (I++O).length 0 []).bind _=_
  rw [←he]
  have l1:=eE (f:=fun (k25:Nat) (s188:List (List Int))=>
   (idxO ends ((k25:Nat):Int)).bind fun a205=>
   (subO p 1).bind fun a208=>
   (mA ((ends.length:Nat):Int) (W:Int)).bind fun a210=>
   (mA ((ends.length:Nat):Int) a205).bind fun a212=>
   (tE p a210 [((k25:Nat):Int),a212] [1,a208]).bind fun y240=>
   (nA s188 [y240]).bind fun a248=>
   some a248) (nP p c W ends) (List.range c) [] (by simp;omega) (fun j a s' hj hs'=>by
    obtain ⟨hjc,rfl⟩:j<c∧a=j:=by
     obtain ⟨q1,q2⟩:=List.getElem?_eq_some_iff.1 hj
     rw [List.getElem_range] at q2
     exact ⟨by simpa using q1,q2.symm⟩
    obtain ⟨e1,e2,e3⟩:=dX hen (k:=a) (by omega)
    have d:=fP (at_:=[((a:Nat):Int),(c:Int)+ends.getD a 0]) (vals:=[1,p-1]) hp (W:=c+W) (by omega) _ rfl (by show [(1:Int),p-1]=[1 % p,(-1) % p];rw [fN hp,eS hp]) (IA_ hc.symm hen hjc)
    rw [←hc]
    refine bnd (kA e1) (bnd (wC (by omega) (by omega)) (bnd (aB (by omega) (by omega)) (bnd (aB (by omega) (by omega)) (bnd d (bnd (iB (by simp at hs' ⊢;omega)) rfl)))))
    )
  rw [List.length_range,List.nil_append,← hc] at l1
  refine bnd (by rw [←hc];exact l1) ?_
  have hl:(List.range c).map (nP p c W ends)=zL p W ends:=by unfold zL;rw [←hc]
  rw [hl]
  refine bnd (Ds_ (p:=p) (c:=c) (W:=W) g2 (by rw [hif];omega) hR fun j e s' hj hs'=>?_) (by rw [←hc])
  have hr:=Bi_ (hR e (oC hj))
  refine bnd (kA hj) (bnd hr.spec ?_)
  have l2:=eE (f:=fun (k652:Nat) (s750:List (List Int))=>
     (idxO ((lsOf p W e).map (sumRow p W)) ((k652:Nat):Int)).bind fun a766=>
     (aD ((ends.length:Nat):Int) (0:Int)).bind fun a771=>
     (nA a771 a766).bind fun a776=>
     (nA s750 [a776]).bind fun a784=>
     some a784) (wide p c W) (lsOf p W e) s' (by have:=hr.len;omega) (fun i L s2 hi hs2=>by
    have hil:=(List.getElem?_eq_some_iff.1 hi).1
    have:=hr.len
    rw [←hc]
    refine bnd (kA (by rw [List.getElem?_map,hi];rfl)) (bnd (mH _ (by omega)) (bnd (iB (by simp [sumRow,vE];omega)) (bnd (iB (by simp;omega)) rfl))))
  rw [List.length_map]
  exact bnd l2 rfl
 ·
  refine bnd (vO (l:=[I,O]) (by simp;omega)) ?_
  have hj:[I,O].flatten=ends:=by rw [he];simp
  show (forS _ ([I,O].flatten).length 0 []).bind _=_
  rw [hj]
  have l1:=eE (f:=fun (k24:Nat) (s108:List (List Int))=>
   (idxO ends ((k24:Nat):Int)).bind fun a125=>
   (sP (((ends.length:Nat):Int),(W:Int),s108)).bind fun y127=>
   (bI y127 ((k24:Nat):Int)).bind fun y130=>
   (mA ((ends.length:Nat):Int) a125).bind fun a135=>
   (subO p 1).bind fun a137=>
   (setO y130 a135 a137).bind fun a145=>
   (nA s108 [a145]).bind fun a151=>
   some a151) (nP p c W ends) (List.range c) [] (by simp;omega) (fun j a s' hj hs'=>by
    obtain ⟨hjc,rfl⟩:j<c∧a=j:=by
     obtain ⟨q1,q2⟩:=List.getElem?_eq_some_iff.1 hj
     rw [List.getElem_range] at q2
     exact ⟨by simpa using q1,q2.symm⟩
    obtain ⟨e1,e2,e3⟩:=dX hen (k:=a) (by omega)
    have d:=Iz_ hp hc.symm (by omega) hen hjc
    rw [←hc]
    refine bnd (kA e1) (bnd (a:=(c:Int)+(W:Int)) (bnd (aB (by show _≤(c:Int)+(W:Int);omega) (by show (c:Int)+(W:Int)≤_;omega)) rfl) ?_)
    obtain ⟨y,h1,h2⟩:=eC d
    obtain ⟨y2,h3,h4⟩:=eC h2
    obtain ⟨y3,h5,h6⟩:=eC h4
    exact bnd h1 (bnd h3 (bnd h5 (bnd h6 (bnd (iB (by simp at hs' ⊢;omega)) rfl)))))
  rw [List.length_range,List.nil_append,← hc] at l1
  refine bnd (by rw [←hc];exact l1) ?_
  have hl:(List.range c).map (nP p c W ends)=zL p W ends:=by unfold zL;rw [←hc]
  rw [hl]
  refine bnd (Ds_ (p:=p) (c:=c) (W:=W) g2 (by rw [hif];omega) hR fun j e s' hj hs'=>?_) (by rw [←hc])
  have hr:=Bi_ (hR e (oC hj))
  obtain ⟨ms,i1,i2,i3⟩:=hr.impl
  refine bnd (kA hj) (bnd i1 ?_)
  have l2:=eE (f:=fun (k1885:Nat) (s2490:List (List Int))=>
     (idxO ms ((k1885:Nat):Int)).bind fun a2506=>
     (sP (((ends.length:Nat):Int),(W:Int),s2490)).bind fun y2510=>
     (dG y2510).bind fun y2513=>
     ((kvO (fun (s2656:List Int) (k2610 v2611:Int)=>
        (mA ((ends.length:Nat):Int) k2610).bind fun a2670=>
        (rF p v2611).bind fun y2672=>
        (setO s2656 a2670 y2672).bind fun a2681=>
        some a2681) a2506.kvs y2513).bind fun (s2686:List Int)=>
      some s2686).bind fun (s2600:List Int)=>
     (nA s2490 [s2600]).bind fun a2693=>
     some a2693) (wide p c W) (lsOf p W e) s' (by have:=hr.len;omega) (fun i L s2 hi hs2=>by
    have hil:=(List.getElem?_eq_some_iff.1 hi).1
    have hle:=hr.len
    have hmi:ms[i]?=some (ms[i]'(by omega)):=List.getElem?_eq_getElem (by omega)
    have hM:=i3 i _ L hmi hi
    rw [←hc]
    refine bnd (kA hmi) (bnd (a:=((c+W:Nat):Int)) (bnd (aB (by show _≤(c:Int)+(W:Int);omega) (by show (c:Int)+(W:Int)≤_;omega)) (congrArg some (by push_cast;rfl))) (bnd (gI (by omega)) ?_))
    exact bnd (bnd (kv_wide hp (by omega) (by omega) hM (hr.ok L (oC hi))) rfl) (bnd (iB (by simp;omega)) rfl))
  rw [i2]
  exact bnd l2 rfl
end Go.Proofs.YtemcakhocdchiaaGreatDoor
namespace Go.Proofs.YtemcakhocdchiaaGreatDoor
def edK (g:Gra):List (Int×Int):=g.2.1.map fun e=>(e.1,e.2.1)
theorem Bq_ (t:Nat→Int) (E:List Edg):(E.map (mpE t)).map (fun e=>(e.1,e.2.1))=E.map fun e=>(e.1,e.2.1):=by
 rw [List.map_map];rfl
theorem edK_comb (k:Int) (a b:Gra):edK (aF k a b)=edK a++edK b:=by
 unfold aF
 split
 ·
  unfold jM gluG mpG zK edK
  dsimp only
  rw [Bq_,List.map_append,Bq_]
 ·
  unfold vK edK
  dsimp only
  rw [List.map_append,Bq_]
def genN (n:Nod):Prop:=n.1≠1∧n.1≠2∧n.1≠15∧n.1≠16
theorem A0_:∀ {T:Tr}{w:Int×Int},xD T=some w→(made T).2=true→∀ q,q∈edK (made T).1↔∃ n∈flat T,genN n∧(n.1,n.2.1)=q
 | .leaf n,w,h,_,q=>by
  have hl:=(fK h).1
  unfold lfB at hl
  simp only [Bool.and_eq_true] at hl
  have hk:=rng_true.1 hl.2.1
  show q∈edK (xF n)↔_
  unfold xF
  by_cases h1:n.1=1
  ·
   rw [if_pos h1]
   constructor
   · intro h;cases h
   ·
    rintro ⟨m,hm,hg,_⟩
    obtain rfl:=List.mem_singleton.1 hm
    exact (hg.1 h1).elim
  ·
   by_cases h2:n.1=2
   ·
    rw [if_neg h1,if_pos h2]
    constructor
    · intro h;cases h
    ·
     rintro ⟨m,hm,hg,_⟩
     obtain rfl:=List.mem_singleton.1 hm
     exact (hg.2.1 h2).elim
   ·
    rw [if_neg h1,if_neg h2]
    constructor
    ·
     intro h
     obtain rfl:=List.mem_singleton.1 h
     exact ⟨n,List.mem_singleton.2 rfl,⟨h1,h2,by omega,by omega⟩,rfl⟩
    ·
     rintro ⟨m,hm,hg,rfl⟩
     obtain rfl:=List.mem_singleton.1 hm
     exact List.mem_singleton.2 rfl
 | .node k a b,w,h,hm,q=>by
  obtain ⟨hk,x,y,ha,hb,_⟩:=cJ h
  unfold made at hm ⊢
  split at hm
  ·
   rename_i hab
   obtain ⟨_,e⟩:=Fu_ hm
   rw [if_pos hab,e,edK_comb,List.mem_append,A0_ ha hab.1,A0_ hb hab.2]
   show _↔∃ n∈flat a++flat b++[(k,0,.empty)],genN n∧(n.1,n.2.1)=q
   constructor
   ·
    rintro (⟨n,h1,h2⟩ | ⟨n,h1,h2⟩)
    · exact ⟨n,by simp [h1],h2⟩
    · exact ⟨n,by simp [h1],h2⟩
   ·
    rintro ⟨n,h1,h2⟩
    rcases List.mem_append.1 h1 with h1 | h1
    ·
     rcases List.mem_append.1 h1 with h1 | h1
     · exact .inl ⟨n,h1,h2⟩
     · exact .inr ⟨n,h1,h2⟩
    ·
     obtain rfl:=List.mem_singleton.1 h1
     exact (hk.elim h2.1.2.2.1 h2.1.2.2.2).elim
  · cases hm
theorem askedG {p:Int}{g:Gra} (hf:fdB p=true) (hg:gOk g=true) (he:∀ e∈g.2.1,e.2.1<p):jQ p g=some (g.2.1.all fun e=>decide (e.1≠8∧e.1≠14)):=by
 have h1:yT p g=some true:=by
  refine bnd (a:=false) (bnd (cX p) (stp (by rw [hf];exact cFW rfl (bnd (AU_ g) (stp (by rw [hg];rfl)))))) (cFW rfl (sqW (uG (fun e:Edg=>decide (¬p≤e.2.1)) g.2.1 0 (t:=false) (fun j e hj=>?_)) ?_))
  ·
   rw [Nat.zero_add]
   have:=he e (oC hj)
   refine bnd (kA hj) (stp (cFW (dF (by omega)) ?_))
   rw [show decide (¬p≤e.2.1)=true from dT (by omega)];rfl
  · rw [List.all_eq_true.2 fun e h=>dT (by have:=he e h;omega)];rfl
 refine bnd h1 (stp (cFW rfl (sqW (uG (fun e:Edg=>decide (e.1≠8∧e.1≠14)) g.2.1 0 (t:=false) (fun j e hj=>?_)) ?_)))
 ·
  rw [Nat.zero_add]
  refine bnd (kA hj) (bnd (vU e.1) (stp ?_))
  cases decide (e.1≠8∧e.1≠14) <;> rfl
 · cases (g.2.1.all fun e=>decide (e.1≠8∧e.1≠14)) <;> rfl
theorem CM_ {p:Int}{t:List Nod} (ho:ovB p t=true) (hm:(wGraphOf t).2=true) :
  fdB p=true∧gOk (wGraphOf t).1=true∧(∀ e∈(wGraphOf t).1.2.1,e.2.1<p)∧((wGraphOf t).1.2.1.all fun e=>decide (e.1≠8∧e.1≠14))=t.all fF:=by
 obtain ⟨hv,hf,hn⟩:=oO ho
 obtain ⟨T,w,rfl,h2,h3,h4⟩:=CG_ hv
 rw [h4] at hm ⊢
 have hp:=aC hf
 have hk:=A0_ h2 hm
 have hed:∀ e∈(made T).1.2.1,∃ n∈flat T,genN n∧n.1=e.1∧n.2.1=e.2.1:=fun e he=>by
  obtain ⟨n,h1,h2,h3⟩:=(hk (e.1,e.2.1)).1 (List.mem_map.2 ⟨e,he,rfl⟩)
  exact ⟨n,h1,h2,congrArg Prod.fst h3,congrArg Prod.snd h3⟩
 have hg:=(uL h2 hm).1
 refine ⟨hf,hg,fun e he=>?_,?_⟩
 ·
  obtain ⟨n,h1,_,e1,e2⟩:=hed e he
  have ho:=hn n h1
  unfold ovN at ho
  have hw:edW (made T).1.1 e=true:=by
   unfold gOk at hg
   simp only [Bool.and_eq_true] at hg
   exact List.all_eq_true.1 hg.2.2.2.2.2.2.1 e he
  unfold edW arB tF at hw
  simp only [Bool.and_eq_true] at hw
  have hval:=hw.1.1.2
  by_cases h7:e.1=7∨e.1=13
  ·
   rw [e1,e2] at ho
   simp [h7] at ho
   omega
  ·
   rw [if_neg h7] at hval
   have:=of_decide_eq_true hval
   omega
 ·
  rw [Bool.eq_iff_iff,List.all_eq_true,List.all_eq_true]
  constructor
  ·
   intro h n hn'
   unfold fF
   refine decide_eq_true ?_
   by_cases hgn:genN n
   ·
    obtain ⟨e,he,e3⟩:=List.mem_map.1 ((hk (n.1,n.2.1)).2 ⟨n,hn',hgn,rfl⟩)
    have:=of_decide_eq_true (h e he)
    have e4:e.1=n.1:=congrArg Prod.fst e3
    rw [e4] at this;exact this
   · refine ⟨fun q=>hgn ?_,fun q=>hgn ?_⟩ <;> (unfold genN;omega)
  ·
   intro h e he
   obtain ⟨n,h1,_,e1,_⟩:=hed e he
   have:=of_decide_eq_true (h n h1)
   rw [e1] at this
   exact decide_eq_true this
theorem Jf_ {g:Gra} (hg:gOk g=true):∃ W:Nat,g=((W:Int),g.2.1,g.2.2.1,g.2.2.2):=by
 unfold gOk at hg
 simp only [Bool.and_eq_true] at hg
 have:=rng_true.1 hg.1
 exact ⟨g.1.toNat,Prod.ext (by show g.1=((g.1.toNat:Nat):Int);omega) rfl⟩
theorem Eu_ {p:Int}{t:List Nod} (h:oF p t=true) (hm:(wGraphOf t).2=true) :
  nU p (wGraphOf t).1=some (eM p (wGraphOf t).1)∧wS p (wGraphOf t).1=some (eM p (wGraphOf t).1):=by
 unfold oF at h
 rw [Bool.and_eq_true] at h
 obtain ⟨hf,hg,h1,h2⟩:=CM_ h.1 hm
 have h2:=List.all_eq_true.1 (h2.trans h.2)
 obtain ⟨W,e⟩:=Jf_ hg
 rw [e] at hg h1 h2 ⊢
 exact both_sy (aC hf) hg fun x hx=>⟨h1 x hx,of_decide_eq_true (h2 x hx)⟩
theorem IW_ {c n:Nat}{l:List (List Int)} (h:∀ r∈l,r.length≤c) (hn:l.length≤n):wF l≤n*(c+1):=by
 have:=tot_le (n:=iF) (c:=c) (l:=l) (fun r hr=>by have:=h r hr;unfold iF;omega)
 have h2:=Nat.mul_le_mul_right (c+1) hn
 have h3:l.length*(c+1)=l.length*c+l.length:=Nat.mul_succ _ _
 unfold wF
 omega
end Go.Proofs.YtemcakhocdchiaaGreatDoor
namespace Go.Proofs.YtemcakhocdchiaaGreatDoor
theorem Id_ (a b:Rows):dQ a b=some (decide (a=b)):=bnd (Ex_ a b) rfl
end Go.Proofs.YtemcakhocdchiaaGreatDoor
namespace Go.Proofs.YtemcakhocdchiaaGreatDoor
noncomputable def okE (p:Int) (t:List Nod):Bool:=oF p t&&(wGraphOf t).2
noncomputable def cG (p:Int) (a b:List Nod):Bool:=okE p a&&(okE p b&&sameW p a b)
theorem DP_ {p:Int}{t:List Nod} (h:okE p t=true):oF p t=true∧(wGraphOf t).2=true:=by
 unfold okE at h;rwa [Bool.and_eq_true] at h
theorem Ew_ {p:Int}{t:List Nod} (h:oF p t=true):ovB p t=true:=by
 unfold oF at h;rw [Bool.and_eq_true] at h;exact h.1
theorem DU_ {t:List Nod} (h:fD t=true):mZ t=some (wGraphOf t)∧kQ t=some (wGraphOf t):=by
 obtain ⟨T,w,rfl,h2,h3,h4⟩:=CG_ h
 rw [h4]
 exact ⟨Bl_ 1000000 h2 h3 (by omega),Je_ h2 h3⟩
theorem dJ (p:Int) (t:List Nod):vT p t=some (if okE p t=true then ((wGraphOf t).1,eM p (wGraphOf t).1,true) else ((0,[],[],[]),(0,0,[]),false)):=by
 refine bnd (Eq_ p t) (stp ?_)
 unfold okE
 cases ho:ovB p t with
 | false=>exact cTW rfl (by rw [if_neg (by unfold oF;rw [ho];simp)])
 | true=>
  refine cFW rfl (bnd (DU_ (oO ho).1).1 ?_)
  cases hm:(wGraphOf t).2 with
  | false=>exact bnd (a:=true) (stp (cTW rfl rfl)) (cTW rfl (by rw [if_neg (by simp)]))
  | true=>
   obtain ⟨hf,hg,h1,h2⟩:=CM_ ho hm
   have ha:=askedG hf hg h1
   rw [h2] at ha
   cases hs:t.all fF with
   | false=>
    rw [hs] at ha
    refine bnd (a:=true) (stp (cFW rfl (bnd ha rfl))) (cTW rfl ?_)
    rw [if_neg (by unfold oF;rw [ho,hs];simp)]
   | true=>
    rw [hs] at ha
    have hst:oF p t=true:=by unfold oF;rw [ho,hs];rfl
    refine bnd (a:=false) (stp (cFW rfl (bnd ha rfl))) (cFW rfl (bnd (Eu_ hst hm).1 ?_))
    rw [hst];rfl
theorem yL (p:Int) (t:List Nod):lU p t=some (if okE p t=true then (((wGraphOf t).1,eM p (wGraphOf t).1,sC p t),true) else (((0,[],[],[]),(0,0,[]),(0,0,[])),false)):=by
 refine bnd (Iv_ p t) (stp ?_)
 unfold okE
 cases hst:oF p t with
 | false=>exact cTW rfl (by rw [if_neg (by simp)])
 | true=>
  refine cFW rfl (bnd (DU_ (oO (Ew_ hst)).1).2 (stp ?_))
  cases hm:(wGraphOf t).2 with
  | false=>exact cTW rfl (by rw [if_neg (by simp)])
  | true=>
   obtain ⟨_,_,_,_,_,_,hd⟩:=Hz_ hst
   exact cFW rfl (bnd (Eu_ hst hm).2 (bnd hd rfl))
theorem EZ_ {p:Int}{t:List Nod} (h:okE p t=true):((wGraphOf t).1.2.2.1.length:Int)=(sC p t).1∧((wGraphOf t).1.2.2.2.length:Int)=(sC p t).2.1:=by
 obtain ⟨hst,hm⟩:=DP_ h
 have ho:=Ew_ hst
 obtain ⟨hv,hf,hn⟩:=oO ho
 unfold wGraphOf at hm ⊢
 unfold sC
 rw [dif_pos hv] at hm ⊢
 rw [dif_pos hv]
 obtain ⟨w,h1,h2,h3⟩:=Classical.choose_spec (fO hv)
 generalize Classical.choose (fO hv)=T at *
 have hok:okT p T:=fun n hn'=>by
  have hn2:n∈t:=by rw [h1];exact hn'
  unfold oF at hst
  rw [Bool.and_eq_true] at hst
  exact ⟨List.all_eq_true.1 hst.2 n hn2,hn n hn2⟩
 have hd:=xL hf h2 hok
 have hl:=(uL h2 hm).2
 rw [hd.l,hd.r]
 exact hl
theorem pvTwo_ (p:Int) (a b:List Nod):∃ x,xZ p a b=some (x,cG p a b):=by
 unfold cG sameW
 cases ha:okE p a with
 | false=>
  refine ⟨_,bnd (dJ p a) (bnd (dJ p b) (bnd (a:=true) (by rw [ha];exact stp (cTW rfl rfl)) (cTW rfl rfl)))⟩
 | true=>
  cases hb:okE p b with
  | false=>exact ⟨_,bnd (dJ p a) (bnd (dJ p b) (bnd (a:=true) (by rw [ha,hb];exact stp (cFW rfl (stp (cTW rfl rfl)))) (cTW rfl rfl)))⟩
  | true=>
   obtain ⟨a1,a2⟩:=EZ_ ha
   obtain ⟨b1,b2⟩:=EZ_ hb
   by_cases h1:(sC p a).1=(sC p b).1
   ·
    by_cases h2:(sC p a).2.1=(sC p b).2.1
    ·
     refine ⟨_,bnd (dJ p a) (bnd (dJ p b) (bnd (a:=false) ?_ (cFW rfl (congrArg some (Prod.ext rfl ?_)))))⟩
     ·
      rw [ha,hb]
      refine stp (cFW rfl (stp (cFW rfl (stp (cFW ?_ (stp ?_))))))
      · exact nT (dT (by show ((wGraphOf a).1.2.2.1.length:Int)=((wGraphOf b).1.2.2.1.length:Int);omega))
      · exact congrArg some (nT (dT (by show ((wGraphOf a).1.2.2.2.length:Int)=((wGraphOf b).1.2.2.2.length:Int);omega)))
     · rw [dT h1,dT h2];rfl
    ·
     refine ⟨_,bnd (dJ p a) (bnd (dJ p b) (bnd (a:=true) ?_ (cTW rfl (congrArg some (Prod.ext rfl ?_)))))⟩
     ·
      rw [ha,hb]
      refine stp (cFW rfl (stp (cFW rfl (stp (cFW ?_ (stp ?_))))))
      · exact nT (dT (by show ((wGraphOf a).1.2.2.1.length:Int)=((wGraphOf b).1.2.2.1.length:Int);omega))
      · exact congrArg some (nF (dF (by show ¬((wGraphOf a).1.2.2.2.length:Int)=((wGraphOf b).1.2.2.2.length:Int);omega)))
     · rw [dT h1,dF h2];rfl
   ·
    refine ⟨_,bnd (dJ p a) (bnd (dJ p b) (bnd (a:=true) ?_ (cTW rfl (congrArg some (Prod.ext rfl ?_)))))⟩
    ·
     rw [ha,hb]
     refine stp (cFW rfl (stp (cFW rfl (stp (cTW ?_ rfl)))))
     exact nF (dF (by show ¬((wGraphOf a).1.2.2.1.length:Int)=((wGraphOf b).1.2.2.1.length:Int);omega))
    · rw [dF h1];rfl
theorem ask_ (p:Int) (a b:List Nod):∃ x,cK p a b=some (x,cG p a b)∧(okE p a=true→okE p b=true→x.2.1.2.2.2.2=(sC p a).2.2∧x.2.2.2.2.2.2=(sC p b).2.2):=by
 unfold cG sameW
 cases ha:okE p a with
 | false=>exact ⟨_,bnd (yL p a) (bnd (yL p b) (bnd (by rw [ha];exact cFW rfl rfl) rfl)),fun h=>by cases h⟩
 | true=>
  cases hb:okE p b with
  | false=>exact ⟨_,bnd (yL p a) (bnd (yL p b) (bnd (by rw [ha,hb];exact cTW rfl (cFW rfl rfl)) rfl)),fun _ h=>by cases h⟩
  | true=>
   by_cases h1:(sC p a).1=(sC p b).1
   ·
    have e:cK p a b=some (_,decide ((sC p a).2.1=(sC p b).2.1)):=bnd (yL p a) (bnd (yL p b) (bnd (by rw [ha,hb];exact cTW rfl (cTW rfl (stp (cTW (dT h1) (stp rfl))))) rfl))
    exact ⟨_,e.trans (by rw [dT h1];rfl),fun _ _=>⟨rfl,rfl⟩⟩
   ·
    have e:cK p a b=some (_,false):=bnd (yL p a) (bnd (yL p b) (bnd (by rw [ha,hb];exact cTW rfl (cTW rfl (stp (cFW (dF h1) rfl)))) rfl))
    exact ⟨_,e.trans (by rw [dF h1];rfl),fun _ _=>⟨rfl,rfl⟩⟩
end Go.Proofs.YtemcakhocdchiaaGreatDoor
namespace Go.Proofs.YtemcakhocdchiaaGreatDoor
set_option linter.unusedVariables false
abbrev tH:=Int×Int×ByteArray
def nNode (a:tH):Nat:=a.2.2.size
def qV (a:tH):Prop:=(a.2.2.size:Int)≤9223372036854775807
theorem z_Node (a:tH) (left:Int) (h0:0≤left) (h1:left≤nD) (hl:qV a):qZ a left=some (if (nNode a:Int)≤left then left-nNode a else -1):=by
 unfold nD at h1
 have l0:=hl
 unfold qV at l0
 unfold nNode
 refine bnd (wC (by omega) (by omega)) (stp ?_)
 by_cases g0:(a.2.2.size:Int)≤left
 case neg=>
  rw [if_neg (by omega)]
  exact cTW (dT (by omega)) rfl
 rw [if_pos (by omega)]
 refine cFW (dF (by omega)) ?_
 congr 1;try omega
theorem Hd_ {a:tH} (h:Nice.ok a):qV a:=by
 obtain ⟨h0,h1,h2⟩:=h
 exact h2
theorem t_Node (a:tH) (h:nNode a≤1048576):oZ a=some a:=by
 unfold nNode at h
 exact rfl
theorem e_Node (a:tH) (h:nNode a≤1048576):sZ a a=some true:=by
 unfold nNode at h
 exact stp (cFW (nT (dT rfl)) (stp (cFW (nT (dT rfl)) (stp (cFW (nT (dT rfl)) (rfl))))))
abbrev oH:=List tH
def nNodeS (a:oH):Nat:=a.length+tot nNode a
def Av_ (a:oH):Prop:=lI a∧∀ x∈a,qV x
theorem z_NodeS (a:oH) (left:Int) (h0:0≤left) (h1:left≤nD) (hl:Av_ a):gZ a left=some (if (nNodeS a:Int)≤left then left-nNodeS a else -1):=by
 have hl1:=hl.1;unfold lI at hl1;unfold nD at h1
 unfold nNodeS
 refine bnd (wC (by omega) (by omega)) (stp ?_)
 by_cases h:(a.length:Int)≤left
 ·
  refine cFW (dF (by omega)) (sqW (A6_ nNode a (left-a.length) ?_ ?_ a [] _ rfl ?_ (Int.le_refl _)) ?_)
  ·
   intro j r s hj hjl hs hsB
   dsimp only
   refine stp (cTW (dT (by omega)) (bnd (kA hj) (bnd (z_Node r s hs (by unfold nD;omega) (hl.2 r (oC hj))) (stp ?_))))
   by_cases h2:(nNode r:Int)≤s
   · rw [if_pos h2,if_pos h2];exact cFW (dF (by omega)) (bnd (aB (by omega) (by omega)) rfl)
   · rw [if_neg h2,if_neg h2];exact cTW (dT (by omega)) rfl
  · intro s;dsimp only;exact stp (cFW (dF (by omega)) rfl)
  · omega
  ·
   by_cases h2:(tot nNode a:Int)≤left-a.length
   · rw [if_pos h2,if_pos (by omega),pH];congr 1;omega
   · rw [if_neg h2,if_neg (by omega),uW]
 · rw [if_neg (by omega)];exact cTW (dT (by omega)) rfl
theorem GO_ {a:oH} (h:Nice.ok a):Av_ a:=⟨h.1,fun x hx=>Hd_ (h.2 x hx)⟩
theorem t_NodeS (a:oH) (h:nNodeS a≤1048576):eZ a=some a:=by
 have hm:bB=1099511627776:=rfl
 unfold nNodeS at h
 refine bnd (mH _ (by omega)) (bnd (A4_ _ a ?_ ?_ a [] rfl) rfl)
 ·
  intro j x s hj hjl hs
  dsimp only
  exact stp (cTW (dT (by omega)) (bnd (kA hj) (bnd (t_Node x (by have:=sR (n:=nNode) (oC hj);omega)) (bnd (tC _ (by omega)) (bnd (aB (by omega) (by omega)) rfl)))))
 · intro s hs;dsimp only;exact stp (cFW (dF (by omega)) rfl)
theorem e_NodeS (a:oH) (h:nNodeS a≤1048576):iZ a a=some true:=by
 unfold nNodeS at h
 refine stp (cFW (nT (dT rfl)) (sqW (dK (fun j=>(j:Int)) (t:=.inl ()) a.length ?_ ?_) ?_))
 ·
  intro j hj
  exact stp (cTW (dT (by omega)) (bnd (kA (List.getElem?_eq_getElem hj)) (bnd (kA (List.getElem?_eq_getElem hj)) (bnd (e_Node a[j] (by have:=sR (n:=nNode) (List.getElem_mem hj);omega)) (stp (cFW rfl (bnd (aB (by omega) (by omega)) rfl)))))))
 · exact stp (cFW (dF (by omega)) rfl)
 · rfl
def nR (x:tH) (q:Int):tH×Int:=((q,(q+1),mText ((q+1)+1)),(((q+1)+1)+1))
def jN (x:tH):Nat:=3
theorem CA_ (x:tH) (q:Int):(nR x q).2=q+jN x:=by
 unfold nR jN
 dsimp only
 omega
theorem C5_ (x:tH):jN x≤8*(1+nNode x):=by
 unfold jN nNode
 omega
def mV:oH→Int→oH×Int:=mkL nR
def BH_ (a:oH):Nat:=tot jN a
theorem Dx_ (a:oH):BH_ a≤8*nNodeS a:=by
 have:=Fd_ C5_ a
 rw [xW] at this
 exact this
theorem Hf_ (a:oH) (k:Int):(mV a k).2=k+BH_ a:=wR nR jN CA_ a k
theorem m_NodeS (a:oH) (k:Int) (h0:0≤k) (h:k+8*nNodeS a≤1125899906842624):qY a k=some (mV a k):=by
 have hsum:=xW nNode a
 unfold nNodeS at h
 refine bnd (Ah_ nR jN (fun x=>8*(1+nNode x)) CA_ C5_ a.length 1125899906842624 ?_ ?_ a [] k (by simp) h0 (by rw [hsum];omega)) rfl
 ·
  intro j x s q hj hs hjl hq hB
  dsimp only at hB ⊢
  unfold nNode at hB
  refine stp (cTW (dT (by omega)) ?_)
  refine bnd (kA hj) ?_
  refine bnd (tC _ (by omega)) ?_
  refine bnd (aB (by omega) (by omega)) ?_
  refine bnd (kA (a:=(q,x.2.1,x.2.2)) (by rw [List.getElem?_set_self (by omega)])) ?_
  refine bnd (tC _ (by simp only [List.length_set];omega)) ?_
  refine bnd (aB (by omega) (by omega)) ?_
  refine bnd (Ir_ _ (by omega) (by omega)) ?_
  refine bnd (kA (a:=(q,(q+1),x.2.2)) (by rw [List.getElem?_set_self (by simp only [List.length_set];omega)])) ?_
  refine bnd (tC _ (by simp only [List.length_set];omega)) ?_
  refine bnd (aB (by omega) (by omega)) ?_
  refine bnd (aB (by omega) (by omega)) ?_
  simp only [List.set_set];rfl
 · intro s q hs;dsimp only;exact stp (cFW (dF (by omega)) rfl)
abbrev jH:=List (Int×Int×ByteArray)
def nTerm (a:jH):Nat:=nNodeS a
def pV (a:jH):Prop:=Av_ a
theorem z_Term (a:jH) (left:Int) (h0:0≤left) (h1:left≤nD) (hl:pV a):pZ a left=some (if (nTerm a:Int)≤left then left-nTerm a else -1):=by
 unfold nD at h1
 have l0:=hl
 unfold pV at l0
 unfold nTerm
 refine bnd (z_NodeS a (left) (by omega) (by unfold nD;omega) l0) (stp ?_)
 by_cases g0:(nNodeS a:Int)≤left
 case neg=>
  rw [if_neg g0];try rw [if_neg (by omega)]
  exact cTW (dT (by omega)) rfl
 rw [if_pos g0]
 try rw [if_pos (by omega)]
 refine cFW (dF (by omega)) ?_
 congr 1;try omega
theorem Hc_ {a:jH} (h:Nice.ok a):pV a:=by
 have h0:=h
 exact GO_ h0
theorem t_Term (a:jH) (h:nTerm a≤1048576):nZ a=some a:=by
 unfold nTerm at h
 exact bnd (t_NodeS a (by omega)) (rfl)
theorem e_Term (a:jH) (h:nTerm a≤1048576):rZ a a=some true:=by
 unfold nTerm at h
 exact bnd (e_NodeS a (by omega)) (stp (cFW rfl (rfl)))
end Go.Proofs.YtemcakhocdchiaaGreatDoor
namespace Go.Proofs.YtemcakhocdchiaaGreatDoor
set_option linter.unusedVariables false
abbrev nH:=List jH
def nTermS (a:nH):Nat:=a.length+tot nTerm a
def Dl_ (a:nH):Prop:=lI a∧∀ x∈a,pV x
theorem z_TermS (a:nH) (left:Int) (h0:0≤left) (h1:left≤nD) (hl:Dl_ a):fZ a left=some (if (nTermS a:Int)≤left then left-nTermS a else -1):=by
 have hl1:=hl.1;unfold lI at hl1;unfold nD at h1
 unfold nTermS
 refine bnd (wC (by omega) (by omega)) (stp ?_)
 by_cases h:(a.length:Int)≤left
 ·
  refine cFW (dF (by omega)) (sqW (A6_ nTerm a (left-a.length) ?_ ?_ a [] _ rfl ?_ (Int.le_refl _)) ?_)
  ·
   intro j r s hj hjl hs hsB
   dsimp only
   refine stp (cTW (dT (by omega)) (bnd (kA hj) (bnd (z_Term r s hs (by unfold nD;omega) (hl.2 r (oC hj))) (stp ?_))))
   by_cases h2:(nTerm r:Int)≤s
   · rw [if_pos h2,if_pos h2];exact cFW (dF (by omega)) (bnd (aB (by omega) (by omega)) rfl)
   · rw [if_neg h2,if_neg h2];exact cTW (dT (by omega)) rfl
  · intro s;dsimp only;exact stp (cFW (dF (by omega)) rfl)
  · omega
  ·
   by_cases h2:(tot nTerm a:Int)≤left-a.length
   · rw [if_pos h2,if_pos (by omega),pH];congr 1;omega
   · rw [if_neg h2,if_neg (by omega),uW]
 · rw [if_neg (by omega)];exact cTW (dT (by omega)) rfl
theorem GN_ {a:nH} (h:Nice.ok a):Dl_ a:=⟨h.1,fun x hx=>Hc_ (h.2 x hx)⟩
theorem rO (a:nH) (h:nTermS a≤1048576):xN a=some a:=by
 have hm:bB=1099511627776:=rfl
 unfold nTermS at h
 refine bnd (mH _ (by omega)) (bnd (A4_ _ a ?_ ?_ a [] rfl) rfl)
 ·
  intro j x s hj hjl hs
  dsimp only
  exact stp (cTW (dT (by omega)) (bnd (kA hj) (bnd (t_Term x (by have:=sR (n:=nTerm) (oC hj);omega)) (bnd (tC _ (by omega)) (bnd (aB (by omega) (by omega)) rfl)))))
 · intro s hs;dsimp only;exact stp (cFW (dF (by omega)) rfl)
theorem e_TermS (a:nH) (h:nTermS a≤1048576):hZ a a=some true:=by
 unfold nTermS at h
 refine stp (cFW (nT (dT rfl)) (sqW (dK (fun j=>(j:Int)) (t:=.inl ()) a.length ?_ ?_) ?_))
 ·
  intro j hj
  exact stp (cTW (dT (by omega)) (bnd (kA (List.getElem?_eq_getElem hj)) (bnd (kA (List.getElem?_eq_getElem hj)) (bnd (e_Term a[j] (by have:=sR (n:=nTerm) (List.getElem_mem hj);omega)) (stp (cFW rfl (bnd (aB (by omega) (by omega)) rfl)))))))
 · exact stp (cFW (dF (by omega)) rfl)
 · rfl
def mR (x:jH) (q:Int):jH×Int:=(((mV x q).1),(mV x q).2)
def iN (x:jH):Nat:=0+BH_ x
theorem Cz_ (x:jH) (q:Int):(mR x q).2=q+iN x:=by
 unfold mR iN
 simp only [Hf_]
 omega
theorem C4_ (x:jH):iN x≤8*(1+nTerm x):=by
 unfold iN nTerm
 have hc0:=Dx_ x
 omega
def DR_:nH→Int→nH×Int:=mkL mR
def FE_ (a:nH):Nat:=tot iN a
theorem IM_ (a:nH):FE_ a≤8*nTermS a:=by
 have:=Fd_ C4_ a
 rw [xW] at this
 exact this
theorem He_ (a:nH) (k:Int):(DR_ a k).2=k+FE_ a:=wR mR iN Cz_ a k
theorem m_TermS (a:nH) (k:Int) (h0:0≤k) (h:k+8*nTermS a≤1125899906842624):pY a k=some (DR_ a k):=by
 have hsum:=xW nTerm a
 unfold nTermS at h
 refine bnd (Ah_ mR iN (fun x=>8*(1+nTerm x)) Cz_ C4_ a.length 1125899906842624 ?_ ?_ a [] k (by simp) h0 (by rw [hsum];omega)) rfl
 ·
  intro j x s q hj hs hjl hq hB
  dsimp only at hB ⊢
  unfold nTerm at hB
  have b0:=Dx_ x
  refine stp (cTW (dT (by omega)) ?_)
  refine bnd (kA hj) ?_
  refine bnd (m_NodeS x q (by omega) (by omega)) ?_
  refine bnd (tC _ (by omega)) ?_
  refine bnd (aB (by omega) (by omega)) ?_
  (try simp only [List.set_set]);rfl
 · intro s q hs;dsimp only;exact stp (cFW (dF (by omega)) rfl)
end Go.Proofs.YtemcakhocdchiaaGreatDoor
namespace Go.Proofs.YtemcakhocdchiaaGreatDoor
noncomputable def lC (p:Int) (ts:List (List Nod)) (x:Int):Rows:=(sC p (ts.getD x.toNat [])).2.2
def hdI (c:List Int):Int:=c.headD 0
def mtC (R:Int→Rows) (out:List (List Int)) (i k:Nat):Prop:=R (hdI (out.getD k []))=R (i:Int)
open Classical in
noncomputable def oN (R:Int→Rows) (out:List (List Int)) (i:Nat):List (List Int):=
 if h:∃ k,k<out.length∧mtC R out i k then out.set (Classical.choose h) (out.getD (Classical.choose h) []++[(i:Int)]) else out++[[(i:Int)]]
noncomputable def jF (R:Int→Rows) (n:Nat):List (List Int):=(List.range n).foldl (oN R) []
structure InvC (R:Int→Rows) (out:List (List Int)) (j:Nat):Prop where
 len:out.length≤j
 cl:∀ (k:Nat) c,out[k]?=some c→c≠[]∧(0≤hdI c∧hdI c<(j:Int))∧c.length≤j
 dist:∀ (k k':Nat) c c',out[k]?=some c→out[k']?=some c'→R (hdI c)=R (hdI c')→k=k'
theorem eJ {α:Type}{l:List α}{k:Nat}{c d:α} (h:l[k]?=some c):l.getD k d=c:=by
 rw [List.getD_eq_getElem?_getD,h];rfl
theorem hd_app {c:List Int} (h:c≠[]) (x:Int):hdI (c++[x])=hdI c:=by
 cases c with
 | nil=>exact (h rfl).elim
 | cons a l=>rfl
theorem Ap_ {R:Int→Rows}{out:List (List Int)}{i k:Nat}{c:List Int} (hI:InvC R out i) (hk:out[k]?=some c) (hm:R (hdI c)=R (i:Int)):oN R out i=out.set k (c++[(i:Int)]):=by
 have hkl:=(List.getElem?_eq_some_iff.1 hk).1
 have h:∃ k,k<out.length∧mtC R out i k:=⟨k,hkl,by unfold mtC;rw [eJ hk];exact hm⟩
 unfold oN
 rw [dif_pos h]
 obtain ⟨h1,h2⟩:=Classical.choose_spec h
 generalize Classical.choose h=q at h1 h2
 have hq:out[q]?=some out[q]:=List.getElem?_eq_getElem h1
 unfold mtC at h2
 rw [eJ hq] at h2
 obtain rfl:=hI.dist q k _ _ hq hk (h2.trans hm.symm)
 rw [eJ hk]
theorem AJ_ {R:Int→Rows}{out:List (List Int)}{i:Nat} (h:∀ (k:Nat) c,out[k]?=some c→R (hdI c)≠R (i:Int)):oN R out i=out++[[(i:Int)]]:=by
 unfold oN
 rw [dif_neg]
 rintro ⟨k,h1,h2⟩
 have hq:out[k]?=some out[k]:=List.getElem?_eq_getElem h1
 unfold mtC at h2
 rw [eJ hq] at h2
 exact h k _ hq h2
theorem H7_ {R:Int→Rows}{out:List (List Int)}{i:Nat} (hI:InvC R out i):InvC R (oN R out i) (i+1):=by
 by_cases h:∃ (k:Nat) (c:List Int),out[k]?=some c∧R (hdI c)=R (i:Int)
 ·
  obtain ⟨k,c,hk,hm⟩:=h
  have hkl:=(List.getElem?_eq_some_iff.1 hk).1
  obtain ⟨c1,c2,c3⟩:=hI.cl k c hk
  rw [Ap_ hI hk hm]
  have get:∀ (j:Nat) d,(out.set k (c++[(i:Int)]))[j]?=some d→∃ d',out[j]?=some d'∧hdI d=hdI d'∧d≠[]∧d.length≤i+1:=by
   intro j d hd
   rw [List.getElem?_set] at hd
   split at hd
   ·
    rename_i e
    subst e
    obtain rfl:=Option.some.inj hd
    exact ⟨c,hk,hd_app c1 _,by simp,by simp;omega⟩
   ·
    obtain ⟨d1,_,d3⟩:=hI.cl j d hd
    exact ⟨d,hd,rfl,d1,by omega⟩
  refine ⟨by rw [List.length_set];have:=hI.len;omega,fun j d hd=>?_,fun j j' d d' hd hd' e=>?_⟩
  ·
   obtain ⟨d',h1,h2,h3,h4⟩:=get j d hd
   have:=(hI.cl j d' h1).2.1
   exact ⟨h3,by rw [h2];push_cast;omega,h4⟩
  ·
   obtain ⟨x,h1,h2,_⟩:=get j d hd
   obtain ⟨x',h1',h2',_⟩:=get j' d' hd'
   rw [h2,h2'] at e
   exact hI.dist j j' x x' h1 h1' e
 ·
  have hn:∀ (k:Nat) c,out[k]?=some c→R (hdI c)≠R (i:Int):=fun k c hk e=>h ⟨k,c,hk,e⟩
  rw [AJ_ hn]
  have get:∀ (j:Nat) d,(out++[[(i:Int)]])[j]?=some d→out[j]?=some d∨(j=out.length∧d=[(i:Int)]):=by
   intro j d hd
   by_cases hj:j<out.length
   · rw [List.getElem?_append_left hj] at hd;exact .inl hd
   ·
    rw [List.getElem?_append_right (by omega)] at hd
    have:j-out.length=0:=by
     have:=(List.getElem?_eq_some_iff.1 hd).1;simp at this;omega
    rw [this] at hd
    exact .inr ⟨by omega,(Option.some.inj hd).symm⟩
  refine ⟨by simp;have:=hI.len;omega,fun j d hd=>?_,fun j j' d d' hd hd' e=>?_⟩
  ·
   rcases get j d hd with h1 | ⟨_,rfl⟩
   ·
    obtain ⟨d1,d2,d3⟩:=hI.cl j d h1
    exact ⟨d1,by push_cast;omega,by omega⟩
   · exact ⟨by simp,by show 0≤(i:Int)∧(i:Int)<_;push_cast;omega,by simp⟩
  ·
   rcases get j d hd with h1 | ⟨h1,rfl⟩
   ·
    rcases get j' d' hd' with h2 | ⟨h2,rfl⟩
    · exact hI.dist j j' d d' h1 h2 e
    · exact (hn j d h1 e).elim
   ·
    rcases get j' d' hd' with h2 | ⟨h2,rfl⟩
    · exact (hn j' d' h2 e.symm).elim
    · omega
theorem AC_ (R:Int→Rows) (n:Nat):jF R (n+1)=oN R (jF R n) n:=by
 unfold jF;rw [List.range_succ,List.foldl_append];rfl
theorem xV (R:Int→Rows):∀ n,InvC R (jF R n) n
 | 0=>⟨Nat.le_refl _,(fun k c h=>by cases h),fun k k' c c' h=>by cases h⟩
 | n+1=>by rw [AC_];exact H7_ (xV R n)
noncomputable def zH (p:Int) (ts:List (List Nod)):List (List Int)×Bool:=
 if (1≤ts.length∧ts.length≤10)∧(ts.all fun t=>cG p (ts.getD 0 []) t)=true then (jF (lC p ts) ts.length,true) else ([],false)
section
variable {p:Int}{ts:List (List Nod)}
theorem eq_step (hN:ts.length≤10){j:Nat} (hj:j<ts.length) (hok:∀ t∈ts,okE p t=true) :
  ((idxO ts (j:Int)).bind fun a891=>
    (uI p a891).bind fun y901=>
    (forS (fun (k910:Nat) (s1003:Int)=>
      (idxO (jF (lC p ts) j) ((k910:Nat):Int)).bind fun a1018=>
      (idxO a1018 0).bind fun a1028=>
      (idxO ts a1028).bind fun a1036=>
      (uI p a1036).bind fun y1042=>
      (tM y901.1.2.2 y1042.1.2.2).bind fun y1051=>
      cond y1051
      (some ((k910:Nat):Int))
      (some s1003)) (jF (lC p ts) j).length 0 (-1)).bind fun (s1058:Int)=>
    (some (decide (s1058<0))).bind fun a1060=>
    cond a1060
    ((nA (jF (lC p ts) j) [[((j:Nat):Int)]]).bind fun a1097=>
     some a1097)
    ((idxO (jF (lC p ts) j) s1058).bind fun a1069=>
     (nA a1069 [((j:Nat):Int)]).bind fun a1076=>
     (setO (jF (lC p ts) j) s1058 a1076).bind fun a1088=>
     some a1088))=some (jF (lC p ts) (j+1)):=by
 have hm:bB=1099511627776:=rfl
 have hI:=xV (lC p ts) j
 have hlen:=hI.len
 rw [AC_]
 generalize jF (lC p ts) j=out at hI hlen ⊢
 have hd:∀ t∈ts,uI p t=some (sC p t,true):=fun t ht=>by rw [dnTerm_,if_pos (DP_ (hok t ht)).1]
 have hrel:lC p ts (j:Int)=(sC p ts[j]).2.2:=by unfold lC;rw [Int.toNat_natCast,eJ (List.getElem?_eq_getElem hj)]
 refine bnd (kA (List.getElem?_eq_getElem hj)) (bnd (hd _ (List.getElem_mem hj)) ?_)
 have inner:∀ (k:Nat) c,out[k]?=some c→∀ s:Int,((idxO out ((k:Nat):Int)).bind fun a1018=>
      (idxO a1018 0).bind fun a1028=>
      (idxO ts a1028).bind fun a1036=>
      (uI p a1036).bind fun y1042=>
      (tM (sC p ts[j]).2.2 y1042.1.2.2).bind fun y1051=>
      cond y1051
      (some ((k:Nat):Int))
      (some s))=some (if lC p ts (hdI c)=lC p ts (j:Int) then (k:Int) else s):=by
  intro k c hk s
  obtain ⟨c1,⟨c2,c3⟩,_⟩:=hI.cl k c hk
  obtain ⟨m,hmm⟩:=Int.eq_ofNat_of_zero_le c2
  have hml:m<ts.length:=by omega
  have h0:idxO c 0=some (m:Int):=by
   cases c with
   | nil=>exact (c1 rfl).elim
   | cons x l=>exact (kA (k:=0) rfl).trans (congrArg some (show x=(m:Int) from hmm))
  refine bnd (kA hk) (bnd h0 (bnd (kA (List.getElem?_eq_getElem hml)) (bnd (hd _ (List.getElem_mem hml)) (bnd (Ex_ _ _) ?_))))
  have e1:lC p ts (hdI c)=(sC p ts[m]).2.2:=by unfold lC;rw [hmm,Int.toNat_natCast,eJ (List.getElem?_eq_getElem hml)]
  rw [hrel,e1]
  by_cases h:(sC p ts[j]).2.2=(sC p ts[m]).2.2
  · rw [if_pos h.symm];exact cTW (dT h) rfl
  · rw [if_neg (fun q=>h q.symm)];exact cFW (dF h) rfl
 by_cases h:∃ (k:Nat) (c:List Int),out[k]?=some c∧lC p ts (hdI c)=lC p ts (j:Int)
 ·
  obtain ⟨k0,c,hk,hmt⟩:=h
  have hkl:=(List.getElem?_eq_some_iff.1 hk).1
  have loop:=xC (n:=out.length) (f:=fun (k910:Nat) (s1003:Int)=>
      (idxO out ((k910:Nat):Int)).bind fun a1018=>
      (idxO a1018 0).bind fun a1028=>
      (idxO ts a1028).bind fun a1036=>
      (uI p a1036).bind fun y1042=>
      (tM (sC p ts[j]).2.2 y1042.1.2.2).bind fun y1051=>
      cond y1051
      (some ((k910:Nat):Int))
      (some s1003)) (fun q=>if k0<q then (k0:Int) else -1) (fun q hq=>by
    have hqc:=List.getElem?_eq_getElem hq
    rw [inner q _ hqc]
    congr 1
    by_cases e:lC p ts (hdI out[q])=lC p ts (j:Int)
    ·
     have:=hI.dist q k0 _ _ hqc hk (e.trans hmt.symm)
     subst this
     rw [if_pos e,if_pos (by omega)]
    ·
     have:q≠k0:=by
      rintro rfl
      rw [hqc] at hk
      obtain rfl:=Option.some.inj hk
      exact e hmt
     rw [if_neg e]
     by_cases h1:k0<q
     · rw [if_pos h1,if_pos (by omega)]
     · rw [if_neg h1,if_neg (by omega)])
  rw [if_neg (by omega),if_pos hkl] at loop
  have hcl:=(hI.cl k0 c hk).2.2
  refine bnd loop (stp (cFW (dF (by omega)) (bnd (kA hk) (bnd (iB (by simp;omega)) (bnd (tC _ hkl) ?_)))))
  rw [Ap_ hI hk hmt]
 ·
  have hn:∀ (k:Nat) c,out[k]?=some c→lC p ts (hdI c)≠lC p ts (j:Int):=fun k c hk e=>h ⟨k,c,hk,e⟩
  have loop:=xC (n:=out.length) (f:=fun (k910:Nat) (s1003:Int)=>
      (idxO out ((k910:Nat):Int)).bind fun a1018=>
      (idxO a1018 0).bind fun a1028=>
      (idxO ts a1028).bind fun a1036=>
      (uI p a1036).bind fun y1042=>
      (tM (sC p ts[j]).2.2 y1042.1.2.2).bind fun y1051=>
      cond y1051
      (some ((k910:Nat):Int))
      (some s1003)) (fun _=>(-1:Int)) (fun q hq=>by
    have hqc:=List.getElem?_eq_getElem hq
    rw [inner q _ hqc,if_neg (hn q _ hqc)])
  refine bnd loop (stp (cTW (dT (by omega)) (bnd (iB (by simp;omega)) ?_)))
  rw [AJ_ hn]
theorem all_ok (h:(ts.all fun t=>cG p (ts.getD 0 []) t)=true):∀ t∈ts,okE p t=true:=fun t ht=>by
 have:=List.all_eq_true.1 h t ht
 unfold cG at this
 simp only [Bool.and_eq_true] at this
 exact this.2.1
end
theorem seqI {σ τ:Type} (s:σ) (k:σ→Option τ):uB (some (Sum.inl s)) k=k s:=rfl
theorem BY_ (p:Int) (ts:List (List Nod)):eY p ts=some (zH p ts):=by
 refine bnd (within_ _ _ _) (stp ?_)
 unfold zH
 by_cases hN:1≤ts.length∧ts.length≤10
 ·
  rw [show rng ((ts.length:Nat):Int) 1 10=true from rng_true.2 (by omega)]
  refine cFW rfl ?_
  have h0:idxO ts 0=some (ts.getD 0 []):=by
   have:=List.getElem?_eq_getElem (l:=ts) (i:=0) (by omega)
   rw [eJ this]
   exact kA (k:=0) this
  refine sqW (uG (fun t=>cG p (ts.getD 0 []) t) ts 0 (t:=(([]:List (List Int)),false)) (fun j a hj=>?_)) ?_
  ·
   rw [Nat.zero_add]
   obtain ⟨x,hx⟩:=pvTwo_ p (ts.getD 0 []) a
   refine bnd (kA hj) (bnd (bnd h0 (bnd hx rfl)) (stp ?_))
   show cond (!cG p (ts.getD 0 []) a) _ _=_
   cases cG p (ts.getD 0 []) a <;> rfl
  ·
   cases hall:(ts.all fun t=>cG p (ts.getD 0 []) t) with
   | false=>rw [if_neg (show ¬((1≤ts.length∧ts.length≤10)∧false=true) by simp)];rfl
   | true=>
    rw [if_pos (show (1≤ts.length∧ts.length≤10)∧true=true from ⟨hN,rfl⟩)]
    exact (seqI () _).trans (bnd (xC (n:=ts.length) (jF (lC p ts)) fun j hj=>eq_step hN.2 hj (all_ok hall)) rfl)
 ·
  rw [if_neg (fun h=>hN h.1)]
  rw [show rng ((ts.length:Nat):Int) 1 10=false from by
   cases h:rng ((ts.length:Nat):Int) 1 10 with
   | false=>rfl
   | true=>exact (hN (by have:=rng_true.1 h;omega)).elim]
  exact cTW rfl rfl
section
variable {p:Int}{ts:List (List Nod)}
theorem Ec_ (hN:ts.length≤10){j:Nat} (hj:j<ts.length) (h0:ts[0]?=some (ts.getD 0 [])) (hok:∀ k,k<j+1→cG p (ts.getD 0 []) (ts.getD k [])=true){out:List (List Int)} (ho:out=jF (lC p ts) j) :
  (uB ((idxO ts ((j:Nat):Int)).bind fun a8684=>
      ((idxO ts 0).bind fun a8805=>
       (cK p a8805 a8684).bind fun y8839=>
       some y8839.2).bind fun (s8792:Bool)=>
      (some (!s8792)).bind fun a8898=>
      cond a8898
      (some (.inr (.inr (.inr (([]:List (List Int)),false)))))
      (uB (dC (fun (k8901:Nat) (_:Unit)=>
         (idxO out ((k8901:Nat):Int)).bind fun a9182=>
         ((idxO a9182 0).bind fun a9316=>
          (idxO ts a9316).bind fun a9324=>
          (cK p a9324 a8684).bind fun y9358=>
          some (y9358.1.1,y9358.1.2.1.1.1,y9358.1.2.1.2.2.2.2,y9358.1.2.2.1.1,y9358.1.2.2.1.2.1,y9358.1.2.2.1.2.2.1,y9358.1.2.2.1.2.2.2,y9358.1.2.2.2.1.1,y9358.1.2.2.2.1.2.1,y9358.1.2.2.2.1.2.2,y9358.1.2.2.2.2.1,y9358.1.2.2.2.2.2.1,y9358.1.2.1.1.2.1,y9358.1.2.2.2.2.2.2,y9358.1.2.1.1.2.2.1,y9358.1.2.1.1.2.2.2,y9358.1.2.1.2.1.1,y9358.1.2.1.2.1.2.1,y9358.1.2.1.2.1.2.2,y9358.1.2.1.2.2.1,y9358.1.2.1.2.2.2.1)).bind fun (s9292:Int×Int×List (List Int)×Int×(List (Int×Int×List Int×List Int))×List Int×List Int×Int×Int×List (List Int)×Int×Int×(List (Int×Int×List Int×List Int))×List (List Int)×List Int×List Int×Int×Int×List (List Int)×Int×Int)=>
         (dQ s9292.2.2.1 s9292.2.2.2.2.2.2.2.2.2.2.2.2.2.1).bind fun y9417=>
         cond y9417
         ((nA a9182 [((j:Nat):Int)]).bind fun a9425=>
          (setO out ((k8901:Nat):Int) a9425).bind fun a9437=>
          some (.inr (.inl (a9437,a9437))))
         (some (.inl ()))) out.length 0 ()) fun (_:Unit)=>
       (nA out [[((j:Nat):Int)]]).bind fun a9450=>
       some (.inl (out,a9450)))) fun (s8671:List (List Int)×List (List Int))=>
     some (.inl s8671.2):Option (List (List Int)⊕(Unit⊕(List (List Int)×Bool))))=some (.inl (jF (lC p ts) (j+1))):=by
 have hm:bB=1099511627776:=rfl
 have hI:=xV (lC p ts) j
 rw [AC_]
 rw [←ho] at hI ⊢
 have hlen:=hI.len
 have gd:∀ k,k<ts.length→ts[k]?=some (ts.getD k []):=fun k hk=>by
  have:=List.getElem?_eq_getElem (l:=ts) (i:=k) hk
  rw [eJ this];exact this
 have hk1:∀ k,k<j+1→okE p (ts.getD k [])=true:=fun k hk=>by
  have:=hok k hk
  unfold cG at this
  simp only [Bool.and_eq_true] at this
  exact this.2.1
 have hrel:lC p ts (j:Int)=(sC p (ts.getD j [])).2.2:=by unfold lC;rw [Int.toNat_natCast]
 obtain ⟨x,hx,_⟩:=ask_ p (ts.getD 0 []) (ts.getD j [])
 have hb:=hok j (by omega)
 have inner:∀ (k:Nat) c,out[k]?=some c→((idxO out ((k:Nat):Int)).bind fun a9182=>
         ((idxO a9182 0).bind fun a9316=>
          (idxO ts a9316).bind fun a9324=>
          (cK p a9324 (ts.getD j [])).bind fun y9358=>
          some (y9358.1.1,y9358.1.2.1.1.1,y9358.1.2.1.2.2.2.2,y9358.1.2.2.1.1,y9358.1.2.2.1.2.1,y9358.1.2.2.1.2.2.1,y9358.1.2.2.1.2.2.2,y9358.1.2.2.2.1.1,y9358.1.2.2.2.1.2.1,y9358.1.2.2.2.1.2.2,y9358.1.2.2.2.2.1,y9358.1.2.2.2.2.2.1,y9358.1.2.1.1.2.1,y9358.1.2.2.2.2.2.2,y9358.1.2.1.1.2.2.1,y9358.1.2.1.1.2.2.2,y9358.1.2.1.2.1.1,y9358.1.2.1.2.1.2.1,y9358.1.2.1.2.1.2.2,y9358.1.2.1.2.2.1,y9358.1.2.1.2.2.2.1)).bind fun (s9292:Int×Int×List (List Int)×Int×(List (Int×Int×List Int×List Int))×List Int×List Int×Int×Int×List (List Int)×Int×Int×(List (Int×Int×List Int×List Int))×List (List Int)×List Int×List Int×Int×Int×List (List Int)×Int×Int)=>
         (dQ s9292.2.2.1 s9292.2.2.2.2.2.2.2.2.2.2.2.2.2.1).bind fun y9417=>
         cond y9417
         ((nA a9182 [((j:Nat):Int)]).bind fun a9425=>
          (setO out ((k:Nat):Int) a9425).bind fun a9437=>
          some (Sum.inr (Sum.inl (a9437,a9437))))
         (some (.inl ())))=some (if lC p ts (hdI c)=lC p ts (j:Int) then (Sum.inr (Sum.inl (out.set k (c++[(j:Int)]),out.set k (c++[(j:Int)]))):Unit⊕((List (List Int)×List (List Int))⊕(List (List Int)⊕(Unit⊕(List (List Int)×Bool))))) else .inl ()):=by
  intro k c hk
  have hkl:=(List.getElem?_eq_some_iff.1 hk).1
  obtain ⟨c1,⟨c2,c3⟩,c4⟩:=hI.cl k c hk
  obtain ⟨m,hmm⟩:=Int.eq_ofNat_of_zero_le c2
  have hml:m<ts.length:=by omega
  have e0:idxO c 0=some (m:Int):=by
   cases c with
   | nil=>exact (c1 rfl).elim
   | cons x l=>exact (kA (k:=0) rfl).trans (congrArg some (show x=(m:Int) from hmm))
  obtain ⟨z,hz,hz2⟩:=ask_ p (ts.getD m []) (ts.getD j [])
  obtain ⟨z1,z2⟩:=hz2 (hk1 m (by omega)) (hk1 j (by omega))
  have e1:lC p ts (hdI c)=(sC p (ts.getD m [])).2.2:=by unfold lC;rw [hmm,Int.toNat_natCast]
  refine bnd (kA hk) (bnd (bnd e0 (bnd (kA (gd m hml)) (bnd hz rfl))) (bnd (Id_ _ _) ?_))
  dsimp only
  rw [z1,z2,hrel,e1]
  by_cases h:(sC p (ts.getD m [])).2.2=(sC p (ts.getD j [])).2.2
  ·
   rw [if_pos h]
   exact cTW (dT h) (bnd (iB (by simp;omega)) (bnd (tC _ hkl) rfl))
  · rw [if_neg h];exact cFW (dF h) rfl
 by_cases h:∃ (k:Nat) (c:List Int),out[k]?=some c∧lC p ts (hdI c)=lC p ts (j:Int)
 ·
  obtain ⟨k0,c,hk,hmt⟩:=h
  have hkl:=(List.getElem?_eq_some_iff.1 hk).1
  rw [Ap_ hI hk hmt]
  refine (sqW (r:=some (.inl (out.set k0 (c++[(j:Int)]),out.set k0 (c++[(j:Int)])))) (bnd (kA (gd j hj)) (bnd (bnd (kA (k:=0) h0) (bnd hx rfl)) (stp (cFW (nT hb) (sqW (Dr_ (fun _=>()) k0 hkl (fun q hq=>?_) ?_) rfl))))) rfl)
  ·
   have hqc:=List.getElem?_eq_getElem (l:=out) (i:=q) (by omega)
   refine (inner q _ hqc).trans ?_
   rw [if_neg]
   intro e
   have:=hI.dist q k0 _ _ hqc hk (e.trans hmt.symm)
   omega
  ·
   refine (inner k0 c hk).trans ?_
   rw [if_pos hmt]
 ·
  have hn:∀ (k:Nat) c,out[k]?=some c→lC p ts (hdI c)≠lC p ts (j:Int):=fun k c hk e=>h ⟨k,c,hk,e⟩
  rw [AJ_ hn]
  refine (sqW (r:=some (.inl (out,out++[[(j:Int)]]))) (bnd (kA (gd j hj)) (bnd (bnd (kA (k:=0) h0) (bnd hx rfl)) (stp (cFW (nT hb) (sqW (EU_ (fun _=>()) (fun q hq=>?_)) ?_))))) rfl)
  ·
   have hqc:=List.getElem?_eq_getElem (l:=out) (i:=q) hq
   refine (inner q _ hqc).trans ?_
   rw [if_neg (hn q _ hqc)]
  · exact (pH _).trans (bnd (iB (by simp;omega)) rfl)
theorem CN_ (P:Nat→Bool):∀ n,(∀ k,k<n→P k=true)∨∃ m,m<n∧P m=false∧∀ k,k<m→P k=true
 | 0=>.inl fun k hk=>by omega
 | n+1=>by
  rcases CN_ P n with h | ⟨m,h1,h2,h3⟩
  ·
   cases hp:P n with
   | true=>
    refine .inl fun k hk=>?_
    by_cases e:k=n
    · rw [e];exact hp
    · exact h k (by omega)
   | false=>exact .inr ⟨n,by omega,hp,h⟩
  · exact .inr ⟨m,by omega,h2,h3⟩
end
theorem oY (p:Int) (ts:List (List Nod)):cT p ts=some (zH p ts):=by
 refine bnd (within_ _ _ _) (stp ?_)
 unfold zH
 by_cases hN:1≤ts.length∧ts.length≤10
 ·
  rw [show rng ((ts.length:Nat):Int) 1 10=true from rng_true.2 (by omega)]
  refine cFW rfl ?_
  have gd:∀ k,k<ts.length→ts[k]?=some (ts.getD k []):=fun k hk=>by
   have:=List.getElem?_eq_getElem (l:=ts) (i:=k) hk
   rw [eJ this];exact this
  have h0:=gd 0 (by omega)
  rcases CN_ (fun k=>cG p (ts.getD 0 []) (ts.getD k [])) ts.length with h | ⟨m,hm,hf,hb⟩
  ·
   have hall:(ts.all fun t=>cG p (ts.getD 0 []) t)=true:=List.all_eq_true.2 fun t ht=>by
    obtain ⟨k,hk⟩:=List.getElem?_of_mem ht
    have hkl:=(List.getElem?_eq_some_iff.1 hk).1
    have:=h k hkl
    rw [eJ hk] at this;exact this
   rw [if_pos (show (1≤ts.length∧ts.length≤10)∧_=true from ⟨hN,hall⟩)]
   refine dK (v:=fun _=>()) 0 (fun j hj=>by omega) ?_
   exact sqW (EU_ (jF (lC p ts)) fun j hj=>Ec_ hN.2 hj h0 (fun k hk=>h k (by omega)) rfl) rfl
  ·
   have hall:¬((ts.all fun t=>cG p (ts.getD 0 []) t)=true):=fun q=>by
    have:=List.all_eq_true.1 q _ (oC (gd m hm))
    rw [hf] at this;cases this
   rw [if_neg (show ¬((1≤ts.length∧ts.length≤10)∧_=true) from fun q=>hall q.2)]
   refine dK (v:=fun _=>()) 0 (fun j hj=>by omega) ?_
   refine sqW (Dr_ (jF (lC p ts)) m hm (fun j hj=>Ec_ hN.2 (by omega) h0 (fun k hk=>hb k (by omega)) rfl) (t:=.inr (([]:List (List Int)),false)) ?_) rfl
   obtain ⟨x,hx,_⟩:=ask_ p (ts.getD 0 []) (ts.getD m [])
   rw [hf] at hx
   exact sqW (r:=some (.inr (.inr (.inr (([]:List (List Int)),false))))) (bnd (kA (gd m hm)) (bnd (bnd (kA (k:=0) h0) (bnd hx rfl)) (stp (cTW rfl rfl)))) rfl
 ·
  rw [if_neg (fun h=>hN h.1)]
  rw [show rng ((ts.length:Nat):Int) 1 10=false from by
   cases h:rng ((ts.length:Nat):Int) 1 10 with
   | false=>rfl
   | true=>exact (hN (by have:=rng_true.1 h;omega)).elim]
  exact cTW rfl rfl
theorem FX_ (p:Int) (ts:List (List Nod)):qH (zH p ts).1≤1048576:=by
 unfold zH qH
 split
 ·
  rename_i h
  have hI:=xV (lC p ts) ts.length
  have:=IW_ (c:=10) (n:=10) (l:=jF (lC p ts) ts.length) (fun r hr=>by
   obtain ⟨k,hk⟩:=List.getElem?_of_mem hr
   have:=(hI.cl k r hk).2.2
   omega) (by have:=hI.len;omega)
  show wF (jF (lC p ts) ts.length)≤_
  omega
 ·
  show wF []≤_
  simp [wF,tot]
end Go.Proofs.YtemcakhocdchiaaGreatDoor
namespace Go.Proofs.YtemcakhocdchiaaGreatDoor
set_option linter.unusedVariables false
theorem F0_ (a0:Int) (a1:List jH) (i0:Nice.ok a0) (i1:Nice.ok a1):BL_ a0 a1=some true:=by
 have hbig:nD=4611686018427387904:=rfl
 refine bnd (z_TermS a1 1048576 (by omega) (by rw [hbig];omega) (GN_ i1)) (stp ?_)
 by_cases gaTerms:(nTermS a1:Int)≤1048576
 case neg=>rw [if_neg gaTerms];exact cTW (dT (by omega)) rfl
 rw [if_pos gaTerms]
 refine cFW (dF (by omega)) ?_
 have haTerms:nTermS a1≤1048576:=by omega
 first
 | refine bnd (rO a1 haTerms) (bnd (BY_ a0 a1) ?_)
 | refine bnd (bnd (rO a1 haTerms) (bnd (BY_ a0 a1) rfl)) ?_
 refine bnd (rO a1 haTerms) ?_
 refine bnd (oY a0 a1) ?_
 have b0:qH (zH a0 a1).1≤1048576:=FX_ a0 a1
 have cb0:=IN_ (zH a0 a1).1
 refine bnd (a:=false) (bnd (Br_ _ b0) (stp (cFW rfl (stp (congrArg some (nT (dT rfl))))))) (cFW rfl ?_)
 refine bnd (rO _ haTerms) (bnd (e_TermS _ haTerms) (stp (cFW rfl ?_)))
 have caTerms:=IM_ a1
 refine bnd (m_TermS a1 _ (by omega) (by omega)) ?_
 refine bnd (a:=false) (stp (cFW (dF (by simp only [He_];omega)) (bnd (Br_ _ b0) (stp (cFW rfl (stp (congrArg some (nT (dT rfl))))))))) (cFW rfl ?_)
 refine bnd (m_IntSS (zH a0 a1).1 _ (by omega) (by omega)) ?_
 refine bnd (EO_ (zH a0 a1).1 _ (by omega) (by omega)) (stp (cFW (dF (by omega)) ?_))
 refine stp (cFW (nT (dT (by simp only [Cy_]))) ?_)
 first
 | refine bnd (rO a1 haTerms) (bnd (oY a0 a1) ?_)
 | refine bnd (bnd (rO a1 haTerms) (bnd (oY a0 a1) rfl)) ?_
 refine bnd (a:=false) (bnd (Br_ _ b0) (stp (cFW rfl (stp (congrArg some (nT (dT rfl))))))) (cFW rfl ?_)
 refine bnd (EO_ (zH a0 a1).1 _ (by omega) (by omega)) (stp (cFW (dF (by omega)) ?_))
 refine stp (cFW (nT (dT (by simp only [Cy_]))) ?_)
 rfl
end Go.Proofs.YtemcakhocdchiaaGreatDoor
