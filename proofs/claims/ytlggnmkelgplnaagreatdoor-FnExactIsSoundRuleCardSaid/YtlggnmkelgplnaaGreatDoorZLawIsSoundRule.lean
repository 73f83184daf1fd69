/-
  Plain laws: the relation of a term, in both. No program in sight. No condition.
-/
import Derived.Test.YtlggnmkelgplnaaGreatDoorZP52
import Derived.Test.YtlggnmkelgplnaaGreatDoorZText
import Derived.Test.YtlggnmkelgplnaaGreatDoorZP22
namespace Go.Proofs.YtlggnmkelgplnaaGreatDoor
def pH (p:Int) (n:Nod):Rel:=
 if n.1=1 then (n.2.1,n.2.1,idP n.2.1.toNat) else if n.1=2 then (2,2,bC p 4 swG) else ((kd n.1).1,(kd n.1).2,bC p ((kd n.1).1.toNat+(kd n.1).2.toNat) (kK n.1 n.2.1))
def lF (n:Nod):Bool:=decide (n.1≠8∧n.1≠14)
structure RelOk (p:Int) (w:Int×Int) (R:Rel):Prop where
 l:R.1=w.1
 r:R.2.1=w.2
 red:Red p (w.1.toNat+w.2.toNat) R.2.2
theorem AQ_ {p:Int}{n:Nod} (hf:fdB p=true) (h:lfB n=true) (ht:lF n=true) (ho:ovN p n=true):RelOk p (lfT n) (pH p n)∧jL p n=some (pH p n)∧cL p n=some (pH p n):=by
 have hp:=cC hf
 have ht:=of_decide_eq_true ht
 by_cases h1:n.1=1
 ·
  have hv:=eV h h1
  obtain ⟨k,v,s⟩:=n
  dsimp only at h1 hv
  subst h1
  obtain ⟨m,rfl⟩:∃ m:Nat,v=(m:Int):=⟨v.toNat,by omega⟩
  have e:pH p (1,(m:Int),s)=((m:Int),(m:Int),idP m):=by unfold pH;dsimp only;rw [if_pos rfl,Int.toNat_natCast]
  rw [e]
  have:=id_both (n:=m) hf (by omega) h
  exact ⟨⟨rfl,rfl,by show Red p ((m:Int).toNat+(m:Int).toNat) _;rw [Int.toNat_natCast];exact Dv_ hp.1 m⟩,this.1,this.2⟩
 by_cases h2:n.1=2
 ·
  obtain ⟨k,v,s⟩:=n
  dsimp only at h2
  subst h2
  have:=Gv_ hf h
  exact ⟨⟨rfl,rfl,bG (n:=4) hf (AM_ hp.1)⟩,this.1,this.2⟩
 have hg:=Ax_ h h1 h2
 have hv:n.2.1<p:=by
  unfold ovN at ho
  by_cases hs:n.1=7∨n.1=13
  ·
   rw [dT hs,Bool.true_and] at ho
   by_cases hq:p≤n.2.1
   · rw [dT hq] at ho;cases ho
   · omega
  ·
   unfold lfB at h
   simp only [Bool.and_eq_true] at h
   have h3:=h.2.2
   rw [if_neg h1,if_neg hs] at h3
   have:=of_decide_eq_true h3
   omega
 have e:pH p n=((kd n.1).1,(kd n.1).2,bC p ((kd n.1).1.toNat+(kd n.1).2.toNat) (kK n.1 n.2.1)):=by unfold pH;rw [if_neg h1,if_neg h2]
 have eT:lfT n=kd n.1:=by unfold lfT;rw [if_neg h1]
 rw [e,eT]
 exact ⟨⟨rfl,rfl,bG hf (xT hp hg.1 ht.1 ht.2 ⟨hg.2,hv⟩).g⟩,Gk_ hf h h1 h2 ht.1 ht.2 hv,FW_ hf h h1 h2 ht.1 ht.2 hv⟩
def kI (p k:Int) (x y:Rel):Rel:=
 if k=15 then (x.1,y.2.1,cmpR p x.1.toNat x.2.1.toNat y.2.1.toNat x.2.2 y.2.2) else (x.1+y.1,x.2.1+y.2.1,tenR p x.1.toNat x.2.1.toNat y.1.toNat y.2.1.toNat x.2.2 y.2.2)
theorem AW_ {p k:Int}{x y:Rel}{u v w:Int×Int} (hf:fdB p=true) (hu:sF u) (hv:sF v) (hx:RelOk p u x) (hy:RelOk p v y) (h:jn k u v=some w) :
  RelOk p w (kI p k x y)∧(k=15→jO p x y=some (kI p k x y)∧rO p x y=some (kI p k x y))∧(k≠15→pO p x y=some (kI p k x y)∧dP p x y=some (kI p k x y)):=by
 have hp:=cC hf
 obtain ⟨u1,u2⟩:=u
 obtain ⟨v1,v2⟩:=v
 obtain ⟨a1,a2,a3,a4⟩:=hu
 obtain ⟨b1,b2,b3,b4⟩:=hv
 obtain ⟨x1,x2,A⟩:=x
 obtain ⟨y1,y2,B⟩:=y
 obtain ⟨e1,e2,rA⟩:=hx
 obtain ⟨e3,e4,rB⟩:=hy
 dsimp only at a1 a2 a3 a4 b1 b2 b3 b4 e1 e2 e3 e4 rA rB
 subst e1 e2 e3 e4
 obtain ⟨l,rfl⟩:∃ l:Nat,x1=(l:Int):=⟨x1.toNat,by omega⟩
 obtain ⟨m,rfl⟩:∃ m:Nat,x2=(m:Int):=⟨x2.toNat,by omega⟩
 obtain ⟨q,rfl⟩:∃ q:Nat,y1=(q:Int):=⟨y1.toNat,by omega⟩
 obtain ⟨r,rfl⟩:∃ r:Nat,y2=(r:Int):=⟨y2.toNat,by omega⟩
 simp only [Int.toNat_natCast] at rA rB
 have lA:=fN hf rA
 have lB:=fN hf rB
 unfold jn at h
 unfold kI
 simp only [Int.toNat_natCast]
 by_cases hk:k=15
 ·
  rw [if_pos hk] at h ⊢
  split at h
  ·
   rename_i hm
   obtain rfl:=Option.some.inj h
   have hm:(m:Int)=(q:Int):=hm
   obtain rfl:q=m:=by omega
   refine ⟨⟨rfl,rfl,?_⟩,fun _=>⟨F6_ hf (by omega) (by omega) (by omega) rA.ok rB.ok (by omega) (by omega),GY_ hf (by omega) (by omega) (by omega) rA.ok rB.ok (by omega) (by omega)⟩,fun h=>(h hk).elim⟩
   show Red p ((l:Int).toNat+(r:Int).toNat) _
   rw [Int.toNat_natCast,Int.toNat_natCast]
   exact bG hf (AG_ hf rA.ok rB.ok)
  · cases h
 ·
  rw [if_neg hk] at h ⊢
  split at h
  ·
   obtain rfl:=Option.some.inj h
   have t1:=GF_ hf (l1:=l) (r1:=m) (l2:=q) (r2:=r) (by omega) (by omega) (by omega) (by omega) rA.ok rB.ok (by omega) (by omega)
   have t2:=tensor_ hf (l1:=l) (r1:=m) (l2:=q) (r2:=r) (by omega) (by omega) (by omega) (by omega) rA.ok rB.ok (by omega) (by omega)
   refine ⟨⟨rfl,rfl,?_⟩,fun h=>(hk h).elim,fun _=>⟨t1,t2⟩⟩
   show Red p (((l:Int)+(q:Int)).toNat+((m:Int)+(r:Int)).toNat) _
   rw [show ((l:Int)+(q:Int)).toNat=l+q by omega,show ((m:Int)+(r:Int)).toNat=m+r by omega]
   exact bG hf (Ao_ hp.1 rA.ok rB.ok)
  · cases h
def eH (p:Int):Tr→Rel
 | .leaf n=>pH p n
 | .node k a b=>kI p k (eH p a) (eH p b)
def okT (p:Int) (T:Tr):Prop:=∀ n∈flat T,lF n=true∧ovN p n=true
theorem eI:∀ {T:Tr}{w:Int×Int},wD T=some w→sF w
 | .leaf n,w,h=>by obtain ⟨h1,rfl⟩:=fK h;exact D0_ h1
 | .node k a b,w,h=>by
  obtain ⟨_,x,y,h1,h2,h3⟩:=aJ h
  exact jn_ok (eI h1) (eI h2) h3
theorem oK {p:Int} (hf:fdB p=true):∀ {T:Tr}{w:Int×Int},wD T=some w→okT p T→RelOk p w (eH p T)
 | .leaf n,w,h,ho=>by
  obtain ⟨h1,rfl⟩:=fK h
  have:=ho n (by simp [flat])
  exact (AQ_ hf h1 this.1 this.2).1
 | .node k a b,w,h,ho=>by
  obtain ⟨_,x,y,h1,h2,h3⟩:=aJ h
  exact (AW_ hf (eI h1) (eI h2) (oK hf h1 (fun n hn=>ho n (by simp [flat,hn]))) (oK hf h2 (fun n hn=>ho n (by simp [flat,hn]))) h3).1
end Go.Proofs.YtlggnmkelgplnaaGreatDoor
namespace Go.Proofs.YtlggnmkelgplnaaGreatDoor
def kG (T:Tr):Bool:=(flat T).all lF
def noR:Rel:=(0,0,[])
noncomputable def cR (p:Int) (t:List Nod) (k11:Nat) (s299:List Rel):Option (List Rel):=
   (idxO t ((k11:Nat):Int)).bind fun a315=>
   (subO ((s299.length:Nat):Int) 1).bind fun a323=>
   (some (decide (a315.1=15))).bind fun a325=>
   cond a325
   ((subO a323 1).bind fun a401=>
    (subO a323 1).bind fun a403=>
    (idxO s299 a403).bind fun a411=>
    (idxO s299 a323).bind fun a423=>
    (fB s299 0 a401).bind fun a429=>
    (rO p (a411.1,a411.2.1,a411.2.2) (a423.1,a423.2.1,a423.2.2)).bind fun y433=>
    (tA a429 [(y433.1,y433.2.1,y433.2.2)]).bind fun a445=>
    some a445)
   ((some (decide (a315.1=16))).bind fun a328=>
    cond a328
    ((subO a323 1).bind fun a350=>
     (subO a323 1).bind fun a352=>
     (idxO s299 a352).bind fun a360=>
     (idxO s299 a323).bind fun a372=>
     (fB s299 0 a350).bind fun a378=>
     (dP p (a360.1,a360.2.1,a360.2.2) (a372.1,a372.2.1,a372.2.2)).bind fun y382=>
     (tA a378 [(y382.1,y382.2.1,y382.2.2)]).bind fun a394=>
     some a394)
    ((cL p (a315.1,a315.2.1,a315.2.2)).bind fun y331=>
     (tA s299 [(y331.1,y331.2.1,y331.2.2)]).bind fun a343=>
     some a343))
theorem top2 {s:List Rel}{x y:Rel} (hs:s.length≤1000):(s++[x]++[y]).length=s.length+2∧subO (((s++[x]++[y]).length:Nat):Int) 1=some ((s.length+1:Nat):Int)∧subO ((s.length+1:Nat):Int) 1=some ((s.length:Nat):Int) ∧
  subO (((s++[x]++[y]).length:Nat):Int) 2=some ((s.length:Nat):Int)∧idxO (s++[x]++[y]) ((s.length:Nat):Int)=some x∧idxO (s++[x]++[y]) ((s.length+1:Nat):Int)=some y∧fB (s++[x]++[y]) 0 ((s.length:Nat):Int)=some s:=by
 have hlen:(s++[x]++[y]).length=s.length+2:=by simp
 refine ⟨hlen,by rw [hlen,cD (by omega) (by omega)];congr 1;omega,by rw [cD (by omega) (by omega)];congr 1;omega,by rw [hlen,cD (by omega) (by omega)];congr 1;omega,?_,?_,?_⟩
 · rw [idxO_nat,List.append_assoc,List.getElem?_append_right (Nat.le_refl _),Nat.sub_self];rfl
 · rw [idxO_nat,List.append_assoc,List.getElem?_append_right (by omega),Nat.add_sub_cancel_left];rfl
 ·
  unfold fB;rw [if_pos ⟨by omega,by omega,by rw [hlen];omega⟩,List.append_assoc]
  simp
theorem Gm_ {p:Int}{t:List Nod}{j:Nat}{n:Nod}{s:List Rel} (hf:fdB p=true) (ht:t[j]?=some n) (hn:lfB n=true) (h1:lF n=true) (h2:ovN p n=true) (hs:s.length≤1000):cR p t j s=some (s++[pH p n]):=by
 have hm:iB=1099511627776:=rfl
 have hk:=tK hn
 exact bnd (qA ht) (bnd (cD (by omega) (by omega)) (stp (cFW (dF (by omega)) (stp (cFW (dF (by omega)) (bnd (AQ_ hf hn h1 h2).2.2 (bnd (vB (by simp;omega)) rfl)))))))
theorem Gl_ {p:Int}{t:List Nod}{j:Nat}{k:Int}{s:List Rel}{x y:Rel}{u v w:Int×Int} (hf:fdB p=true) (ht:t[j]?=some (k,0,.empty)) (hk:k=15∨k=16) (hs:s.length≤1000) (hu:sF u) (hv:sF v) (hx:RelOk p u x) (hy:RelOk p v y) (h:jn k u v=some w) :
  cR p t j (s++[x]++[y])=some (s++[kI p k x y]):=by
 have hm:iB=1099511627776:=rfl
 obtain ⟨q1,q2,q3,_,q5,q6,q7⟩:=top2 (s:=s) (x:=x) (y:=y) hs
 obtain ⟨_,c1,c2⟩:=AW_ hf hu hv hx hy h
 refine bnd (qA ht) (bnd q2 ?_)
 by_cases h15:k=15
 · exact stp (cTW (dT h15) (bnd q3 (bnd q3 (bnd q5 (bnd q6 (bnd q7 (bnd (c1 h15).2 (bnd (vB (by simp;omega)) rfl))))))))
 · exact stp (cFW (dF h15) (stp (cTW (dT (by dsimp only;omega)) (bnd q3 (bnd q3 (bnd q5 (bnd q6 (bnd q7 (bnd (c2 h15).2 (bnd (vB (by simp;omega)) rfl))))))))))
theorem B9_ {σ:Type}{f:Nat→σ→Option σ}{n k:Nat}{s s':σ} (h:f k s=some s'):forS f (n+1) k s=forS f n (k+1) s':=by
 show (f k s).bind _=_
 rw [h];rfl
theorem Al_ {p:Int} (hf:fdB p=true){t:List Nod} (ht:t.length≤400):∀ {T:Tr}{w:Int×Int},wD T=some w→okT p T→∀ (pre q:List Nod) (r:List Rel),t=pre++(flat T++q)→r.length≤pre.length →
  forS (cR p t) ((flat T).length+q.length) pre.length r=forS (cR p t) q.length (pre.length+(flat T).length) (r++[eH p T])
 | .leaf n,w,h,ho,pre,q,r,e,hr=>by
  obtain ⟨h1,rfl⟩:=fK h
  have hlt:pre.length<t.length:=by rw [e];simp [flat]
  have hn:t[pre.length]?=some n:=by rw [e,List.getElem?_append_right (Nat.le_refl _),Nat.sub_self];rfl
  have h2:=ho n (by simp [flat])
  rw [show (flat (.leaf n)).length+q.length=q.length+1 by simp [flat];omega,B9_ (Gm_ hf hn h1 h2.1 h2.2 (by omega))]
  rfl
 | .node k a b,w,h,ho,pre,q,r,e,hr=>by
  obtain ⟨hk,x,y,h1,h2,h3⟩:=aJ h
  have oa:okT p a:=fun n hn=>ho n (by simp [flat,hn])
  have ob:okT p b:=fun n hn=>ho n (by simp [flat,hn])
  have hlen:(flat (.node k a b)).length=(flat a).length+(flat b).length+1:=by simp [flat];omega
  have htl:t.length=pre.length+((flat a).length+(flat b).length+1+q.length):=by rw [e,List.length_append,List.length_append,hlen]
  have ea:t=pre++(flat a++(flat b++([((k,(0:Int),ByteArray.empty):Nod)]++q))):=by rw [e];simp [flat]
  have eb:t=(pre++flat a)++(flat b++([((k,(0:Int),ByteArray.empty):Nod)]++q)):=by rw [ea];simp
  have hpa:=pF a
  have la:=Al_ hf ht h1 oa pre (flat b++([((k,(0:Int),ByteArray.empty):Nod)]++q)) r ea hr
  have lb:=Al_ hf ht h2 ob (pre++flat a) ([((k,(0:Int),ByteArray.empty):Nod)]++q) (r++[eH p a]) eb (by simp;omega)
  rw [show (pre++flat a).length=pre.length+(flat a).length from List.length_append] at lb
  rw [show (flat (.node k a b)).length+q.length=(flat a).length+(flat b++([((k,(0:Int),ByteArray.empty):Nod)]++q)).length by rw [hlen];simp;omega,la,
   show (flat b++([((k,(0:Int),ByteArray.empty):Nod)]++q)).length=(flat b).length+([((k,(0:Int),ByteArray.empty):Nod)]++q).length from List.length_append,lb]
  have hn:t[pre.length+(flat a).length+(flat b).length]?=some (k,0,.empty):=by
   rw [show t=(pre++flat a++flat b)++([((k,(0:Int),ByteArray.empty):Nod)]++q) by rw [ea];simp,List.getElem?_append_right (by simp;omega)]
   simp [Nat.add_assoc]
  have st:=Gl_ (s:=r) hf hn hk (by omega) (eI h1) (eI h2) (oK hf h1 oa) (oK hf h2 ob) h3
  rw [show ([((k,(0:Int),ByteArray.empty):Nod)]++q).length=q.length+1 by simp,B9_ st,hlen,show pre.length+((flat a).length+(flat b).length+1)=pre.length+(flat a).length+(flat b).length+1 by omega]
  rfl
theorem denote_ {p:Int} (hf:fdB p=true){T:Tr}{w:Int×Int} (h:wD T=some w) (ho:okT p T) (hl:(flat T).length≤400):qM p (flat T)=some (eH p T):=by
 have loop:=Al_ hf hl h ho [] [] [] (by simp) (by simp)
 rw [List.length_nil,Nat.add_zero,Nat.zero_add,List.nil_append] at loop
 have e:qM p (flat T)=(forS (cR p (flat T)) (flat T).length 0 []).bind fun s452=>(idxO s452 0).bind fun a461=>some (a461.1,a461.2.1,a461.2.2):=rfl
 rw [e,loop];rfl
noncomputable def pV (p:Int) (t:List Nod) (k14:Nat) (s16808:List Rel):Option (List Rel⊕(Rel×Bool)):=
    eC ((idxO t ((k14:Nat):Int)).bind fun a20937=>
     (tJ a20937.1).bind fun y20945=>
     (some (!y20945)).bind fun a20948=>
     cond a20948
     (some (.inr (.inr ((0,0,[]),false))))
     (((some (!decide (a20937.1=15))).bind fun a20963=>
       cond a20963
       ((some (!decide (a20937.1=16))).bind fun a20967=>
        some a20967)
       (some false)).bind fun (s20957:Bool)=>
      cond s20957
      ((jL p (a20937.1,a20937.2.1,a20937.2.2)).bind fun y25017=>
       (tA s16808 [(y25017.1,y25017.2.1,y25017.2.2)]).bind fun a25029=>
       some (.inl a25029))
      (((subO ((s16808.length:Nat):Int) 2).bind fun a22977=>
        (idxO s16808 a22977).bind fun a23019=>
        (subO ((s16808.length:Nat):Int) 1).bind fun a22979=>
        (idxO s16808 a22979).bind fun a23071=>
        some (a23071.1,a23071.2.1,a23071.2.2,a23019.1,a23019.2.1,a23019.2.2)).bind fun (s22966:Int×Int×List (List Int)×Int×Int×List (List Int))=>
       (subO ((s16808.length:Nat):Int) 2).bind fun a24972=>
       (fB s16808 0 a24972).bind fun a24974=>
       (some (decide (a20937.1=15))).bind fun a24978=>
       cond a24978
       ((jO p (s22966.2.2.2.1,s22966.2.2.2.2.1,s22966.2.2.2.2.2) (s22966.1,s22966.2.1,s22966.2.2.1)).bind fun y24999=>
        (tA a24974 [(y24999.1,y24999.2.1,y24999.2.2)]).bind fun a25011=>
        some (.inl a25011))
       ((pO p (s22966.2.2.2.1,s22966.2.2.2.2.1,s22966.2.2.2.2.2) (s22966.1,s22966.2.1,s22966.2.2.1)).bind fun y24981=>
        (tA a24974 [(y24981.1,y24981.2.1,y24981.2.2)]).bind fun a24993=>
        some (.inl a24993))))) fun (s20924:List (Int×Int×List (List Int)))=>
    some (.inl s20924)
theorem F5_ {p:Int}{t:List Nod}{j:Nat}{n:Nod}{s:List Rel} (hf:fdB p=true) (ht:t[j]?=some n) (hn:lfB n=true) (h2:ovN p n=true) (hs:s.length≤1000):pV p t j s=if lF n=true then some (.inl (s++[pH p n])) else some (.inr (noR,false)):=by
 have hm:iB=1099511627776:=rfl
 have hk:=tK hn
 have hT:tJ n.1=some (lF n):=gZ n.1
 cases h1:lF n with
 | false=>
  rw [h1] at hT
  exact sqW (r:=some (.inr (.inr (noR,false)))) (bnd (qA ht) (bnd hT rfl)) rfl
 | true=>
  rw [h1] at hT
  rw [if_pos rfl]
  refine sqW (r:=some (.inl (s++[pH p n]))) (bnd (qA ht) (bnd hT (stp (cFW rfl (bnd (a:=true) (stp (cTW (nF (dF (by omega))) (stp (congrArg some (nF (dF (by omega))))))) (cTW rfl (bnd (AQ_ hf hn h1 h2).2.1 (bnd (vB (by simp;omega)) rfl)))))))) rfl
theorem F4_ {p:Int}{t:List Nod}{j:Nat}{k:Int}{s:List Rel}{x y:Rel}{u v w:Int×Int} (hf:fdB p=true) (ht:t[j]?=some (k,0,.empty)) (hk:k=15∨k=16) (hs:s.length≤1000) (hu:sF u) (hv:sF v) (hx:RelOk p u x) (hy:RelOk p v y) (h:jn k u v=some w) :
  pV p t j (s++[x]++[y])=some (.inl (s++[kI p k x y])):=by
 have hm:iB=1099511627776:=rfl
 obtain ⟨q1,q2,q3,q4,q5,q6,q7⟩:=top2 (s:=s) (x:=x) (y:=y) hs
 obtain ⟨_,c1,c2⟩:=AW_ hf hu hv hx hy h
 have hT:tJ k=some true:=by rw [gZ,dT (by omega)]
 have hc:((some (!decide (k=15))).bind fun a20963=>cond a20963 ((some (!decide (k=16))).bind fun a20967=>some a20967) (some false))=some false:=by
  rcases hk with rfl | rfl <;> rfl
 refine sqW (r:=some (.inl (s++[kI p k x y]))) (bnd (qA ht) (bnd hT (stp (cFW rfl (bnd hc (cFW rfl (bnd (bnd q4 (bnd q5 (bnd q2 (bnd q6 rfl)))) (bnd q4 (bnd q7 ?_))))))))) rfl
 by_cases h15:k=15
 · exact stp (cTW (dT h15) (bnd (c1 h15).1 (bnd (vB (by simp;omega)) rfl)))
 · exact stp (cFW (dF h15) (bnd (c2 h15).1 (bnd (vB (by simp;omega)) rfl)))
def ovT (p:Int) (T:Tr):Prop:=∀ n∈flat T,ovN p n=true
theorem Gs_ (k:Int) (a b:Tr) (hk:k=15∨k=16):kG (.node k a b)=(kG a&&kG b):=by
 have:lF (k,0,.empty)=true:=dT (by dsimp only;omega)
 unfold kG
 simp [flat,List.all_append,this]
theorem DY_ {p:Int}{T:Tr} (h1:kG T=true) (h2:ovT p T):okT p T:=fun n hn=>⟨List.all_eq_true.1 h1 n hn,h2 n hn⟩
theorem jZ {p:Int} (hf:fdB p=true){t:List Nod} (ht:t.length≤400):∀ {T:Tr}{w:Int×Int},wD T=some w→ovT p T→∀ (pre q:List Nod) (r:List Rel),t=pre++(flat T++q)→r.length≤pre.length →
  lC (pV p t) ((flat T).length+q.length) pre.length r=if kG T=true then lC (pV p t) q.length (pre.length+(flat T).length) (r++[eH p T]) else some (.inr (noR,false))
 | .leaf n,w,h,ho,pre,q,r,e,hr=>by
  obtain ⟨h1,rfl⟩:=fK h
  have hlt:pre.length<t.length:=by rw [e];simp [flat]
  have hn:t[pre.length]?=some n:=by rw [e,List.getElem?_append_right (Nat.le_refl _),Nat.sub_self];rfl
  have st:=F5_ (s:=r) hf hn h1 (ho n (by simp [flat])) (by omega)
  have e1:kG (.leaf n)=lF n:=by simp [kG,flat]
  rw [e1,show (flat (.leaf n)).length+q.length=q.length+1 by simp [flat];omega]
  cases hb:lF n with
  | true=>
   rw [hb,if_pos rfl] at st
   rw [if_pos rfl,gT st];rfl
  | false=>
   rw [hb] at st
   rw [if_neg (by simp),Ca_ (st.trans (if_neg (by simp)))]
 | .node k a b,w,h,ho,pre,q,r,e,hr=>by
  obtain ⟨hk,x,y,h1,h2,h3⟩:=aJ h
  have oa:ovT p a:=fun n hn=>ho n (by simp [flat,hn])
  have ob:ovT p b:=fun n hn=>ho n (by simp [flat,hn])
  have hlen:(flat (.node k a b)).length=(flat a).length+(flat b).length+1:=by simp [flat];omega
  have htl:t.length=pre.length+((flat a).length+(flat b).length+1+q.length):=by rw [e,List.length_append,List.length_append,hlen]
  have ea:t=pre++(flat a++(flat b++([((k,(0:Int),ByteArray.empty):Nod)]++q))):=by rw [e];simp [flat]
  have eb:t=(pre++flat a)++(flat b++([((k,(0:Int),ByteArray.empty):Nod)]++q)):=by rw [ea];simp
  have hpa:=pF a
  have la:=jZ hf ht h1 oa pre (flat b++([((k,(0:Int),ByteArray.empty):Nod)]++q)) r ea hr
  rw [show (flat (.node k a b)).length+q.length=(flat a).length+(flat b++([((k,(0:Int),ByteArray.empty):Nod)]++q)).length by rw [hlen];simp;omega,la,Gs_ k a b hk]
  cases ma:kG a with
  | false=>simp
  | true=>
   have e4:∀ {α:Type} (u v:α),(if true=true then u else v)=u:=fun u v=>if_pos rfl
   have lb:=jZ hf ht h2 ob (pre++flat a) ([((k,(0:Int),ByteArray.empty):Nod)]++q) (r++[eH p a]) eb (by simp;omega)
   rw [show (pre++flat a).length=pre.length+(flat a).length from List.length_append] at lb
   rw [e4,show (flat b++([((k,(0:Int),ByteArray.empty):Nod)]++q)).length=(flat b).length+([((k,(0:Int),ByteArray.empty):Nod)]++q).length from List.length_append,lb]
   cases mb:kG b with
   | false=>simp
   | true=>
    have hn:t[pre.length+(flat a).length+(flat b).length]?=some (k,0,.empty):=by
     rw [show t=(pre++flat a++flat b)++([((k,(0:Int),ByteArray.empty):Nod)]++q) by rw [ea];simp,List.getElem?_append_right (by simp;omega)]
     simp [Nat.add_assoc]
    have st:=F4_ (s:=r) hf hn hk (by omega) (eI h1) (eI h2) (oK hf h1 (DY_ ma oa)) (oK hf h2 (DY_ mb ob)) h3
    have e5:(true&&true)=true:=rfl
    rw [e4,e5,e4,show ([((k,(0:Int),ByteArray.empty):Nod)]++q).length=q.length+1 by simp,gT st,hlen,show pre.length+((flat a).length+(flat b).length+1)=pre.length+(flat a).length+(flat b).length+1 by omega]
    rfl
def tD (p:Int) (t:List Nod):Bool:=ovB p t&&t.all lF
open Classical in
noncomputable def fD (p:Int) (t:List Nod):Rel:=if h:nC t=true then eH p (Classical.choose (kP h)) else noR
theorem AF_ {p:Int}{t:List Nod} (h:nC t=true):∃ T w,t=flat T∧wD T=some w∧t.length≤400∧fD p t=eH p T:=by
 obtain ⟨w,h1,h2,h3⟩:=Classical.choose_spec (kP h)
 exact ⟨_,w,h1,h2,h3,by unfold fD;rw [dif_pos h]⟩
theorem yZ {p:Int}{t:List Nod} (h:ovB p t=true):nC t=true∧fdB p=true∧∀ n∈t,ovN p n=true:=by
 unfold ovB at h
 simp only [Bool.and_eq_true] at h
 exact ⟨h.1,h.2.1,fun n hn=>List.all_eq_true.1 h.2.2 n hn⟩
theorem DF_ (p:Int) (t:List Nod):iS p t=some (if tD p t=true then (fD p t,true) else (noR,false)):=by
 refine bnd (An_ p t) (stp ?_)
 unfold tD
 cases ho:ovB p t with
 | false=>rfl
 | true=>
  obtain ⟨hv,hf,hn⟩:=yZ ho
  obtain ⟨T,w,rfl,h2,h3,h4⟩:=AF_ (p:=p) hv
  rw [h4]
  have loop:=jZ hf h3 h2 hn [] [] [] (by simp) (by simp)
  rw [List.length_nil,Nat.add_zero,Nat.zero_add,List.nil_append] at loop
  refine cFW rfl (sqW (r:=if kG T=true then some (.inl [eH p T]) else some (.inr (noR,false))) (loop.trans ?_) ?_)
  · cases kG T <;> rfl
  ·
   rw [Bool.true_and]
   show _=some (if kG T=true then (eH p T,true) else (noR,false))
   cases kG T <;> rfl
end Go.Proofs.YtlggnmkelgplnaaGreatDoor
namespace Go.Proofs.YtlggnmkelgplnaaGreatDoor
theorem yP (p:Int) (t:List Nod):nR t p=some (tD p t):=by
 refine bnd (AA_ p t) (stp ?_)
 unfold tD
 cases ovB p t with
 | false=>rfl
 | true=>
  refine cFW rfl (sqW (zG lF t 0 (t:=false) (fun j n hj=>?_)) ?_)
  ·
   rw [Nat.zero_add]
   have hd:zR n.1=some (!lF n):=by
    unfold zR lF
    by_cases h1:n.1=8
    · simp [h1]
    · by_cases h2:n.1=14 <;> simp [h1,h2]
   refine bnd (qA hj) (bnd hd ?_)
   cases lF n <;> rfl
  · cases t.all lF <;> rfl
theorem cT {p:Int}{t:List Nod} (h:tD p t=true):fdB p=true∧∃ l r:Nat,l≤12∧r≤12∧RlOk p l r (fD p t)∧qM p t=some (fD p t):=by
 unfold tD at h
 rw [Bool.and_eq_true] at h
 obtain ⟨hv,hf,hn⟩:=yZ h.1
 obtain ⟨T,w,rfl,h2,h3,h4⟩:=AF_ (p:=p) hv
 have ho:okT p T:=fun n hm=>⟨List.all_eq_true.1 h.2 n hm,hn n hm⟩
 have hd:=oK hf h2 ho
 obtain ⟨a1,a2,a3,a4⟩:=eI h2
 rw [h4]
 have hl:=fN hf hd.red
 exact ⟨hf,w.1.toNat,w.2.toNat,by omega,by omega,⟨hf,by rw [hd.l];omega,by rw [hd.r];omega,by omega,hd.red,hl⟩,denote_ hf h2 ho h3⟩
def twoS (p:Int) (a b:List Nod):Bool:=tD p a&&tD p b
noncomputable def oV (p:Int) (a b:List Nod):Bool:=decide ((fD p a).1=(fD p b).1)&&decide ((fD p a).2.1=(fD p b).2.1)
noncomputable def mJ (p:Int) (a b:List Nod):Bool:=tD p a&&(tD p b&&oV p a b)
theorem Gr_ (p:Int) (a b:List Nod):yW p a b=some (if twoS p a b=true then fD p a else noR,if twoS p a b=true then fD p b else noR,mJ p a b):=by
 unfold mJ oV twoS
 cases ha:tD p a with
 | false=>exact bnd (a:=true) (bnd (yP p a) (stp (by rw [ha];rfl))) rfl
 | true=>
  cases hb:tD p b with
  | false=>exact bnd (a:=true) (bnd (yP p a) (stp (by rw [ha];exact cFW rfl (bnd (yP p b) (stp (by rw [hb];rfl)))))) rfl
  | true=>
   obtain ⟨_,_,_,_,_,_,da⟩:=cT ha
   obtain ⟨_,_,_,_,_,_,db⟩:=cT hb
   refine bnd (a:=false) (bnd (yP p a) (stp (by rw [ha];exact cFW rfl (bnd (yP p b) (stp (by rw [hb];rfl)))))) (cFW rfl ?_)
   refine bnd (bnd da (bnd db rfl)) ?_
   by_cases h1:(fD p a).1=(fD p b).1
   ·
    refine bnd (stp (cTW (dT h1) rfl)) ?_
    rw [dT h1];rfl
   ·
    refine bnd (stp (cFW (dF h1) rfl)) ?_
    rw [dF h1];rfl
theorem BS_ {p:Int}{a b:List Nod} (h:mJ p a b=true):twoS p a b=true∧tD p a=true∧tD p b=true∧∃ l r:Nat,RlOk p l r (fD p a)∧RlOk p l r (fD p b):=by
 unfold mJ oV at h
 simp only [Bool.and_eq_true,decide_eq_true_eq] at h
 obtain ⟨h1,h2,h3,h4⟩:=h
 obtain ⟨_,l,r,_,_,ka,_⟩:=cT h1
 obtain ⟨_,l',r',_,_,kb,_⟩:=cT h2
 have e1:=ka.left;have e2:=ka.right;have e3:=kb.left;have e4:=kb.right
 obtain rfl:l=l':=by omega
 obtain rfl:r=r':=by omega
 exact ⟨by unfold twoS;rw [h1,h2];rfl,h1,h2,l,r,ka,kb⟩
def missL (p:Int) (n:Nat) (a b:Rel):List Int:=(b.2.2.find? (fun x=>!hasB p n a.2.2 x)).getD []
end Go.Proofs.YtlggnmkelgplnaaGreatDoor
namespace Go.Proofs.YtlggnmkelgplnaaGreatDoor
noncomputable def wdT (p:Int) (a:List Nod):Nat:=((fD p a).1+(fD p a).2.1).toNat
noncomputable def wit (p:Int) (a b:List Nod):List Int:=missL p (wdT p a) (fD p b) (fD p a)
theorem rwGood_ (p:Int) (r:Rul):sX p r=some (dI p r):=by
 refine bnd (a:=dI p r) (bnd (rwIs_ r) ?_) rfl
 unfold dI
 cases qK r with
 | false=>rfl
 | true=>
  refine cTW rfl (bnd (An_ p r.2.1) ?_)
  cases ovB p r.2.1 with
  | false=>rfl
  | true=>exact cTW rfl (bnd (An_ p r.2.2) rfl)
theorem GD_ (a b:Rows):zW a b=some (decide (a=b)):=bnd (Dj_ a b) rfl
theorem DG_ {p:Int}{t:List Nod} (h:tD p t=true):(fD p t).1=(tyT t).1∧(fD p t).2.1=(tyT t).2:=by
 unfold tD at h
 rw [Bool.and_eq_true] at h
 obtain ⟨hv,hf,hn⟩:=yZ h.1
 obtain ⟨T,w,rfl,h2,h3,h4⟩:=AF_ (p:=p) hv
 have ho:okT p T:=fun n hm=>⟨List.all_eq_true.1 h.2 n hm,hn n hm⟩
 have hd:=oK hf h2 ho
 have ht:tyT (flat T)=w:=by unfold tyT;rw [sL h2 []]
 rw [h4,ht]
 obtain ⟨a1,a2,a3,a4⟩:=eI h2
 exact ⟨by rw [hd.l],by rw [hd.r]⟩
noncomputable def uF (p:Int) (r:Rul):Bool:=dI p r&&(tD p r.2.1&&tD p r.2.2)
theorem Hc_ {p:Int}{r:Rul} (h:uF p r=true):mJ p r.2.1 r.2.2=true:=by
 unfold uF dI qK at h
 simp only [Bool.and_eq_true] at h
 obtain ⟨⟨⟨hh,_⟩,_⟩,s1,s2⟩:=h
 obtain ⟨_,_,_,t1,t2⟩:=aZ hh
 have d1:=DG_ s1
 have d2:=DG_ s2
 unfold mJ oV
 rw [s1,s2,d1.1,d1.2,d2.1,d2.2,dT t1,dT t2];rfl
theorem G4_ {p:Int}{a b:List Nod} (h:mJ p a b=true):(tD p a&&tD p b)=true:=by
 obtain ⟨_,h1,h2,_⟩:=BS_ h
 rw [h1,h2];rfl
theorem axBoth_ (p:Int) (r:Rul):∃ u v,yX p r=some (u,v,uF p r)∧(uF p r=true→u=fD p r.2.1∧v=fD p r.2.2):=by
 have hr:=rwGood_ p r
 unfold uF
 cases hw:dI p r with
 | false=>exact ⟨(0,0,[]),(0,0,[]),bnd hr (stp (by rw [hw];rfl)),fun h=>by cases h⟩
 | true=>
  refine ⟨if tD p r.2.1=true then fD p r.2.1 else noR,if tD p r.2.2=true then fD p r.2.2 else noR,?_,fun h=>?_⟩
  ·
   refine bnd hr (stp ?_)
   rw [hw]
   refine cFW rfl (bnd (DF_ p r.2.1) (bnd (DF_ p r.2.2) ?_))
   cases tD p r.2.1 <;> cases tD p r.2.2 <;> rfl
  ·
   rw [Bool.true_and,Bool.and_eq_true] at h
   rw [if_pos h.1,if_pos h.2];exact ⟨rfl,rfl⟩
theorem Hv_ (p:Int) (r:Rul):∃ u v,mX p r=some (u,v,uF p r)∧(uF p r=true→u=fD p r.2.1∧v=fD p r.2.2):=by
 cases hw:dI p r with
 | false=>exact ⟨(0,0,[]),(0,0,[]),bnd (B8_ p r) (stp (by unfold uF;rw [hw];rfl)),fun h=>by unfold uF at h;rw [hw] at h;cases h⟩
 | true=>
  have e:mJ p r.2.1 r.2.2=uF p r:=by
   cases h:uF p r with
   | true=>exact Hc_ h
   | false=>
    cases h2:mJ p r.2.1 r.2.2 with
    | false=>rfl
    | true=>unfold uF at h;rw [hw,G4_ h2] at h;cases h
  refine ⟨_,_,bnd (B8_ p r) (stp (by rw [hw];refine cFW rfl (bnd (Gr_ p _ _) ?_);rw [e])),fun h=>?_⟩
  rw [←e] at h
  obtain ⟨h0,_⟩:=BS_ h
  rw [if_pos h0,if_pos h0];exact ⟨rfl,rfl⟩
noncomputable def oS (p:Int) (r:Rul):Bool×Bool:=if uF p r=true then (decide ((fD p r.2.1).2.2=(fD p r.2.2).2.2),true) else (false,false)
theorem Bi_ (p:Int) (r:Rul):oW p r=some (oS p r):=by
 obtain ⟨u,v,h1,h2⟩:=axBoth_ p r
 refine bnd h1 ?_
 unfold oS
 cases h:uF p r with
 | false=>rfl
 | true=>
  obtain ⟨rfl,rfl⟩:=h2 h
  refine bnd (cTW rfl (bnd (Dj_ _ _) rfl)) ?_
  rfl
theorem EP_ (p:Int) (r:Rul):pW p r=some (oS p r):=by
 obtain ⟨u,v,h1,h2⟩:=Hv_ p r
 refine bnd h1 (stp ?_)
 unfold oS
 cases h:uF p r with
 | false=>rfl
 | true=>
  obtain ⟨rfl,rfl⟩:=h2 h
  exact cFW rfl (bnd (GD_ _ _) rfl)
end Go.Proofs.YtlggnmkelgplnaaGreatDoor
namespace Go.Proofs.YtlggnmkelgplnaaGreatDoor
set_option linter.unusedVariables false
abbrev bM:=Int×Int×ByteArray
def nNode (a:bM):Nat:=a.2.2.size
def zT (a:bM):Prop:=(a.2.2.size:Int)≤9223372036854775807
theorem z_Node (a:bM) (left:Int) (h0:0≤left) (h1:left≤tG) (hl:zT a):bY a left=some (if (nNode a:Int)≤left then left-nNode a else -1):=by
 unfold tG at h1
 have l0:=hl
 unfold zT at l0
 unfold nNode
 refine bnd (cD (by omega) (by omega)) (stp ?_)
 by_cases g0:(a.2.2.size:Int)≤left
 case neg=>
  rw [if_neg (by omega)]
  exact cTW (dT (by omega)) rfl
 rw [if_pos (by omega)]
 refine cFW (dF (by omega)) ?_
 congr 1;try omega
theorem FK_ {a:bM} (h:Nice.ok a):zT a:=by
 obtain ⟨h0,h1,h2⟩:=h
 exact h2
theorem t_Node (a:bM) (h:nNode a≤1048576):zX a=some a:=by
 unfold nNode at h
 exact rfl
theorem e_Node (a:bM) (h:nNode a≤1048576):dY a a=some true:=by
 unfold nNode at h
 exact stp (cFW (nT (dT rfl)) (stp (cFW (nT (dT rfl)) (stp (cFW (nT (dT rfl)) (rfl))))))
abbrev nN:=List bM
def nNodeS (a:nN):Nat:=a.length+tot nNode a
def lZ (a:nN):Prop:=lenOk a∧∀ x∈a,zT x
theorem z_NodeS (a:nN) (left:Int) (h0:0≤left) (h1:left≤tG) (hl:lZ a):jX a left=some (if (nNodeS a:Int)≤left then left-nNodeS a else -1):=by
 have hl1:=hl.1;unfold lenOk at hl1;unfold tG at h1
 unfold nNodeS
 refine bnd (cD (by omega) (by omega)) (stp ?_)
 by_cases h:(a.length:Int)≤left
 ·
  refine cFW (dF (by omega)) (sqW (Dh_ nNode a (left-a.length) ?_ ?_ a [] _ rfl ?_ (Int.le_refl _)) ?_)
  ·
   intro j r s hj hjl hs hsB
   dsimp only
   refine stp (cTW (dT (by omega)) (bnd (qA hj) (bnd (z_Node r s hs (by unfold tG;omega) (hl.2 r (aD hj))) (stp ?_))))
   by_cases h2:(nNode r:Int)≤s
   · rw [if_pos h2,if_pos h2];exact cFW (dF (by omega)) (bnd (qB (by omega) (by omega)) rfl)
   · rw [if_neg h2,if_neg h2];exact cTW (dT (by omega)) rfl
  · intro s;dsimp only;exact stp (cFW (dF (by omega)) rfl)
  · omega
  ·
   by_cases h2:(tot nNode a:Int)≤left-a.length
   · rw [if_pos h2,if_pos (by omega),fI];congr 1;omega
   · rw [if_neg h2,if_neg (by omega),AO_]
 · rw [if_neg (by omega)];exact cTW (dT (by omega)) rfl
theorem Fm_ {a:nN} (h:Nice.ok a):lZ a:=⟨h.1,fun x hx=>FK_ (h.2 x hx)⟩
theorem t_NodeS (a:nN) (h:nNodeS a≤1048576):iX a=some a:=by
 have hm:iB=1099511627776:=rfl
 unfold nNodeS at h
 refine bnd (bI _ (by omega)) (bnd (Dd_ _ a ?_ ?_ a [] rfl) rfl)
 ·
  intro j x s hj hjl hs
  dsimp only
  exact stp (cTW (dT (by omega)) (bnd (qA hj) (bnd (t_Node x (by have:=Db_ (n:=nNode) (aD hj);omega)) (bnd (oD _ (by omega)) (bnd (qB (by omega) (by omega)) rfl)))))
 · intro s hs;dsimp only;exact stp (cFW (dF (by omega)) rfl)
theorem e_NodeS (a:nN) (h:nNodeS a≤1048576):kX a a=some true:=by
 unfold nNodeS at h
 refine stp (cFW (nT (dT rfl)) (sqW (yM (fun j=>(j:Int)) (t:=.inl ()) a.length ?_ ?_) ?_))
 ·
  intro j hj
  exact stp (cTW (dT (by omega)) (bnd (qA (List.getElem?_eq_getElem hj)) (bnd (qA (List.getElem?_eq_getElem hj)) (bnd (e_Node a[j] (by have:=Db_ (n:=nNode) (List.getElem_mem hj);omega)) (stp (cFW rfl (bnd (qB (by omega) (by omega)) rfl)))))))
 · exact stp (cFW (dF (by omega)) rfl)
 · rfl
abbrev vN:=List (Int×Int×ByteArray)
def nTerm (a:vN):Nat:=nNodeS a
def iQ (a:vN):Prop:=lZ a
theorem DM_ (a:vN) (left:Int) (h0:0≤left) (h1:left≤tG) (hl:iQ a):kS a left=some (if (nTerm a:Int)≤left then left-nTerm a else -1):=by
 unfold tG at h1
 have l0:=hl
 unfold iQ at l0
 unfold nTerm
 refine bnd (z_NodeS a (left) (by omega) (by unfold tG;omega) l0) (stp ?_)
 by_cases g0:(nNodeS a:Int)≤left
 case neg=>
  rw [if_neg g0];try rw [if_neg (by omega)]
  exact cTW (dT (by omega)) rfl
 rw [if_pos g0]
 try rw [if_pos (by omega)]
 refine cFW (dF (by omega)) ?_
 congr 1;try omega
theorem BN_ {a:vN} (h:Nice.ok a):iQ a:=by
 have h0:=h
 exact Fm_ h0
theorem DR_ (a:vN) (h:nTerm a≤1048576):jS a=some a:=by
 unfold nTerm at h
 exact bnd (t_NodeS a (by omega)) (rfl)
theorem Eb_ (a:vN) (h:nTerm a≤1048576):lS a a=some true:=by
 unfold nTerm at h
 exact bnd (e_NodeS a (by omega)) (stp (cFW rfl (rfl)))
end Go.Proofs.YtlggnmkelgplnaaGreatDoor
namespace Go.Proofs.YtlggnmkelgplnaaGreatDoor
set_option linter.unusedVariables false
abbrev aM:=ByteArray×(List (Int×Int×ByteArray))×(List (Int×Int×ByteArray))
def nRule (a:aM):Nat:=a.1.size+nTerm a.2.1+nTerm a.2.2
def CM_ (a:aM):Prop:=(a.1.size:Int)≤9223372036854775807∧iQ a.2.1∧iQ a.2.2
theorem z_Rule (a:aM) (left:Int) (h0:0≤left) (h1:left≤tG) (hl:CM_ a):aY a left=some (if (nRule a:Int)≤left then left-nRule a else -1):=by
 unfold tG at h1
 obtain ⟨l0,l1,l2⟩:=hl
 unfold nRule
 refine bnd (cD (by omega) (by omega)) (stp ?_)
 by_cases g0:(a.1.size:Int)≤left
 case neg=>
  rw [if_neg (by omega)]
  exact cTW (dT (by omega)) rfl
 refine cFW (dF (by omega)) ?_
 refine bnd (DM_ a.2.1 (left-a.1.size) (by omega) (by unfold tG;omega) l1) (stp ?_)
 by_cases g1:(nTerm a.2.1:Int)≤left-a.1.size
 case neg=>
  rw [if_neg g1];try rw [if_neg (by omega)]
  exact cTW (dT (by omega)) rfl
 rw [if_pos g1]
 refine cFW (dF (by omega)) ?_
 refine bnd (DM_ a.2.2 (left-a.1.size-nTerm a.2.1) (by omega) (by unfold tG;omega) l2) (stp ?_)
 by_cases g2:(nTerm a.2.2:Int)≤left-a.1.size-nTerm a.2.1
 case neg=>
  rw [if_neg g2];try rw [if_neg (by omega)]
  exact cTW (dT (by omega)) rfl
 rw [if_pos g2]
 try rw [if_pos (by omega)]
 refine cFW (dF (by omega)) ?_
 congr 1;try omega
theorem FJ_ {a:aM} (h:Nice.ok a):CM_ a:=by
 obtain ⟨h0,h1,h2⟩:=h
 exact ⟨h0,BN_ h1,BN_ h2⟩
theorem aV (a:aM) (h:nRule a≤1048576):cP a=some a:=by
 unfold nRule at h
 exact bnd (DR_ a.2.1 (by omega)) (bnd (DR_ a.2.2 (by omega)) (rfl))
theorem e_Rule (a:aM) (h:nRule a≤1048576):cY a a=some true:=by
 unfold nRule at h
 exact stp (cFW (nT (dT rfl)) (bnd (Eb_ a.2.1 (by omega)) (stp (cFW rfl (bnd (Eb_ a.2.2 (by omega)) (stp (cFW rfl (rfl))))))))
end Go.Proofs.YtlggnmkelgplnaaGreatDoor
namespace Go.Proofs.YtlggnmkelgplnaaGreatDoor
set_option linter.unusedVariables false
theorem EA_ (a0:Int) (a1:aM) (i0:Nice.ok a0) (i1:Nice.ok a1):A1_ a0 a1=some true:=by
 have hbig:tG=4611686018427387904:=rfl
 refine bnd (z_Rule a1 1048576 (by omega) (by rw [hbig];omega) (FJ_ i1)) (stp ?_)
 by_cases gaR:(nRule a1:Int)≤1048576
 case neg=>rw [if_neg gaR];exact cTW (dT (by omega)) rfl
 rw [if_pos gaR]
 refine cFW (dF (by omega)) ?_
 have haR:nRule a1≤1048576:=by omega
 first
 | refine bnd (aV a1 haR) (bnd (Bi_ a0 a1) ?_)
 | refine bnd (bnd (aV a1 haR) (bnd (Bi_ a0 a1) rfl)) ?_
 refine bnd (aV a1 haR) ?_
 refine bnd (EP_ a0 a1) ?_
 refine bnd (a:=false) (stp (cFW (nT (dT rfl)) (stp (congrArg some (nT (dT rfl)))))) (cFW rfl ?_)
 refine bnd (aV _ haR) (bnd (e_Rule _ haR) (stp (cFW rfl ?_)))
 rfl
end Go.Proofs.YtlggnmkelgplnaaGreatDoor
