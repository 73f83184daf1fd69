/-
  Plain laws: terms as trees; what a valid term is (the reference's test and the program's). No program in sight. No condition.
-/
import Derived.Test.YtlggnmkelgplnaaGreatDoorZText
import Derived.Test.YtlggnmkelgplnaaGreatDoorZP22
namespace Go.Proofs.YtlggnmkelgplnaaGreatDoor
abbrev Nod:=Int×Int×ByteArray
inductive Tr where
 | leaf (n:Nod)
 | node (k:Int) (a b:Tr)
def flat:Tr→List Nod
 | .leaf n=>[n]
 | .node k a b=>flat a++flat b++[(k,0,.empty)]
theorem pF:∀ T:Tr,0<(flat T).length
 | .leaf _=>by simp [flat]
 | .node _ _ _=>by simp [flat];omega
def lfB (n:Nod):Bool:=decide (n.2.2=.empty)&&(rng n.1 1 14&&(if n.1=1 then rng n.2.1 0 12 else if n.1=7∨n.1=13 then rng n.2.1 0 96 else decide (n.2.1=0)))
def lfT (n:Nod):Int×Int:=if n.1=1 then (n.2.1,n.2.1) else kd n.1
def jn (k:Int) (x y:Int×Int):Option (Int×Int):=if k=15 then (if x.2=y.1 then some (x.1,y.2) else none) else if x.1+y.1≤12∧x.2+y.2≤12 then some (x.1+y.1,x.2+y.2) else none
abbrev Stk:=List (Tr×(Int×Int))
def oC (S:Stk) (n:Nod):Option Stk:=
 if n.1=15∨n.1=16 then
  if n.2.1=0∧n.2.2=.empty then match S with
   | (b,y)::(a,x)::S'=>(jn n.1 x y).map fun w=>(.node n.1 a b,w)::S'
   | _=>none
  else none
 else if lfB n=true then some ((.leaf n,lfT n)::S) else none
def xC:List Nod→Stk→Option Stk
 | [],S=>some S
 | n::t,S=>(oC S n).bind fun S'=>xC t S'
theorem runT_app:∀ (a b:List Nod) (S:Stk),xC (a++b) S=(xC a S).bind fun S'=>xC b S'
 | [],b,S=>rfl
 | n::a,b,S=>by
  show (oC S n).bind _=((oC S n).bind _).bind _
  cases oC S n with
  | none=>rfl
  | some S'=>exact runT_app a b S'
theorem Cj_ {t:List Nod}{j:Nat} (hj:j<t.length){S:Stk} (h:xC (t.take j) []=some S):xC (t.take (j+1)) []=oC S t[j]:=by
 rw [List.take_add_one,List.getElem?_eq_getElem hj,runT_app,h]
 show (oC S t[j]).bind _=_
 cases oC S t[j] <;> rfl
theorem Ck_ {t:List Nod}{j:Nat} (h:xC (t.take j) []=none):xC t []=none:=by
 have:t=t.take j++t.drop j:=(List.take_append_drop _ _).symm
 rw [this,runT_app,h];rfl
def nC (t:List Nod):Bool:=rng t.length 1 400&&(match xC t [] with | some [_]=>true | _=>false)
def sF (w:Int×Int):Prop:=0≤w.1∧w.1≤12∧0≤w.2∧w.2≤12
theorem D0_ {n:Nod} (h:lfB n=true):sF (lfT n):=by
 unfold lfB at h
 simp only [Bool.and_eq_true,decide_eq_true_eq] at h
 unfold lfT
 by_cases h1:n.1=1
 ·
  rw [if_pos h1]
  rw [if_pos h1] at h
  have:=rng_true.1 h.2.2
  exact ⟨this.1,this.2,this.1,this.2⟩
 ·
  rw [if_neg h1]
  have:=kd_le n.1
  exact ⟨by omega,by omega,by omega,by omega⟩
theorem jn_ok {k:Int}{x y w:Int×Int} (hx:sF x) (hy:sF y) (h:jn k x y=some w):sF w:=by
 obtain ⟨a1,a2,a3,a4⟩:=hx
 obtain ⟨b1,b2,b3,b4⟩:=hy
 unfold jn at h
 split at h
 ·
  split at h
  · obtain rfl:=Option.some.inj h;exact ⟨a1,a2,b3,b4⟩
  · cases h
 ·
  split at h
  ·
   obtain rfl:=Option.some.inj h
   exact ⟨by dsimp only;omega,by dsimp only;omega,by dsimp only;omega,by dsimp only;omega⟩
  · cases h
def yQ (S:Stk):Prop:=∀ p∈S,sF p.2
theorem G9_ {S S':Stk}{n:Nod} (hS:yQ S) (h:oC S n=some S'):yQ S':=by
 unfold oC at h
 split at h
 ·
  split at h
  ·
   split at h
   ·
    rename_i b y a x S0
    obtain ⟨w,hw,rfl⟩:=Option.map_eq_some_iff.1 h
    intro p hp
    rcases List.mem_cons.1 hp with rfl | hp
    · exact jn_ok (hS (a,x) (by simp)) (hS (b,y) (by simp)) hw
    · exact hS p (by simp [hp])
   · cases h
  · cases h
 ·
  split at h
  ·
   obtain rfl:=Option.some.inj h
   intro p hp
   rcases List.mem_cons.1 hp with rfl | hp
   · exact D0_ ‹_›
   · exact hS p hp
  · cases h
theorem Aq_:∀ (t:List Nod) (S S':Stk),yQ S→xC t S=some S'→yQ S'
 | [],S,S',hS,h=>by obtain rfl:=Option.some.inj h;exact hS
 | n::t,S,S',hS,h=>by
  obtain ⟨S1,h1,h2⟩:=aA h
  exact Aq_ t S1 S' (G9_ hS h1) h2
def wK (S:Stk):List Nod:=(S.reverse.map fun p=>flat p.1).flatten
theorem F1_ {S S':Stk}{n:Nod} (h:oC S n=some S'):wK S'=wK S++[n]:=by
 unfold oC at h
 split at h
 ·
  split at h
  ·
   rename_i h0
   split at h
   ·
    rename_i b y a x S0
    obtain ⟨w,hw,rfl⟩:=Option.map_eq_some_iff.1 h
    unfold wK
    obtain ⟨k,v,s⟩:=n
    obtain ⟨rfl,rfl⟩:=h0
    simp [flat,List.append_assoc]
   · cases h
  · cases h
 ·
  split at h
  ·
   obtain rfl:=Option.some.inj h
   unfold wK
   simp [flat]
  · cases h
theorem kZ:∀ (t:List Nod) (S S':Stk),xC t S=some S'→wK S'=wK S++t
 | [],S,S',h=>by obtain rfl:=Option.some.inj h;simp
 | n::t,S,S',h=>by
  obtain ⟨S1,h1,h2⟩:=aA h
  rw [kZ t S1 S' h2,F1_ h1,List.append_assoc];rfl
theorem iU (n:Nod):uG n=some (lfB n):=by
 obtain ⟨k,v,s⟩:=n
 unfold uG lfB
 by_cases hs:s=.empty
 case neg=>simp [hs]
 cases hr:rng k 1 14 with
 | false=>simp [hs,l1In,hr]
 | true=>
  by_cases h1:k=1
  · subst h1;simp [hs,l1In,hr]
  by_cases h7:k=7
  · subst h7;simp [hs,l1In,hr]
  by_cases h13:k=13
  · subst h13;simp [hs,l1In,hr]
  simp [hs,l1In,hr,h1,h7,h13]
theorem CC_ (n:Nod):sO n=some (lfT n):=by
 obtain ⟨k,v,s⟩:=n
 unfold sO lfT
 by_cases h1:k=1
 · simp [h1]
 · simp [h1,tmKind_]
theorem Ga_ (n:Nod):∃ w,pI n=some (w,lfB n)∧(lfB n=true→w=lfT n):=by
 obtain ⟨k,v,s⟩:=n
 by_cases hs:s=.empty
 case neg=>
  refine ⟨(0,0),?_,fun h=>?_⟩
  · unfold pI lfB;simp [hs]
  · unfold lfB at h;simp [hs] at h
 by_cases h1:k=1
 ·
  subst h1
  refine ⟨(v,v),?_,fun _=>rfl⟩
  have hr:rng 1 1 14=true:=by decide
  unfold pI lfB;simp [hs,within_,hr]
 by_cases h2:k=2
 ·
  subst h2
  refine ⟨(2,2),?_,fun _=>rfl⟩
  have hr:rng 2 1 14=true:=by decide
  unfold pI lfB;simp [hs,hr]
 cases hg:rng k 3 14 with
 | false=>
  have hr:rng k 1 14=false:=by
   cases hr:rng k 1 14 with
   | false=>rfl
   | true=>
    have:=rng_true.1 hr
    have:rng k 3 14=true:=rng_true.2 (by omega)
    rw [this] at hg;cases hg
  refine ⟨(0,0),?_,fun h=>?_⟩
  · unfold pI lfB iM;simp [hs,h1,h2,within_,hg,hr]
  · unfold lfB at h;simp [hr] at h
 | true=>
  have hb:=rng_true.1 hg
  have hr:rng k 1 14=true:=rng_true.2 (by omega)
  refine ⟨kd k,?_,fun _=>by unfold lfT;rw [if_neg h1]⟩
  have hgen:xF k v=(if k=7∨k=13 then rng v 0 96 else decide (v=0)):=by unfold xF;rw [hg,Bool.true_and]
  unfold pI lfB iM
  simp only [hs,h1,h2,within_,hg,hr,nO hg,qW hg,hgen,decide_true,decide_false,Bool.not_true,cond_false,cond_true,Option.bind_some,Bool.true_and,if_false]
theorem Gd_ {k:Int}{x y:Int×Int} (hx:sF x) (hy:sF y):∃ w,fL k x y=some (w,(jn k x y).isSome)∧∀ z,jn k x y=some z→w=z:=by
 obtain ⟨x1,x2⟩:=x
 obtain ⟨y1,y2⟩:=y
 obtain ⟨a1,a2,a3,a4⟩:=hx
 obtain ⟨b1,b2,b3,b4⟩:=hy
 dsimp only at a1 a2 a3 a4 b1 b2 b3 b4
 by_cases hk:k=15
 ·
  refine ⟨(x1,y2),?_,fun z hz=>?_⟩
  ·
   unfold fL jn
   by_cases h:x2=y1
   · simp [hk,h]
   · simp [hk,h]
  ·
   unfold jn at hz
   rw [if_pos hk] at hz
   split at hz
   · exact Option.some.inj hz
   · cases hz
 ·
  refine ⟨(x1+y1,x2+y2),?_,fun z hz=>?_⟩
  ·
   have s1:sA x1 y1=some (x1+y1):=qB (by omega) (by omega)
   have s2:sA x2 y2=some (x2+y2):=qB (by omega) (by omega)
   unfold fL jn tW
   by_cases h1:x1+y1≤12
   ·
    by_cases h2:x2+y2≤12
    · simp [hk,s1,s2,h1,h2]
    · simp [hk,s1,s2,h1,h2]
   · simp [hk,s1,s2,h1]
  ·
   unfold jn at hz
   rw [if_neg hk] at hz
   split at hz
   · exact Option.some.inj hz
   · cases hz
def uD (S:Stk):List (Int×Int):=(S.map fun p=>p.2).reverse
def tyT (t:List Nod):Int×Int:=match xC t [] with | some [(_,w)]=>w | _=>(0,0)
theorem DN_ (t:List Nod):∃ w,gW t=some (w,nC t)∧(nC t=true→w=tyT t):=by
 have hm:iB=1099511627776:=rfl
 cases hr:rng t.length 1 400 with
 | false=>
  have hv:nC t=false:=by unfold nC;rw [hr];rfl
  refine ⟨(0,0),bnd (within_ _ _ _) (stp ?_),fun h=>by rw [hv] at h;cases h⟩
  rw [hv,hr];rfl
 | true=>
  have hl:=rng_true.1 hr
  have loop:=dU (n:=t.length) (s:=([]:List (Int×Int))) (f:=fun (k14:Nat) (s884:List (Int×Int))=>
    eC ((idxO t ((k14:Nat):Int)).bind fun a1117=>
     ((some (!decide (a1117.1=15))).bind fun a1137=>
      cond a1137
      ((some (!decide (a1117.1=16))).bind fun a1141=>
       some a1141)
      (some false)).bind fun (s1131:Bool)=>
     cond s1131
     ((pI (a1117.1,a1117.2.1,a1117.2.2)).bind fun y1302=>
      (some (!y1302.2)).bind fun a1309=>
      cond a1309
      (some (.inr (.inr ((0,0),false))))
      ((tA s884 [(y1302.1.1,y1302.1.2)]).bind fun a1318=>
       some (.inl a1318)))
     (((some (!decide (a1117.2.1=0))).bind fun a1162=>
       cond a1162
       (some true)
       ((some (!decide ((a1117.2.2:ByteArray)=.empty))).bind fun a1165=>
        cond a1165
        (some true)
        ((some (decide (((s884.length:Nat):Int)<2))).bind fun a1168=>
         some a1168))).bind fun (s1156:Bool)=>
      cond s1156
      (some (.inr (.inr ((0,0),false))))
      ((subO ((s884.length:Nat):Int) 1).bind fun a1175=>
       ((subO a1175 1).bind fun a1228=>
        (idxO s884 a1228).bind fun a1236=>
        (idxO s884 a1175).bind fun a1245=>
        (fL a1117.1 (a1236.1,a1236.2) (a1245.1,a1245.2)).bind fun y1255=>
        some (y1255.1.1,y1255.1.2,y1255.2)).bind fun (s1220:Int×Int×Bool)=>
       (some (!s1220.2.2)).bind fun a1272=>
       cond a1272
       (some (.inr (.inr ((0,0),false))))
       ((subO a1175 1).bind fun a1276=>
        (fB s884 0 a1276).bind fun a1278=>
        (tA a1278 [(s1220.1,s1220.2.1)]).bind fun a1288=>
        some (.inl a1288))))) fun (s1104:List (Int×Int))=>
    some (.inl s1104)) (fun j s=>∃ S,xC (t.take j) []=some S∧s=uD S∧S.length≤j) (fun r=>r=(((0:Int),(0:Int)),false)∧xC t []=none) ⟨[],rfl,rfl,Nat.le_refl _⟩ (by
   rintro j s hj ⟨S,h1,rfl,h3⟩
   have hS:=Aq_ _ _ _ (fun p hp=>by cases hp) h1
   have hstep:=Cj_ hj h1
   have hlen:(uD S).length=S.length:=by unfold uD;simp
   have bad:oC S t[j]=none→xC t []=none:=fun hn=>Ck_ (hstep.trans hn)
   have hi:=qA (List.getElem?_eq_getElem hj)
   generalize t[j]=n at hstep bad hi
   obtain ⟨k,v,u⟩:=n
   by_cases hk:k=15∨k=16
   ·
    have hc:((some (!decide (k=15))).bind fun a1137=>cond a1137 ((some (!decide (k=16))).bind fun a1141=>some a1141) (some false))=some false:=by
     rcases hk with rfl | rfl <;> rfl
    have hst:oC S (k,v,u)=if v=0∧u=.empty then (match S with
      | (b,y)::(a,x)::S'=>(jn k x y).map fun w=>(.node k a b,w)::S'
      | _=>none) else none:=by unfold oC;rw [if_pos hk]
    by_cases hv:v=0
    case neg=>
     have hn:oC S (k,v,u)=none:=by rw [hst,if_neg (fun h=>hv h.1)]
     exact .inr ⟨_,sqW (bnd hi (bnd hc (cFW rfl (bnd (a:=true) (stp (cTW (nF (dF hv)) rfl)) rfl)))) rfl,rfl,bad hn⟩
    by_cases hu:u=.empty
    case neg=>
     have hn:oC S (k,v,u)=none:=by rw [hst,if_neg (fun h=>hu h.2)]
     exact .inr ⟨_,sqW (bnd hi (bnd hc (cFW rfl (bnd (a:=true) (stp (cFW (nT (dT hv)) (stp (cTW (nF (dF hu)) rfl)))) rfl)))) rfl,rfl,bad hn⟩
    rw [if_pos ⟨hv,hu⟩] at hst
    by_cases h2:S.length<2
    ·
     have hn:oC S (k,v,u)=none:=by
      rw [hst]
      match S,h2 with
      | [],_=>rfl
      | [p],_=>rfl
     refine .inr ⟨_,sqW (bnd hi (bnd hc (cFW rfl (bnd (a:=true) (stp (cFW (nT (dT hv)) (stp (cFW (nT (dT hu)) (stp (congrArg some (dT ?_))))))) rfl)))) rfl,rfl,bad hn⟩
     rw [hlen];omega
    ·
     obtain ⟨b,y,a,x,S',rfl⟩:∃ b y a x S',S=(b,y)::(a,x)::S':=by
      match S,h2 with
      | (b,y)::(a,x)::S',_=>exact ⟨_,_,_,_,_,rfl⟩
      | [p],h2=>exact (h2 (by simp)).elim
      | [],h2=>exact (h2 (by simp)).elim
     have h3':S'.length+2≤j:=by simpa using h3
     have hlen':(uD ((b,y)::(a,x)::S')).length=S'.length+2:=by simpa using hlen
     have hx:=hS (a,x) (by simp)
     have hy:=hS (b,y) (by simp)
     obtain ⟨w,w1,w2⟩:=Gd_ (k:=k) hx hy
     have e0:uD ((b,y)::(a,x)::S')=uD S'++[x]++[y]:=by unfold uD;simp
     have l0:(uD S').length=S'.length:=by unfold uD;simp
     have i1:idxO (uD ((b,y)::(a,x)::S')) ((S'.length:Nat):Int)=some x:=by
      rw [e0,idxO_nat,← l0,List.append_assoc,List.getElem?_append_right (Nat.le_refl _),Nat.sub_self];rfl
     have i2:idxO (uD ((b,y)::(a,x)::S')) (((S'.length+1:Nat)):Int)=some y:=by
      rw [e0,idxO_nat,← l0,List.append_assoc,List.getElem?_append_right (by omega),Nat.add_sub_cancel_left];rfl
     have s1:subO (((uD ((b,y)::(a,x)::S')).length:Nat):Int) 1=some ((S'.length+1:Nat):Int):=by
      rw [hlen',cD (by omega) (by omega)];congr 1;omega
     have s2:subO ((S'.length+1:Nat):Int) 1=some ((S'.length:Nat):Int):=by
      rw [cD (by omega) (by omega)];congr 1;omega
     have sl:fB (uD ((b,y)::(a,x)::S')) 0 ((S'.length:Nat):Int)=some (uD S'):=by
      unfold fB;rw [if_pos ⟨by omega,by omega,by rw [hlen'];omega⟩,e0]
      simp [←l0,List.append_assoc]
     have hpre:∀ {α:Type} {r:Option α} {K:Bool→Option α},K false=r→(((some (!decide (v=0))).bind fun a1162=>
      cond a1162
      (some true)
      ((some (!decide ((u:ByteArray)=.empty))).bind fun a1165=>
       cond a1165
       (some true)
       ((some (decide ((((uD ((b,y)::(a,x)::S')).length:Nat):Int)<2))).bind fun a1168=>
        some a1168))).bind K)=r:=fun h=>bnd (a:=false) (stp (cFW (nT (dT hv)) (stp (cFW (nT (dT hu)) (stp (congrArg some (dF (by rw [hlen'];omega)))))))) h
     have hj2:∀ {α:Type} {r:Option α} {K:Int×Int×Bool→Option α},K (w.1,w.2,(jn k x y).isSome)=r→(((subO ((S'.length+1:Nat):Int) 1).bind fun a1228=>
       (idxO (uD ((b,y)::(a,x)::S')) a1228).bind fun a1236=>
       (idxO (uD ((b,y)::(a,x)::S')) ((S'.length+1:Nat):Int)).bind fun a1245=>
       (fL k (a1236.1,a1236.2) (a1245.1,a1245.2)).bind fun y1255=>
       some (y1255.1.1,y1255.1.2,y1255.2)).bind K)=r:=fun h=>bnd (bnd s2 (bnd i1 (bnd i2 (bnd w1 rfl)))) h
     cases hjn:jn k x y with
     | none=>
      rw [hjn] at hj2
      have hn:oC ((b,y)::(a,x)::S') (k,v,u)=none:=by rw [hst];simp only [hjn,Option.map_none]
      exact .inr ⟨_,sqW (bnd hi (bnd hc (cFW rfl (hpre (cFW rfl (bnd s1 (hj2 rfl))))))) rfl,rfl,bad hn⟩
     | some z=>
      rw [hjn] at hj2
      have hz:=w2 z hjn
      subst hz
      have hn:oC ((b,y)::(a,x)::S') (k,v,u)=some ((.node k a b,w)::S'):=by rw [hst];simp only [hjn,Option.map_some]
      refine .inl ⟨uD S'++[w],sqW (bnd hi (bnd hc (cFW rfl (hpre (cFW rfl (bnd s1 (hj2 (stp (cFW rfl (bnd s2 (bnd sl (bnd (vB ?_) rfl))))))))))) ) rfl,(.node k a b,w)::S',by rw [hstep,hn],by unfold uD;simp,by simp;omega⟩
      rw [l0];simp;omega
   ·
    have hc:((some (!decide (k=15))).bind fun a1137=>cond a1137 ((some (!decide (k=16))).bind fun a1141=>some a1141) (some false))=some true:=by
     simp only [not_or] at hk
     simp [hk.1,hk.2]
    obtain ⟨w,w1,w2⟩:=Ga_ (k,v,u)
    cases hb:lfB (k,v,u) with
    | false=>
     rw [hb] at w1
     have hn:oC S (k,v,u)=none:=by unfold oC;rw [if_neg hk,if_neg (by rw [hb];simp)]
     exact .inr ⟨_,sqW (bnd hi (bnd hc (cTW rfl (bnd w1 rfl)))) rfl,rfl,bad hn⟩
    | true=>
     rw [hb] at w1
     have hn:oC S (k,v,u)=some ((.leaf (k,v,u),lfT (k,v,u))::S):=by unfold oC;rw [if_neg hk,if_pos hb]
     refine .inl ⟨uD S++[w],sqW (bnd hi (bnd hc (cTW rfl (bnd w1 (stp (cFW rfl (bnd (vB ?_) rfl))))))) rfl,_,by rw [hstep,hn],by rw [w2 hb];unfold uD;simp,by simp;omega⟩
     rw [hlen];simp;omega)
  rcases loop with ⟨s,h1,S,h2,rfl,h4⟩ | ⟨r,h1,rfl,h2⟩
  ·
   rw [List.take_length] at h2
   have hlen:(uD S).length=S.length:=by unfold uD;simp
   have hne:S≠[]:=by
    rintro rfl
    have:=kZ _ _ _ h2
    unfold wK at this
    simp at this
    rw [this] at hl;simp at hl
   cases hS:uD S with
   | nil=>rw [hS] at hlen;exact (hne (List.eq_nil_of_length_eq_zero hlen.symm)).elim
   | cons w ws=>
    have hty:nC t=true→w=tyT t:=fun hv=>by
     unfold nC at hv
     unfold tyT
     rw [hr,h2] at hv
     rw [h2]
     match S,hS,hv with
     | [(T,w')],hS,_=>exact (List.cons.inj hS).1.symm
    refine ⟨w,bnd (within_ _ _ _) (stp ?_),hty⟩
    rw [hr]
    refine cFW rfl (sqW h1 ?_)
    rw [fI,hS]
    refine bnd (a:=w) rfl (stp (congrArg some (Prod.ext rfl ?_)))
    unfold nC
    rw [hr,h2]
    rw [←hS,hlen]
    match S with
    | []=>exact (hne rfl).elim
    | [p]=>simp
    | p::q::S=>simp;omega
  ·
   have hv:nC t=false:=by unfold nC;rw [h2,hr];rfl
   refine ⟨(0,0),bnd (within_ _ _ _) (stp ?_),fun h=>by rw [hv] at h;cases h⟩
   rw [hr]
   refine cFW rfl (sqW h1 ?_)
   rw [AO_,hv]
theorem CS_ (t:List Nod):lW t=some (nC t):=by
 obtain ⟨w,h,_⟩:=DN_ t
 exact bnd (bnd h rfl) rfl
def ScR (x:List Int×List Int×List Int):Nat→Stk→Prop
 | i,[]=>i=0
 | i,(T,w)::S=>(flat T).length≤i∧x.1[i-1]?=some ((i-(flat T).length:Nat):Int)∧x.2.1[i-1]?=some w.1∧x.2.2[i-1]?=some w.2∧ScR x (i-(flat T).length) S
theorem ScR.mono {x x':List Int×List Int×List Int}:∀ {S:Stk}{i:Nat},ScR x i S→(∀ k,k<i→x'.1[k]?=x.1[k]?∧x'.2.1[k]?=x.2.1[k]?∧x'.2.2[k]?=x.2.2[k]?)→ScR x' i S
 | [],_,h,_=>h
 | (T,w)::S,i,⟨h1,h2,h3,h4,h5⟩,h=>by
  have hp:=pF T
  obtain ⟨k1,k2,k3⟩:=h (i-1) (by omega)
  exact ⟨h1,k1.trans h2,k2.trans h3,k3.trans h4,h5.mono (fun k hk=>h k (by omega))⟩
theorem dN {l:List Int}{i:Nat} (hl:l.length=i) (a:Int):(∀ k,k<i→(l++[a])[k]?=l[k]?)∧(l++[a])[i]?=some a:=
 ⟨fun k hk=>List.getElem?_append_left (by omega),by rw [List.getElem?_append_right (by omega),hl,Nat.sub_self];rfl⟩
theorem ScR.push {x:List Int×List Int×List Int}{S:Stk}{i:Nat}{T:Tr}{w:Int×Int} (l1:x.1.length=i) (l2:x.2.1.length=i) (l3:x.2.2.length=i) (hT:(flat T).length≤i+1) (h:ScR x (i+1-(flat T).length) S) :
  ScR (x.1++[((i+1-(flat T).length:Nat):Int)],x.2.1++[w.1],x.2.2++[w.2]) (i+1) ((T,w)::S):=by
 have hp:=pF T
 have g1:=dN l1 ((i+1-(flat T).length:Nat):Int)
 have g2:=dN l2 w.1
 have g3:=dN l3 w.2
 refine ⟨hT,?_,?_,?_,h.mono (fun k hk=>⟨g1.1 k (by omega),g2.1 k (by omega),g3.1 k (by omega)⟩)⟩
 · rw [Nat.add_sub_cancel];exact g1.2
 · rw [Nat.add_sub_cancel];exact g2.2
 · rw [Nat.add_sub_cancel];exact g3.2
theorem C9_ {a b:Int} (h1:0≤a) (h2:a≤12) (h3:0≤b) (h4:b≤12):sA a b=some (a+b):=qB (by omega) (by omega)
theorem Gc_ (s:ByteArray):eS [] s=some (-1):=rfl
theorem Az_ (t:List Nod):∃ x,dS [] t=some (x,nC t)∧(∀ S,xC t []=some S→rng t.length 1 400=true→x.1.length=t.length∧ScR x t.length S ∧
  ∀ S0 (p q:List Nod),t=p++q→xC p []=some S0→ScR x p.length S0):=by
 have hm:iB=1099511627776:=rfl
 cases hr:rng t.length 1 400 with
 | false=>
  refine ⟨([],[],[]),bnd (l1In _ _ _) (stp ?_),fun _ _ h=>by cases h⟩
  unfold nC
  rw [hr];rfl
 | true=>
  have hl:=rng_true.1 hr
  have loop:=dU (n:=t.length) (s:=(([]:List Int),([]:List Int),([]:List Int))) (f:=fun (k18:Nat) (s2156:List Int×List Int×List Int)=>
    eC ((idxO t ((k18:Nat):Int)).bind fun a2699=>
     ((uG (a2699.1,a2699.2.1,a2699.2.2)).bind fun y2720=>
      cond y2720
      (some true)
      ((some (decide (a2699.1=17))).bind fun a2724=>
       some a2724)).bind fun (s2714:Bool)=>
     cond s2714
     ((sO (a2699.1,a2699.2.1,a2699.2.2)).bind fun y3063=>
      eC ((some (decide (a2699.1=17))).bind fun a3127=>
       cond a3127
       ((eS [] a2699.2.2).bind fun y3131=>
        ((some (decide (y3131<0))).bind fun a3146=>
         cond a3146
         (some true)
         ((some (!decide (a2699.2.1=0))).bind fun a3149=>
          some a3149)).bind fun (s3140:Bool)=>
        cond s3140
        (some (.inr (.inr (.inr ((s2156.1,s2156.2.1,s2156.2.2),false)))))
        ((idxO ([]:List (ByteArray×Int×Int×List Nod)) y3131).bind fun a3162=>
         (idxO ([]:List (ByteArray×Int×Int×List Nod)) y3131).bind fun a3174=>
         some (.inl (a3174.2.2.1,a3162.2.1))))
       (some (.inl (y3063.2,y3063.1)))) fun (s3121:Int×Int)=>
      (tA s2156.1 [((k18:Nat):Int)]).bind fun a3190=>
      (tA s2156.2.1 [s3121.2]).bind fun a3199=>
      (tA s2156.2.2 [s3121.1]).bind fun a3208=>
      some (.inl (a3190,a3199,a3208)))
     (((some (!decide (a2699.1=15))).bind fun a2792=>
       cond a2792
       ((some (!decide (a2699.1=16))).bind fun a2820=>
        cond a2820
        (some true)
        ((some (!decide ((a2699.2.2:ByteArray)=.empty))).bind fun a2823=>
         cond a2823
         (some true)
         ((some (!decide (a2699.2.1=0))).bind fun a2826=>
          cond a2826
          (some true)
          ((some (decide (((k18:Nat):Int)<2))).bind fun a2829=>
           cond a2829
           (some true)
           ((subO ((k18:Nat):Int) 1).bind fun a2832=>
            (idxO s2156.1 a2832).bind fun a2840=>
            (some (decide (a2840<1))).bind fun a2842=>
            some a2842)))))
       ((some (!decide ((a2699.2.2:ByteArray)=.empty))).bind fun a2795=>
        cond a2795
        (some true)
        ((some (!decide (a2699.2.1=0))).bind fun a2798=>
         cond a2798
         (some true)
         ((some (decide (((k18:Nat):Int)<2))).bind fun a2801=>
          cond a2801
          (some true)
          ((subO ((k18:Nat):Int) 1).bind fun a2804=>
           (idxO s2156.1 a2804).bind fun a2812=>
           (some (decide (a2812<1))).bind fun a2814=>
           some a2814))))).bind fun (s2786:Bool)=>
      cond s2786
      (some (.inr (.inr ((s2156.1,s2156.2.1,s2156.2.2),false))))
      ((subO ((k18:Nat):Int) 1).bind fun a2851=>
       (idxO s2156.1 a2851).bind fun a2859=>
       (subO a2859 1).bind fun a2861=>
       (idxO s2156.2.1 a2861).bind fun a2870=>
       (idxO s2156.2.1 a2851).bind fun a2878=>
       (sA a2870 a2878).bind fun a2880=>
       (idxO s2156.2.2 a2861).bind fun a2888=>
       (idxO s2156.2.2 a2851).bind fun a2896=>
       (sA a2888 a2896).bind fun a2898=>
       eC ((some (decide (a2699.1=15))).bind fun a2949=>
        cond a2949
        ((idxO s2156.2.2 a2861).bind fun a2960=>
         (idxO s2156.2.1 a2851).bind fun a2968=>
         (some (!decide (a2960=a2968))).bind fun a2970=>
         cond a2970
         (some (.inr (.inr (.inr ((s2156.1,s2156.2.1,s2156.2.2),false)))))
         ((idxO s2156.2.1 a2861).bind fun a2980=>
          (idxO s2156.2.2 a2851).bind fun a2988=>
          some (.inl (a2980,a2988))))
        (some (.inl (a2880,a2898)))) fun (s2943:Int×Int)=>
       ((some (decide ((12:Int)<s2943.1))).bind fun a3009=>
        cond a3009
        (some true)
        ((some (decide ((12:Int)<s2943.2))).bind fun a3012=>
         some a3012)).bind fun (s3003:Bool)=>
       cond s3003
       (some (.inr (.inr ((s2156.1,s2156.2.1,s2156.2.2),false))))
       ((idxO s2156.1 a2861).bind fun a3025=>
        (tA s2156.1 [a3025]).bind fun a3030=>
        (tA s2156.2.1 [s2943.1]).bind fun a3039=>
        (tA s2156.2.2 [s2943.2]).bind fun a3048=>
        some (.inl (a3030,a3039,a3048)))))) fun (s2684:List Int×List Int×List Int)=>
    some (.inl (s2684.1,s2684.2.1,s2684.2.2)))
   (fun j x=>∃ S,xC (t.take j) []=some S∧x.1.length=j∧x.2.1.length=j∧x.2.2.length=j∧ScR x j S∧∀ i S0,i≤j→xC (t.take i) []=some S0→ScR x i S0) (fun r=>r.2=false∧xC t []=none)
   ⟨[],rfl,rfl,rfl,rfl,rfl,fun i S0 hi h=>by
    obtain rfl:i=0:=by omega
    obtain rfl:=Option.some.inj h
    rfl⟩ (by
   rintro j ⟨x1,x2,x3⟩ hj ⟨S,h1,l1,l2,l3,h2,hall⟩
   dsimp only at l1 l2 l3
   have hS:=Aq_ _ _ _ (fun p hp=>by cases hp) h1
   have hstep:=Cj_ hj h1
   have bad:oC S t[j]=none→xC t []=none:=fun hn=>Ck_ (hstep.trans hn)
   have hi:=qA (List.getElem?_eq_getElem hj)
   have good:∀ (T:Tr) (w:Int×Int) (S':Stk),xC (t.take (j+1)) []=some ((T,w)::S')→(flat T).length≤j+1→ScR (x1,x2,x3) (j+1-(flat T).length) S'→∃ S1,xC (t.take (j+1)) []=some S1∧(x1++[((j+1-(flat T).length:Nat):Int)]).length=j+1∧(x2++[w.1]).length=j+1∧(x3++[w.2]).length=j+1 ∧
     ScR (x1++[((j+1-(flat T).length:Nat):Int)],x2++[w.1],x3++[w.2]) (j+1) S1∧∀ i S0,i≤j+1→xC (t.take i) []=some S0→ScR (x1++[((j+1-(flat T).length:Nat):Int)],x2++[w.1],x3++[w.2]) i S0:=by
    intro T w S' hr1 hT hsc
    have hp:=ScR.push (x:=(x1,x2,x3)) (w:=w) l1 l2 l3 hT hsc
    refine ⟨_,hr1,by simp [l1],by simp [l2],by simp [l3],hp,fun i S0 hi0 hS0=>?_⟩
    by_cases hij:i=j+1
    ·
     subst hij
     rw [hr1] at hS0
     obtain rfl:=Option.some.inj hS0
     exact hp
    ·
     refine (hall i S0 (by omega) hS0).mono (fun k hk=>?_)
     exact ⟨(dN l1 _).1 k (by omega),(dN l2 _).1 k (by omega),(dN l3 _).1 k (by omega)⟩
   generalize t[j]=n at hstep bad hi
   obtain ⟨k,v,u⟩:=n
   by_cases hk:k=15∨k=16
   ·
    have hlf:lfB (k,v,u)=false:=by
     have hr:rng k 1 14=false:=by rcases hk with rfl | rfl <;> decide
     unfold lfB;dsimp only;rw [hr];simp
    have hk17:¬k=17:=by omega
    have hc:((uG (k,v,u)).bind fun y2720=>cond y2720 (some true) ((some (decide (k=17))).bind fun a2724=>some a2724))=some false:=
     bnd (iU _) (by rw [hlf];exact cFW rfl (stp (congrArg some (dF hk17))))
    have hst:oC S (k,v,u)=if v=0∧u=.empty then (match S with
      | (b,y)::(a,x)::S'=>(jn k x y).map fun w=>(.node k a b,w)::S'
      | _=>none) else none:=by unfold oC;rw [if_pos hk]
    have hten:∀ b:Bool,((some (!decide ((u:ByteArray)=.empty))).bind fun a2795=>
        cond a2795
        (some true)
        ((some (!decide (v=0))).bind fun a2798=>
         cond a2798
         (some true)
         ((some (decide (((j:Nat):Int)<2))).bind fun a2801=>
          cond a2801
          (some true)
          ((subO ((j:Nat):Int) 1).bind fun a2804=>
           (idxO x1 a2804).bind fun a2812=>
           (some (decide (a2812<1))).bind fun a2814=>
           some a2814))))=some b→(((some (!decide (k=15))).bind fun a2792=>
       cond a2792
       ((some (!decide (k=16))).bind fun a2820=>
        cond a2820
        (some true)
        ((some (!decide ((u:ByteArray)=.empty))).bind fun a2823=>
         cond a2823
         (some true)
         ((some (!decide (v=0))).bind fun a2826=>
          cond a2826
          (some true)
          ((some (decide (((j:Nat):Int)<2))).bind fun a2829=>
           cond a2829
           (some true)
           ((subO ((j:Nat):Int) 1).bind fun a2832=>
            (idxO x1 a2832).bind fun a2840=>
            (some (decide (a2840<1))).bind fun a2842=>
            some a2842)))))
       ((some (!decide ((u:ByteArray)=.empty))).bind fun a2795=>
        cond a2795
        (some true)
        ((some (!decide (v=0))).bind fun a2798=>
         cond a2798
         (some true)
         ((some (decide (((j:Nat):Int)<2))).bind fun a2801=>
          cond a2801
          (some true)
          ((subO ((j:Nat):Int) 1).bind fun a2804=>
           (idxO x1 a2804).bind fun a2812=>
           (some (decide (a2812<1))).bind fun a2814=>
           some a2814)))))=some b):=by
     intro b hb
     rcases hk with rfl | rfl
     · exact stp (cFW rfl hb)
     · exact stp (cTW rfl (stp (cFW rfl hb)))
    have fail:∀ {n:Option Stk},((some (!decide ((u:ByteArray)=.empty))).bind fun a2795=>
        cond a2795
        (some true)
        ((some (!decide (v=0))).bind fun a2798=>
         cond a2798
         (some true)
         ((some (decide (((j:Nat):Int)<2))).bind fun a2801=>
          cond a2801
          (some true)
          ((subO ((j:Nat):Int) 1).bind fun a2804=>
           (idxO x1 a2804).bind fun a2812=>
           (some (decide (a2812<1))).bind fun a2814=>
           some a2814))))=some true→n=none→n=none:=fun _ h=>h
    by_cases hu:u=.empty
    case neg=>
     have hn:oC S (k,v,u)=none:=by rw [hst,if_neg (fun h=>hu h.2)]
     exact .inr ⟨_,sqW (bnd hi (bnd hc (cFW rfl (bnd (hten true (stp (cTW (nF (dF hu)) rfl))) rfl)))) rfl,rfl,bad hn⟩
    by_cases hv:v=0
    case neg=>
     have hn:oC S (k,v,u)=none:=by rw [hst,if_neg (fun h=>hv h.1)]
     exact .inr ⟨_,sqW (bnd hi (bnd hc (cFW rfl (bnd (hten true (stp (cFW (nT (dT hu)) (stp (cTW (nF (dF hv)) rfl))))) rfl)))) rfl,rfl,bad hn⟩
    rw [if_pos ⟨hv,hu⟩] at hst
    match S,h2,hst,hS with
    | [],h2,hst,_=>
     obtain rfl:j=0:=h2
     exact .inr ⟨_,sqW (bnd hi (bnd hc (cFW rfl (bnd (hten true (stp (cFW (nT (dT hu)) (stp (cFW (nT (dT hv)) (stp (cTW (dT (by omega)) rfl))))))) rfl)))) rfl,rfl,bad hst⟩
    | [(b,y)],h2,hst,_=>
     obtain ⟨s1,s2,s3,s4,s5⟩:=h2
     have s5:j-(flat b).length=0:=s5
     refine .inr ⟨_,sqW (bnd hi (bnd hc (cFW rfl (bnd (hten true (stp (cFW (nT (dT hu)) (stp (cFW (nT (dT hv)) (stp ?_)))))) rfl)))) rfl,rfl,bad hst⟩
     by_cases h2:((j:Nat):Int)<2
     · exact cTW (dT h2) rfl
     ·
      refine cFW (dF h2) (bnd (cD (by omega) (by omega)) (bnd (a:=0) ?_ rfl))
      rw [s5] at s2
      have e:(j:Int)-1=((j-1:Nat):Int):=by omega
      rw [e];exact qA s2
    | (b,y)::(a,x)::S',h2,hst,hS=>
     have hx:=hS (a,x) (by simp)
     have hy:=hS (b,y) (by simp)
     obtain ⟨s1,s2,s3,s4,r1,r2,r3,r4,r5⟩:=h2
     dsimp only at s2 s3 s4 r2 r3 r4
     have hpa:=pF a
     have hpb:=pF b
     have hj2:2≤j:=by omega
     obtain ⟨a1,a2,a3,a4⟩:=hx
     obtain ⟨b1,b2,b3,b4⟩:=hy
     have e1:subO ((j:Nat):Int) 1=some ((j-1:Nat):Int):=by rw [cD (by omega) (by omega)];congr 1;omega
     have e2:subO ((j-(flat b).length:Nat):Int) 1=some ((j-(flat b).length-1:Nat):Int):=by rw [cD (by omega) (by omega)];congr 1;omega
     have hpass:=hten false (stp (cFW (nT (dT hu)) (stp (cFW (nT (dT hv)) (stp (cFW (dF (by omega)) (bnd e1 (bnd (qA s2) (stp (congrArg some (dF (by omega))))))))))))
     have hlenT:(flat (.node k a b)).length=(flat a).length+(flat b).length+1:=by simp [flat];omega
     have hidx:j+1-(flat (.node k a b)).length=j-(flat b).length-(flat a).length:=by rw [hlenT];omega
     dsimp only at a1 a2 a3 a4 b1 b2 b3 b4
     have hS1:yQ S':=fun p hp=>hS p (by simp [hp])
     have bg:∀ w:Int×Int,jn k x y=some w→sF w∧(¬(12:Int)<w.1)∧¬(12:Int)<w.2:=fun w h=>by
      have:=jn_ok (x:=x) (y:=y) ⟨a1,a2,a3,a4⟩ ⟨b1,b2,b3,b4⟩ h
      obtain ⟨c1,c2,c3,c4⟩:=this
      exact ⟨⟨c1,c2,c3,c4⟩,by omega,by omega⟩
     have hgood:∀ w:Int×Int,jn k x y=some w→∃ S1,xC (t.take (j+1)) []=some S1∧(x1++[((j-(flat b).length-(flat a).length:Nat):Int)]).length=j+1∧(x2++[w.1]).length=j+1∧(x3++[w.2]).length=j+1 ∧
       ScR (x1++[((j-(flat b).length-(flat a).length:Nat):Int)],x2++[w.1],x3++[w.2]) (j+1) S1∧∀ i S0,i≤j+1→xC (t.take i) []=some S0→ScR (x1++[((j-(flat b).length-(flat a).length:Nat):Int)],x2++[w.1],x3++[w.2]) i S0:=fun w hw=>by
      have hn:oC ((b,y)::(a,x)::S') (k,v,u)=some ((.node k a b,w)::S'):=by rw [hst];simp only [hw,Option.map_some]
      have:=good (.node k a b) w S' (by rw [hstep,hn]) (by rw [hlenT];omega) (by rw [hidx];exact r5)
      rw [hidx] at this
      exact this
     have hbad:jn k x y=none→xC t []=none:=fun hw=>bad (by rw [hst];simp only [hw,Option.map_none])
     have ap:∀ (l:List Int) (z:Int),l.length=j→tA l [z]=some (l++[z]):=fun l z h=>vB (by simp;omega)
     have s1':=C9_ a1 a2 b1 b2
     have s2':=C9_ a3 a4 b3 b4
     by_cases h15:k=15
     ·
      by_cases hxy:x.2=y.1
      ·
       have hw:jn k x y=some (x.1,y.2):=by unfold jn;rw [if_pos h15,if_pos hxy]
       obtain ⟨_,w1,w2⟩:=bg _ hw
       refine .inl ⟨(x1++[((j-(flat b).length-(flat a).length:Nat):Int)],x2++[x.1],x3++[y.2]),sqW (r:=some (.inl (x1++[((j-(flat b).length-(flat a).length:Nat):Int)],x2++[x.1],x3++[y.2]))) ?_ rfl,hgood _ hw⟩
       refine bnd hi (bnd hc (cFW rfl (bnd hpass (cFW rfl ?_))))
       refine bnd e1 (bnd (qA s2) (bnd e2 (bnd (qA r3) (bnd (qA s3) (bnd s1' (bnd (qA r4) (bnd (qA s4) (bnd s2' ?_))))))))
       refine sqW (r:=some (.inl (x.1,y.2))) (bnd (congrArg some (dT h15)) (cTW rfl (bnd (qA r4) (bnd (qA s3) (stp (cFW (nT (dT hxy)) (bnd (qA r3) (bnd (qA s4) rfl)))))))) ?_
       rw [fI]
       refine bnd (a:=false) (bnd (congrArg some (dF w1)) (bnd (congrArg some (dF w2)) rfl)) (cFW rfl ?_)
       exact bnd (qA r2) (bnd (ap _ _ l1) (bnd (ap _ _ l2) (bnd (ap _ _ l3) rfl)))
      ·
       have hw:jn k x y=none:=by unfold jn;rw [if_pos h15,if_neg hxy]
       refine .inr ⟨((x1,x2,x3),false),sqW (r:=some (.inr (.inr ((x1,x2,x3),false)))) ?_ rfl,rfl,hbad hw⟩
       refine bnd hi (bnd hc (cFW rfl (bnd hpass (cFW rfl ?_))))
       refine bnd e1 (bnd (qA s2) (bnd e2 (bnd (qA r3) (bnd (qA s3) (bnd s1' (bnd (qA r4) (bnd (qA s4) (bnd s2' ?_))))))))
       exact sqW (r:=some (.inr (.inr (.inr ((x1,x2,x3),false))))) (bnd (congrArg some (dT h15)) (cTW rfl (bnd (qA r4) (bnd (qA s3) (stp (cTW (nF (dF hxy)) rfl)))))) rfl
     ·
      by_cases h1:x.1+y.1≤12
      ·
       by_cases h2:x.2+y.2≤12
       ·
        have hw:jn k x y=some (x.1+y.1,x.2+y.2):=by unfold jn;rw [if_neg h15,if_pos ⟨h1,h2⟩]
        obtain ⟨_,w1,w2⟩:=bg _ hw
        refine .inl ⟨(x1++[((j-(flat b).length-(flat a).length:Nat):Int)],x2++[x.1+y.1],x3++[x.2+y.2]),sqW (r:=some (.inl (x1++[((j-(flat b).length-(flat a).length:Nat):Int)],x2++[x.1+y.1],x3++[x.2+y.2]))) ?_ rfl,hgood _ hw⟩
        refine bnd hi (bnd hc (cFW rfl (bnd hpass (cFW rfl ?_))))
        refine bnd e1 (bnd (qA s2) (bnd e2 (bnd (qA r3) (bnd (qA s3) (bnd s1' (bnd (qA r4) (bnd (qA s4) (bnd s2' ?_))))))))
        refine sqW (r:=some (.inl (x.1+y.1,x.2+y.2))) (bnd (congrArg some (dF h15)) (cFW rfl rfl)) ?_
        rw [fI]
        refine bnd (a:=false) (bnd (congrArg some (dF w1)) (bnd (congrArg some (dF w2)) rfl)) (cFW rfl ?_)
        exact bnd (qA r2) (bnd (ap _ _ l1) (bnd (ap _ _ l2) (bnd (ap _ _ l3) rfl)))
       ·
        have hw:jn k x y=none:=by unfold jn;rw [if_neg h15,if_neg (fun h=>h2 h.2)]
        refine .inr ⟨((x1,x2,x3),false),sqW (r:=some (.inr (.inr ((x1,x2,x3),false)))) ?_ rfl,rfl,hbad hw⟩
        refine bnd hi (bnd hc (cFW rfl (bnd hpass (cFW rfl ?_))))
        refine bnd e1 (bnd (qA s2) (bnd e2 (bnd (qA r3) (bnd (qA s3) (bnd s1' (bnd (qA r4) (bnd (qA s4) (bnd s2' ?_))))))))
        refine sqW (r:=some (.inl (x.1+y.1,x.2+y.2))) (bnd (congrArg some (dF h15)) (cFW rfl rfl)) ?_
        rw [fI]
        exact bnd (a:=true) (bnd (congrArg some (dF (by dsimp only;omega))) (bnd (congrArg some (dT (by dsimp only;omega))) rfl)) (cTW rfl rfl)
      ·
       have hw:jn k x y=none:=by unfold jn;rw [if_neg h15,if_neg (fun h=>h1 h.1)]
       refine .inr ⟨((x1,x2,x3),false),sqW (r:=some (.inr (.inr ((x1,x2,x3),false)))) ?_ rfl,rfl,hbad hw⟩
       refine bnd hi (bnd hc (cFW rfl (bnd hpass (cFW rfl ?_))))
       refine bnd e1 (bnd (qA s2) (bnd e2 (bnd (qA r3) (bnd (qA s3) (bnd s1' (bnd (qA r4) (bnd (qA s4) (bnd s2' ?_))))))))
       refine sqW (r:=some (.inl (x.1+y.1,x.2+y.2))) (bnd (congrArg some (dF h15)) (cFW rfl rfl)) ?_
       rw [fI]
       exact bnd (a:=true) (bnd (congrArg some (dT (by dsimp only;omega))) rfl) (cTW rfl rfl)
   ·
    have ap:∀ (l:List Int) (z:Int),l.length=j→tA l [z]=some (l++[z]):=fun l z h=>vB (by simp;omega)
    cases hb:lfB (k,v,u) with
    | true=>
     have hr:rng k 1 14=true:=by
      unfold lfB at hb;simp only [Bool.and_eq_true] at hb;exact hb.2.1
     have hk17:¬k=17:=by have:=rng_true.1 hr;omega
     have hn:oC S (k,v,u)=some ((.leaf (k,v,u),lfT (k,v,u))::S):=by unfold oC;rw [if_neg hk,if_pos hb]
     have hc:((uG (k,v,u)).bind fun y2720=>cond y2720 (some true) ((some (decide (k=17))).bind fun a2724=>some a2724))=some true:=
      bnd (iU _) (by rw [hb];rfl)
     have:=good (.leaf (k,v,u)) (lfT (k,v,u)) S (by rw [hstep,hn]) (by simp [flat]) (by simpa [flat] using h2)
     rw [show j+1-(flat (.leaf (k,v,u))).length=j by simp [flat]] at this
     refine .inl ⟨(x1++[((j:Nat):Int)],x2++[(lfT (k,v,u)).1],x3++[(lfT (k,v,u)).2]),sqW (r:=some (.inl (x1++[((j:Nat):Int)],x2++[(lfT (k,v,u)).1],x3++[(lfT (k,v,u)).2]))) ?_ rfl,this⟩
     refine bnd hi (bnd hc (cTW rfl (bnd (CC_ _) ?_)))
     refine sqW (r:=some (.inl ((lfT (k,v,u)).2,(lfT (k,v,u)).1))) (bnd (congrArg some (dF hk17)) (cFW rfl rfl)) ?_
     rw [fI]
     exact bnd (ap _ _ l1) (bnd (ap _ _ l2) (bnd (ap _ _ l3) rfl))
    | false=>
     have hn:oC S (k,v,u)=none:=by unfold oC;rw [if_neg hk,if_neg (by rw [hb];simp)]
     by_cases h17:k=17
     ·
      have hc:((uG (k,v,u)).bind fun y2720=>cond y2720 (some true) ((some (decide (k=17))).bind fun a2724=>some a2724))=some true:=
       bnd (iU _) (by rw [hb];exact cFW rfl (stp (congrArg some (dT h17))))
      refine .inr ⟨((x1,x2,x3),false),sqW (r:=some (.inr (.inr ((x1,x2,x3),false)))) ?_ rfl,rfl,bad hn⟩
      refine bnd hi (bnd hc (cTW rfl (bnd (CC_ _) ?_)))
      exact sqW (r:=some (.inr (.inr (.inr ((x1,x2,x3),false))))) (bnd (congrArg some (dT h17)) (cTW rfl (bnd (Gc_ _) (bnd (a:=true) rfl (cTW rfl rfl))))) rfl
     ·
      have hc:((uG (k,v,u)).bind fun y2720=>cond y2720 (some true) ((some (decide (k=17))).bind fun a2724=>some a2724))=some false:=
       bnd (iU _) (by rw [hb];exact cFW rfl (stp (congrArg some (dF h17))))
      have hk1:¬k=15:=fun h=>hk (.inl h)
      have hk2:¬k=16:=fun h=>hk (.inr h)
      exact .inr ⟨_,sqW (bnd hi (bnd hc (cFW rfl (bnd (a:=true) (stp (cTW (nF (dF hk1)) (stp (cTW (nF (dF hk2)) rfl)))) rfl)))) rfl,rfl,bad hn⟩)
  rcases loop with ⟨x,h1,S,h2,k1,k2,k3,h3,hall⟩ | ⟨⟨x,r⟩,h1,rfl,h2⟩
  ·
   rw [List.take_length] at h2
   have hne:S≠[]:=by
    rintro rfl
    have:t.length=0:=h3
    omega
   obtain ⟨⟨T,w⟩,S',rfl⟩:∃ p S',S=p::S':=by
    cases S with
    | nil=>exact (hne rfl).elim
    | cons p S'=>exact ⟨p,S',rfl⟩
   obtain ⟨s1,s2,s3,s4,s5⟩:=h3
   have hT:=pF T
   have ev:nC t=decide (((t.length-(flat T).length:Nat):Int)=0):=by
    unfold nC
    rw [hr,h2,Bool.true_and]
    match S',s5 with
    | [],s5=>
     have s5:t.length-(flat T).length=0:=s5
     rw [s5];rfl
    | (T',w')::S'',s5=>
     have:=pF T'
     exact (dF (by have:=s5.1;omega)).symm
   refine ⟨x,bnd (l1In _ _ _) (stp ?_),fun S0 hS0 _=>?_⟩
   ·
    rw [hr]
    refine cFW rfl (sqW h1 ?_)
    rw [fI]
    refine bnd (a:=((t.length-1:Nat):Int)) (by rw [cD (by omega) (by omega)];congr 1;omega) (bnd (qA s2) (stp ?_))
    rw [ev]
   ·
    rw [h2] at hS0
    obtain rfl:=Option.some.inj hS0
    refine ⟨k1,⟨s1,s2,s3,s4,s5⟩,fun S0 p q hpq hp=>?_⟩
    refine hall p.length S0 (by rw [hpq];simp) ?_
    rw [hpq,List.take_left];exact hp
  ·
   refine ⟨x,bnd (l1In _ _ _) (stp ?_),fun S hS=>by rw [h2] at hS;cases hS⟩
   rw [hr]
   refine cFW rfl (sqW h1 ?_)
   rw [AO_]
   unfold nC
   rw [h2,hr];rfl
end Go.Proofs.YtlggnmkelgplnaaGreatDoor
namespace Go.Proofs.YtlggnmkelgplnaaGreatDoor
def wD:Tr→Option (Int×Int)
 | .leaf n=>if lfB n=true then some (lfT n) else none
 | .node k a b=>if k=15∨k=16 then (wD a).bind fun x=>(wD b).bind fun y=>jn k x y else none
def typS (S:Stk):Prop:=∀ p∈S,wD p.1=some p.2
theorem Gx_ {S S':Stk}{n:Nod} (hS:typS S) (h:oC S n=some S'):typS S':=by
 unfold oC at h
 split at h
 ·
  rename_i hk
  split at h
  ·
   split at h
   ·
    rename_i b y a x S0
    obtain ⟨w,hw,rfl⟩:=Option.map_eq_some_iff.1 h
    intro p hp
    rcases List.mem_cons.1 hp with rfl | hp
    ·
     have h1:=hS (a,x) (by simp)
     have h2:=hS (b,y) (by simp)
     dsimp only at h1 h2
     show (if n.1=15∨n.1=16 then _ else none)=_
     rw [if_pos hk,h1,h2];exact hw
    · exact hS p (by simp [hp])
   · cases h
  · cases h
 ·
  split at h
  ·
   obtain rfl:=Option.some.inj h
   intro p hp
   rcases List.mem_cons.1 hp with rfl | hp
   ·
    show (if lfB n=true then _ else none)=_
    rw [if_pos ‹_›]
   · exact hS p hp
  · cases h
theorem CF_:∀ (t:List Nod) (S S':Stk),typS S→xC t S=some S'→typS S'
 | [],S,S',hS,h=>by obtain rfl:=Option.some.inj h;exact hS
 | n::t,S,S',hS,h=>by
  obtain ⟨S1,h1,h2⟩:=aA h
  exact CF_ t S1 S' (Gx_ hS h1) h2
theorem aJ {k:Int}{a b:Tr}{w:Int×Int} (h:wD (.node k a b)=some w):(k=15∨k=16)∧∃ x y,wD a=some x∧wD b=some y∧jn k x y=some w:=by
 unfold wD at h
 split at h
 ·
  obtain ⟨x,h1,h2⟩:=aA h
  obtain ⟨y,h3,h4⟩:=aA h2
  exact ⟨‹_›,x,y,h1,h3,h4⟩
 · cases h
theorem fK {n:Nod}{w:Int×Int} (h:wD (.leaf n)=some w):lfB n=true∧w=lfT n:=by
 unfold wD at h
 split at h
 · exact ⟨‹_›,(Option.some.inj h).symm⟩
 · cases h
theorem tK {n:Nod} (h:lfB n=true):1≤n.1∧n.1≤14:=by
 unfold lfB at h;simp only [Bool.and_eq_true] at h
 exact rng_true.1 h.2.1
theorem sL:∀ {T:Tr}{w:Int×Int},wD T=some w→∀ S,xC (flat T) S=some ((T,w)::S)
 | .leaf n,w,h,S=>by
  obtain ⟨h1,rfl⟩:=fK h
  have hk:=tK h1
  show (oC S n).bind _=_
  unfold oC
  rw [if_neg (by omega),if_pos h1];rfl
 | .node k a b,w,h,S=>by
  obtain ⟨hk,x,y,h1,h2,h3⟩:=aJ h
  show xC (flat a++flat b++[(k,0,.empty)]) S=_
  rw [runT_app,runT_app,sL h1 S]
  show ((xC (flat b) ((a,x)::S)).bind _)=_
  rw [sL h2]
  show (oC ((b,y)::(a,x)::S) (k,0,.empty)).bind _=_
  unfold oC
  rw [if_pos hk,if_pos ⟨rfl,rfl⟩]
  show ((jn k x y).map _).bind _=_
  rw [h3];rfl
theorem kP {t:List Nod} (h:nC t=true):∃ T w,t=flat T∧wD T=some w∧t.length≤400:=by
 unfold nC at h
 rw [Bool.and_eq_true] at h
 have hl:=rng_true.1 h.1
 cases hr:xC t [] with
 | none=>rw [hr] at h;cases h.2
 | some S=>
  rw [hr] at h
  match S,hr,h.2 with
  | [(T,w)],hr,_=>
   have h1:=kZ _ _ _ hr
   have h2:=CF_ _ _ _ (fun p hp=>by cases hp) hr
   refine ⟨T,w,?_,h2 (T,w) (by simp),by omega⟩
   unfold wK at h1
   simpa using h1.symm
theorem fZ {t:List Nod}{x:List Int×List Int×List Int}{b:Bool} (h:dS [] t=some (x,b)):wO t=some (x,b):=bnd h rfl
theorem DQ_ {t:List Nod} (h:t.length≤iB):vS t=some t:=bnd (vB (by simpa using h)) rfl
theorem G5_ {k:Int}{a b:Tr}{w:Int×Int} (h:wD (.node k a b)=some w) (hl:(flat (.node k a b)).length≤400):cX (flat (.node k a b))=some (flat a,flat b):=by
 have hm:iB=1099511627776:=rfl
 obtain ⟨hk,x,y,h1,h2,h3⟩:=aJ h
 obtain ⟨X,hX,hs⟩:=Az_ (flat (.node k a b))
 have hpa:=pF a
 have hpb:=pF b
 have hlen:(flat (.node k a b)).length=(flat a).length+(flat b).length+1:=by simp [flat];omega
 obtain ⟨k1,_,hsc⟩:=hs _ (sL h []) (rng_true.2 (by omega))
 have hsc:=hsc [(b,y),(a,x)] (flat a++flat b) [(k,0,.empty)] rfl (by
  rw [runT_app,sL h1]
  show xC (flat b) [(a,x)]=_
  rw [sL h2])
 obtain ⟨_,s2,_⟩:=hsc
 rw [List.length_append,Nat.add_sub_cancel] at s2
 have sl1:fB (flat (.node k a b)) 0 (((flat a).length:Nat):Int)=some (flat a):=by
  unfold fB;rw [if_pos ⟨by omega,by omega,by omega⟩]
  simp [flat]
 have sl2:fB (flat (.node k a b)) (((flat a).length:Nat):Int) (((flat a).length+(flat b).length:Nat):Int)=some (flat b):=by
  unfold fB;rw [if_pos ⟨by omega,by omega,by omega⟩]
  have e:(((flat a).length:Int)+((flat b).length:Int)).toNat-(flat a).length=(flat b).length:=by omega
  simp [flat,e]
 refine bnd (fZ hX) (bnd (a:=(((flat a).length+(flat b).length:Nat):Int)) (by rw [hlen,cD (by omega) (by omega)];congr 1;omega)
  (bnd (a:=(((flat a).length+(flat b).length-1:Nat):Int)) (by rw [cD (by omega) (by omega)];congr 1;omega) (bnd (qA s2) (bnd sl1 (bnd sl2 (bnd (DQ_ (by omega)) (bnd (DQ_ (by omega)) rfl)))))))
def frL (a b:Nat):List Int:=(List.range b).map fun j:Nat=>((j:Int)+(a:Int))
theorem frL_len (a b:Nat):(frL a b).length=b:=by simp [frL]
def ugL (n:Nat):List Int:=(List.range n).map fun q:Nat=>(q:Int)
theorem ugL_len (n:Nat):(ugL n).length=n:=by simp [ugL]
theorem ugTo_ {n:Nat} (hn:n≤1048576):yI (n:Int)=some (ugL n):=upT_ hn
theorem Cz_ (n:Nat):ugL (n+1)=ugL n++[(n:Int)]:=by unfold ugL;rw [List.range_succ];simp
theorem frL_succ (a b:Nat):frL a (b+1)=frL a b++[(b:Int)+a]:=by unfold frL;rw [List.range_succ];simp
theorem G7_ (a b:Nat):(cB b fun k=>(k:Int)+a)=frL a b:=rfl
def iG (n:Nod):Gra:=if n.1=1 then (n.2.1,[],ugL n.2.1.toNat,ugL n.2.1.toNat) else if n.1=2 then (2,[],[0,1],[1,0]) else
 ((kd n.1).1+(kd n.1).2,[(n.1,n.2.1,ugL (kd n.1).1.toNat,frL (kd n.1).1.toNat (kd n.1).2.toNat)],ugL (kd n.1).1.toNat,frL (kd n.1).1.toNat (kd n.1).2.toNat)
theorem hgId_ {n:Nat} (hn:n≤1000):tY (n:Int)=some ((n:Int),[],ugL n,ugL n):=by
 have hm:iB=1099511627776:=rfl
 have loop:=yM (f:=fun (s166:List Int×List Int×Int)=>
   (some (decide (s166.2.2<(n:Int)))).bind fun a179=>
   cond a179
   ((tA s166.1 [s166.2.2]).bind fun a187=>
    (tA s166.2.1 [s166.2.2]).bind fun a196=>
    (sA s166.2.2 1).bind fun a202=>
    some (.inl (a187,a196,a202)))
   (some (.inr (s166.1,s166.2.1)))) (fun j=>(ugL j,ugL j,(j:Int))) (t:=(ugL n,ugL n)) n (fun j hj=>by
  refine stp (cTW (dT (by dsimp only;omega)) ?_)
  have e:tA (ugL j) [(j:Int)]=some (ugL (j+1)):=by rw [Cz_];exact vB (by rw [ugL_len];simp;omega)
  exact bnd e (bnd e (bnd (qB (by dsimp only;omega) (by dsimp only;omega)) rfl)))
  (stp (cFW (dF (by dsimp only;omega)) rfl))
 exact bnd loop rfl
theorem Gh_ {a b:Nat} (ha:a≤1000) (hb:b≤1000):mC (fun (s328:List Int×List Int×List Int×List Int×Int)=>
     (sA (a:Int) (b:Int)).bind fun a345=>
     (some (decide (s328.2.2.2.2<a345))).bind fun a347=>
     cond a347
     ((some (decide (s328.2.2.2.2<(a:Int)))).bind fun a352=>
      cond a352
      ((tA s328.1 [s328.2.2.2.2]).bind fun a379=>
       (tA s328.2.2.1 [s328.2.2.2.2]).bind fun a388=>
       (sA s328.2.2.2.2 1).bind fun a394=>
       some (.inl (a379,s328.2.1,a388,s328.2.2.2.1,a394)))
      ((tA s328.2.1 [s328.2.2.2.2]).bind fun a358=>
       (tA s328.2.2.2.1 [s328.2.2.2.2]).bind fun a367=>
       (sA s328.2.2.2.2 1).bind fun a373=>
       some (.inl (s328.1,a358,s328.2.2.1,a367,a373))))
     (some (.inr (s328.1,s328.2.1,s328.2.2.1,s328.2.2.2.1)))) (([]:List Int),([]:List Int),([]:List Int),([]:List Int),(0:Int))=some (ugL a,frL a b,ugL a,frL a b):=by
 have hm:iB=1099511627776:=rfl
 have hs:sA (a:Int) (b:Int)=some ((a:Int)+b):=qB (by omega) (by omega)
 have loop:=yM (f:=fun (s328:List Int×List Int×List Int×List Int×Int)=>
     (sA (a:Int) (b:Int)).bind fun a345=>
     (some (decide (s328.2.2.2.2<a345))).bind fun a347=>
     cond a347
     ((some (decide (s328.2.2.2.2<(a:Int)))).bind fun a352=>
      cond a352
      ((tA s328.1 [s328.2.2.2.2]).bind fun a379=>
       (tA s328.2.2.1 [s328.2.2.2.2]).bind fun a388=>
       (sA s328.2.2.2.2 1).bind fun a394=>
       some (.inl (a379,s328.2.1,a388,s328.2.2.2.1,a394)))
      ((tA s328.2.1 [s328.2.2.2.2]).bind fun a358=>
       (tA s328.2.2.2.1 [s328.2.2.2.2]).bind fun a367=>
       (sA s328.2.2.2.2 1).bind fun a373=>
       some (.inl (s328.1,a358,s328.2.2.1,a367,a373))))
     (some (.inr (s328.1,s328.2.1,s328.2.2.1,s328.2.2.2.1)))) (fun j=>(ugL (min j a),frL a (j-a),ugL (min j a),frL a (j-a),(j:Int))) (t:=(ugL a,frL a b,ugL a,frL a b)) (a+b) (fun j hj=>by
  refine bnd hs (stp (cTW (dT (by dsimp only;omega)) ?_))
  have e1:sA ((j:Nat):Int) 1=some ((j+1:Nat):Int):=qB (by omega) (by omega)
  by_cases hja:j<a
  ·
   have e:tA (ugL (min j a)) [(j:Int)]=some (ugL (min (j+1) a)):=by
    rw [Nat.min_eq_left (by omega),Nat.min_eq_left (by omega),Cz_];exact vB (by rw [ugL_len];simp;omega)
   refine stp (cTW (dT (by dsimp only;omega)) (bnd e (bnd e (bnd e1 ?_))))
   rw [show j+1-a=j-a by omega]
  ·
   have e:tA (frL a (j-a)) [(j:Int)]=some (frL a (j+1-a)):=by
    rw [show j+1-a=j-a+1 by omega,frL_succ,show ((j-a:Nat):Int)+a=j by omega];exact vB (by rw [frL_len];simp;omega)
   refine stp (cFW (dF (by dsimp only;omega)) (bnd e (bnd e (bnd e1 ?_))))
   rw [Nat.min_eq_right (by omega),Nat.min_eq_right (by omega)])
  (bnd hs (stp (cFW (dF (by dsimp only;omega)) (by rw [Nat.min_eq_right (by omega),Nat.add_sub_cancel_left]))))
 rw [Nat.zero_min,Nat.zero_sub] at loop
 exact loop
theorem pN (k:Int):∃ a b:Nat,kd k=((a:Int),(b:Int))∧a≤2∧b≤2:=by
 have h:=kd_le k
 refine ⟨(kd k).1.toNat,(kd k).2.toNat,Prod.ext (by dsimp only;omega) (by dsimp only;omega),by omega,by omega⟩
theorem eV {n:Nod} (h:lfB n=true) (h1:n.1=1):0≤n.2.1∧n.2.1≤12:=by
 unfold lfB at h
 simp only [Bool.and_eq_true] at h
 rw [if_pos h1] at h
 exact rng_true.1 h.2.2
theorem vU {n:Nod} (h:lfB n=true):zO n=some (iG n):=by
 obtain ⟨k,v,s⟩:=n
 unfold zO iG
 by_cases h1:k=1
 ·
  have hv:=eV h h1
  dsimp only at hv
  obtain ⟨m,rfl⟩:∃ m:Nat,v=(m:Int):=⟨v.toNat,by omega⟩
  simp [h1,hgId_ (n:=m) (by omega)]
 by_cases h2:k=2
 · simp [h2]
 obtain ⟨a,b,hk,ha,hb⟩:=pN k
 have hs:sA (a:Int) (b:Int)=some ((a:Int)+b):=qB (by omega) (by omega)
 rw [if_neg h1,if_neg h2]
 refine stp (cFW (dF h1) (stp (cFW (dF h2) (bnd (tmKind_ k) ?_))))
 simp only [hk,Int.toNat_natCast]
 exact bnd hs (bnd (Gh_ (by omega) (by omega)) rfl)
theorem Gb_ {n:Nod} (h:lfB n=true):mO n=some (iG n):=by
 have hm:iB=1099511627776:=rfl
 have hkk:=tK h
 obtain ⟨k,v,s⟩:=n
 dsimp only at hkk
 unfold mO iG
 by_cases h1:k=1
 ·
  have hv:=eV h h1
  dsimp only at hv
  obtain ⟨m,rfl⟩:∃ m:Nat,v=(m:Int):=⟨v.toNat,by omega⟩
  have:jW (m:Int)=some ((m:Int),[],ugL m,ugL m):=bnd (ugTo_ (by omega)) (bnd (ugTo_ (by omega)) rfl)
  simp [h1,this]
 by_cases h2:k=2
 · simp [h2]
 obtain ⟨a,b,hk,ha,hb⟩:=pN k
 have hs:sA (a:Int) (b:Int)=some ((a:Int)+b):=qB (by omega) (by omega)
 have hr:rng k 3 14=true:=rng_true.2 (by omega)
 have c1:yJ (ugL a)=some (ugL a):=iV (by rw [ugL_len];omega)
 have c2:yJ (frL a b)=some (frL a b):=iV (by rw [frL_len];omega)
 have f1:=aW (n:=b) (a:=a) (by omega) (by omega)
 rw [G7_] at f1
 simp only [h1,h2,nO hr,hk,decide_false,cond_false,Option.bind_some,hs,if_false,Int.toNat_natCast,ugTo_ (n:=a) (by omega),f1,c1,c2]
theorem aU {n:Nod} (h:lfB n=true):gOk (iG n)=true∧((iG n).2.2.1.length:Int)=(lfT n).1∧((iG n).2.2.2.length:Int)=(lfT n).2:=by
 have hkk:=tK h
 obtain ⟨k,v,s⟩:=n
 dsimp only at hkk
 unfold iG lfT
 by_cases h1:k=1
 ·
  have hv:=eV h h1
  dsimp only at hv
  obtain ⟨m,rfl⟩:∃ m:Nat,v=(m:Int):=⟨v.toNat,by omega⟩
  have key:∀ m:Nat,m<13→gOk ((m:Int),[],ugL m,ugL m)=true:=by decide
  simp only [h1,if_true,Int.toNat_natCast,ugL_len]
  exact ⟨key m (by omega),trivial,trivial⟩
 by_cases h2:k=2
 ·
  subst h2
  have e:gOk (2,[],[0,1],[1,0])=true:=by decide
  exact ⟨e,rfl,rfl⟩
 have hr:rng k 3 14=true:=rng_true.2 (by omega)
 have hg:xF k v=true:=by
  unfold lfB at h
  simp only [Bool.and_eq_true] at h
  rw [if_neg h1] at h
  unfold xF
  rw [hr,Bool.true_and];exact h.2.2
 obtain ⟨a,b,hk,ha,hb⟩:=pN k
 have h0:=hk
 simp only [h1,h2,if_false,hk,Int.toNat_natCast,ugL_len,frL_len,and_true]
 have hE:edW ((a:Int)+b) (k,v,ugL a,frL a b)=(wOk ((a:Int)+b) (ugL a)&&wOk ((a:Int)+b) (frL a b)):=by
  unfold edW arB edI edO
  simp only [hg,hk,ugL_len,frL_len,decide_true,Bool.true_and]
 have e1:((a:Int)+b)=((a+b:Nat):Int):=by omega
 unfold gOk kD
 simp only [List.all_cons,List.all_nil,hE,ugL_len,frL_len,List.map_cons,List.map_nil]
 have key:∀ a:Nat,a<3→∀ b:Nat,b<3→(rng ((a:Int)+b) 0 100&&(decide (1≤60)&&(decide (a≤12)&&(decide (b≤12)&&(wOk ((a:Int)+b) (ugL a)&&(wOk ((a:Int)+b) (frL a b)&&((wOk ((a:Int)+b) (ugL a)&&wOk ((a:Int)+b) (frL a b)&&true)&&(List.range ((a:Int)+b).toNat).all fun j:Nat=>decide ((j:Int)∈ugL a++frL a b++([ugL a++frL a b]).flatten))))))))=true:=by decide
 exact key a (by omega) b (by omega)
def xE (k:Int) (a b:Gra):Gra:=if k=15 then pSeq a.1.toNat b.1.toNat a b else yK a.1.toNat b.1.toNat a b
def pC:Tr→Gra×Bool
 | .leaf n=>(iG n,true)
 | .node k a b=>if (pC a).2=true∧(pC b).2=true then ifG (xE k (pC a).1 (pC b).1) else (noG,false)
theorem ifG_ok {g:Gra} (h:(ifG g).2=true):gOk g=true∧(ifG g).1=g:=by
 unfold ifG at h ⊢
 split at h
 ·
  rename_i hg
  rw [if_pos hg];exact ⟨hg,rfl⟩
 · cases h
theorem Hh_ (n m:Nat) (a b:Gra):(pSeq n m a b).2.2.1.length=a.2.2.1.length∧(pSeq n m a b).2.2.2.length=b.2.2.2.length:=by
 unfold pSeq gluG mpG aL
 dsimp only
 rw [mp_len,mp_len,mp_len];exact ⟨rfl,rfl⟩
theorem Hi_ (n m:Nat) (a b:Gra):(yK n m a b).2.2.1.length=a.2.2.1.length+b.2.2.1.length∧(yK n m a b).2.2.2.length=a.2.2.2.length+b.2.2.2.length:=by
 unfold yK
 dsimp only
 rw [List.length_append,List.length_append,mp_len,mp_len];exact ⟨rfl,rfl⟩
def lens (g:Gra) (w:Int×Int):Prop:=(g.2.2.1.length:Int)=w.1∧(g.2.2.2.length:Int)=w.2
theorem qZ {k:Int}{a b:Gra}{x y w:Int×Int} (ha:lens a x) (hb:lens b y) (h:jn k x y=some w):lens (xE k a b) w∧(k=15→a.2.2.2.length=b.2.2.1.length):=by
 obtain ⟨a1,a2⟩:=ha
 obtain ⟨b1,b2⟩:=hb
 unfold xE
 unfold jn at h
 by_cases hk:k=15
 ·
  rw [if_pos hk] at h ⊢
  split at h
  ·
   obtain rfl:=Option.some.inj h
   have:=Hh_ a.1.toNat b.1.toNat a b
   exact ⟨⟨by dsimp only;omega,by dsimp only;omega⟩,fun _=>by omega⟩
  · cases h
 ·
  rw [if_neg hk] at h ⊢
  split at h
  ·
   obtain rfl:=Option.some.inj h
   have:=Hi_ a.1.toNat b.1.toNat a b
   exact ⟨⟨by dsimp only;omega,by dsimp only;omega⟩,fun h=>(hk h).elim⟩
  · cases h
theorem gN:∀ {T:Tr}{w:Int×Int},wD T=some w→(pC T).2=true→gOk (pC T).1=true∧lens (pC T).1 w
 | .leaf n,w,h,_=>by
  obtain ⟨h1,rfl⟩:=fK h
  have:=aU h1
  exact ⟨this.1,this.2.1,this.2.2⟩
 | .node k a b,w,h,hm=>by
  obtain ⟨hk,x,y,h1,h2,h3⟩:=aJ h
  unfold pC at hm ⊢
  split at hm
  ·
   rename_i hab
   rw [if_pos hab]
   obtain ⟨g1,g2⟩:=ifG_ok hm
   rw [g2]
   exact ⟨g1,(qZ (gN h1 hab.1).2 (gN h2 hab.2).2 h3).1⟩
  · cases hm
theorem D4_ {k:Int}{a b:Gra} (ga:gOk a=true) (gb:gOk b=true) (hl:k=15→a.2.2.2.length=b.2.2.1.length):(k=15→wS a b=some (xE k a b)∧kO a b=some (xE k a b))∧(k≠15→nY a b=some (xE k a b)∧lO a b=some (xE k a b)):=by
 obtain ⟨n,ha⟩:=oZ ga
 obtain ⟨m,hb⟩:=oZ gb
 have n1:=ha.n100;have m1:=hb.n100
 unfold xE
 rw [ha.w,hb.w,Int.toNat_natCast,Int.toNat_natCast]
 constructor
 · intro h;rw [if_pos h];exact ⟨hgSeq_ ha hb (hl h),F2_ ha hb (hl h)⟩
 · intro h;rw [if_neg h];exact ⟨bnd (Cr_ (by omega) (by omega) ha.w hb.w ha.rgd hb.rgd) rfl,F8_ (by omega) (by omega) ha.w hb.w ha.rgd hb.rgd⟩
theorem F0_ (n:Nod):uS (flat (.leaf n))=some n.1:=rfl
theorem FZ_ (k:Int) (a b:Tr) (hl:(flat (.node k a b)).length≤400):uS (flat (.node k a b))=some k:=by
 have hlen:(flat (.node k a b)).length=(flat a).length+(flat b).length+1:=by simp [flat];omega
 refine bnd (a:=(((flat a).length+(flat b).length:Nat):Int)) (by rw [hlen,cD (by omega) (by omega)];congr 1;omega) (bnd (a:=(k,0,.empty)) (qA ?_) rfl)
 show (flat a++flat b++[_])[_]?=_
 rw [List.getElem?_append_right (by simp)];simp
theorem AB_:∀ (fuel:Nat){T:Tr}{w:Int×Int},wD T=some w→(flat T).length≤400→(flat T).length≤fuel→qO fuel (flat T)=some (pC T)
 | 0,T,_,_,_,hf=>by have:=pF T;omega
 | fuel+1,.leaf n,w,h,hl,hf=>by
  obtain ⟨h1,rfl⟩:=fK h
  have hk:=tK h1
  exact bnd (F0_ n) (stp (cTW (dT (by omega)) (bnd (a:=n) rfl (bnd (vU h1) rfl))))
 | fuel+1,.node k a b,w,h,hl,hf=>by
  obtain ⟨hk,x,y,h1,h2,h3⟩:=aJ h
  have hpa:=pF a
  have hpb:=pF b
  have hlen:(flat (.node k a b)).length=(flat a).length+(flat b).length+1:=by simp [flat];omega
  have ia:=AB_ fuel h1 (by omega) (by omega)
  have ib:=AB_ fuel h2 (by omega) (by omega)
  refine bnd (FZ_ k a b hl) (stp (cFW (dF (by omega)) (bnd (G5_ h hl) (bnd ia (bnd ib ?_)))))
  rw [pC]
  cases ma:(pC a).2 with
  | false=>
   rw [if_neg (fun h=>by cases h.1)]
   exact bnd (a:=true) rfl rfl
  | true=>
   cases mb:(pC b).2 with
   | false=>
    rw [if_neg (fun h=>by cases h.2)]
    exact bnd (a:=true) rfl rfl
   | true=>
    rw [if_pos ⟨rfl,rfl⟩]
    obtain ⟨ga,la⟩:=gN h1 ma
    obtain ⟨gb,lb⟩:=gN h2 mb
    have hc:=D4_ (k:=k) ga gb (qZ la lb h3).2
    refine bnd (a:=false) rfl (cFW rfl ?_)
    by_cases h15:k=15
    · exact stp (cTW (dT h15) (bnd (hc.1 h15).1 (bnd (hgIf_ _) rfl)))
    · exact stp (cFW (dF h15) (bnd (hc.2 h15).1 (bnd (hgIf_ _) rfl)))
noncomputable def bR (t_:List Nod) (k11:Nat) (s383:List Gra):Option (List Gra⊕(Gra×Bool)):=
   (idxO t_ ((k11:Nat):Int)).bind fun a399=>
   (subO ((s383.length:Nat):Int) 1).bind fun a407=>
   (some (decide (a399.1=15))).bind fun a412=>
   cond a412
   ((subO a407 1).bind fun a522=>
    (idxO s383 a522).bind fun a530=>
    (idxO s383 a407).bind fun a542=>
    (kO (a530.1,a530.2.1,a530.2.2.1,a530.2.2.2) (a542.1,a542.2.1,a542.2.2.1,a542.2.2.2)).bind fun y548=>
    (subO a407 1).bind fun a558=>
    (fB s383 0 a558).bind fun a560=>
    (oI (y548.1,y548.2.1,y548.2.2.1,y548.2.2.2)).bind fun y564=>
    (some (!y564)).bind fun a567=>
    cond a567
    (some (.inr ((0,[],[],[]),false)))
    ((tA a560 [(y548.1,y548.2.1,y548.2.2.1,y548.2.2.2)]).bind fun a577=>
     some (.inl a577)))
   ((some (decide (a399.1=16))).bind fun a415=>
    cond a415
    ((subO a407 1).bind fun a454=>
     (idxO s383 a454).bind fun a462=>
     (idxO s383 a407).bind fun a474=>
     (lO (a462.1,a462.2.1,a462.2.2.1,a462.2.2.2) (a474.1,a474.2.1,a474.2.2.1,a474.2.2.2)).bind fun y480=>
     (subO a407 1).bind fun a490=>
     (fB s383 0 a490).bind fun a492=>
     (oI (y480.1,y480.2.1,y480.2.2.1,y480.2.2.2)).bind fun y496=>
     (some (!y496)).bind fun a499=>
     cond a499
     (some (.inr ((0,[],[],[]),false)))
     ((tA a492 [(y480.1,y480.2.1,y480.2.2.1,y480.2.2.2)]).bind fun a509=>
      some (.inl a509)))
    ((mO (a399.1,a399.2.1,a399.2.2)).bind fun y418=>
     (oI (y418.1,y418.2.1,y418.2.2.1,y418.2.2.2)).bind fun y428=>
     (some (!y428)).bind fun a431=>
     cond a431
     (some (.inr ((0,[],[],[]),false)))
     ((tA s383 [(y418.1,y418.2.1,y418.2.2.1,y418.2.2.2)]).bind fun a441=>
      some (.inl a441))))
theorem Gj_ {t:List Nod}{j:Nat}{n:Nod}{s:List Gra} (ht:t[j]?=some n) (hn:lfB n=true) (hs:s.length≤1000):bR t j s=some (.inl (s++[iG n])):=by
 have hm:iB=1099511627776:=rfl
 have hk:=tK hn
 refine bnd (qA ht) (bnd (cD (by omega) (by omega)) (stp (cFW (dF (by omega)) (stp (cFW (dF (by omega)) (bnd (Gb_ hn) (bnd (Ae_ _) (stp ?_))))))))
 rw [(aU hn).1]
 exact cFW rfl (bnd (vB (by simp;omega)) rfl)
theorem Gi_ {t:List Nod}{j:Nat}{k:Int}{s:List Gra}{a b:Gra} (ht:t[j]?=some (k,0,.empty)) (hk:k=15∨k=16) (hs:s.length≤1000) (ga:gOk a=true) (gb:gOk b=true) (hl:k=15→a.2.2.2.length=b.2.2.1.length) :
  bR t j (s++[a]++[b])=if gOk (xE k a b)=true then some (.inl (s++[xE k a b])) else some (.inr (noG,false)):=by
 have hm:iB=1099511627776:=rfl
 have hlen:(s++[a]++[b]).length=s.length+2:=by simp
 have e1:subO (((s++[a]++[b]).length:Nat):Int) 1=some ((s.length+1:Nat):Int):=by rw [hlen,cD (by omega) (by omega)];congr 1;omega
 have e2:subO ((s.length+1:Nat):Int) 1=some ((s.length:Nat):Int):=by rw [cD (by omega) (by omega)];congr 1;omega
 have i1:(s++[a]++[b])[s.length]?=some a:=by rw [List.append_assoc,List.getElem?_append_right (Nat.le_refl _),Nat.sub_self];rfl
 have i2:(s++[a]++[b])[s.length+1]?=some b:=by rw [List.append_assoc,List.getElem?_append_right (by omega),Nat.add_sub_cancel_left];rfl
 have sl:fB (s++[a]++[b]) 0 ((s.length:Nat):Int)=some s:=by
  unfold fB;rw [if_pos ⟨by omega,by omega,by rw [hlen];omega⟩,List.append_assoc]
  simp
 have hc:=D4_ (k:=k) ga gb hl
 refine bnd (qA ht) (bnd e1 ?_)
 by_cases h15:k=15
 ·
  refine stp (cTW (dT h15) (bnd e2 (bnd (qA i1) (bnd (qA i2) (bnd (hc.1 h15).2 (bnd e2 (bnd sl (bnd (Ae_ _) (stp ?_)))))))))
  cases hg:gOk (xE k a b) with
  | false=>rfl
  | true=>exact cFW rfl (bnd (vB (by simp;omega)) rfl)
 ·
  refine stp (cFW (dF h15) (stp (cTW (dT (by dsimp only;omega)) (bnd e2 (bnd (qA i1) (bnd (qA i2) (bnd (hc.2 h15).2 (bnd e2 (bnd sl (bnd (Ae_ _) (stp ?_)))))))))))
  cases hg:gOk (xE k a b) with
  | false=>rfl
  | true=>exact cFW rfl (bnd (vB (by simp;omega)) rfl)
theorem gT {σ τ:Type}{f:Nat→σ→Option (σ⊕τ)}{n k:Nat}{s s':σ} (h:f k s=some (.inl s')):lC f (n+1) k s=lC f n (k+1) s':=by
 show (f k s).bind _=_
 rw [h];rfl
theorem Ca_ {σ τ:Type}{f:Nat→σ→Option (σ⊕τ)}{n k:Nat}{s:σ}{r:τ} (h:f k s=some (.inr r)):lC f (n+1) k s=some (.inr r):=by
 show (f k s).bind _=_
 rw [h];rfl
theorem bZ {t:List Nod} (ht:t.length≤400):∀ {T:Tr}{w:Int×Int},wD T=some w→∀ (p q:List Nod) (r:List Gra),t=p++(flat T++q)→r.length≤p.length →
  lC (bR t) ((flat T).length+q.length) p.length r=if (pC T).2=true then lC (bR t) q.length (p.length+(flat T).length) (r++[(pC T).1]) else some (.inr (noG,false))
 | .leaf n,w,h,p,q,r,e,hr=>by
  obtain ⟨h1,rfl⟩:=fK h
  have hlt:p.length<t.length:=by rw [e];simp [flat]
  have hn:t[p.length]?=some n:=by rw [e,List.getElem?_append_right (Nat.le_refl _),Nat.sub_self];rfl
  rw [show (flat (.leaf n)).length+q.length=q.length+1 by simp [flat];omega,gT (Gj_ hn h1 (by omega))]
  rfl
 | .node k a b,w,h,p,q,r,e,hr=>by
  obtain ⟨hk,x,y,h1,h2,h3⟩:=aJ h
  have hlen:(flat (.node k a b)).length=(flat a).length+(flat b).length+1:=by simp [flat];omega
  have htl:t.length=p.length+((flat a).length+(flat b).length+1+q.length):=by rw [e,List.length_append,List.length_append,hlen]
  have ea:t=p++(flat a++(flat b++([((k,(0:Int),ByteArray.empty):Nod)]++q))):=by rw [e];simp [flat]
  have eb:t=(p++flat a)++(flat b++([((k,(0:Int),ByteArray.empty):Nod)]++q)):=by rw [ea];simp
  have hpa:=pF a
  have la:=bZ ht h1 p (flat b++([((k,(0:Int),ByteArray.empty):Nod)]++q)) r ea hr
  rw [show (flat (.node k a b)).length+q.length=(flat a).length+(flat b++([((k,(0:Int),ByteArray.empty):Nod)]++q)).length by rw [hlen];simp;omega,la,pC]
  cases ma:(pC a).2 with
  | false=>simp
  | true=>
   rw [if_pos rfl]
   have lb:=bZ ht h2 (p++flat a) ([((k,(0:Int),ByteArray.empty):Nod)]++q) (r++[(pC a).1]) eb (by simp;omega)
   rw [show (p++flat a).length=p.length+(flat a).length from List.length_append] at lb
   rw [show (flat b++([((k,(0:Int),ByteArray.empty):Nod)]++q)).length=(flat b).length+([((k,(0:Int),ByteArray.empty):Nod)]++q).length from List.length_append,lb]
   cases mb:(pC b).2 with
   | false=>simp
   | true=>
    have e3:(if true=true∧true=true then ifG (xE k (pC a).1 (pC b).1) else (noG,false))=ifG (xE k (pC a).1 (pC b).1):=if_pos ⟨rfl,rfl⟩
    have e4:∀ {α:Type} (u v:α),(if true=true then u else v)=u:=fun u v=>if_pos rfl
    rw [e3,e4]
    obtain ⟨ga,la⟩:=gN h1 ma
    obtain ⟨gb,lb⟩:=gN h2 mb
    have hn:t[p.length+(flat a).length+(flat b).length]?=some (k,0,.empty):=by
     rw [show t=(p++flat a++flat b)++([((k,(0:Int),ByteArray.empty):Nod)]++q) by rw [ea];simp,List.getElem?_append_right (by simp;omega)]
     simp [Nat.add_assoc]
    have st:=Gi_ (s:=r) hn hk (by omega) ga gb (qZ la lb h3).2
    rw [show ([((k,(0:Int),ByteArray.empty):Nod)]++q).length=q.length+1 by simp]
    by_cases hg:gOk (xE k (pC a).1 (pC b).1)=true
    ·
     rw [if_pos hg] at st
     have hi:ifG (xE k (pC a).1 (pC b).1)=(xE k (pC a).1 (pC b).1,true):=if_pos hg
     rw [gT st]
     simp only [hi,and_self,if_true]
     rw [hlen,show p.length+((flat a).length+(flat b).length+1)=p.length+(flat a).length+(flat b).length+1 by omega]
    ·
     rw [if_neg hg] at st
     have hi:ifG (xE k (pC a).1 (pC b).1)=(noG,false):=if_neg hg
     rw [Ca_ st]
     simp [hi]
theorem Hq_ {T:Tr}{w:Int×Int} (h:wD T=some w) (hl:(flat T).length≤400):nM (flat T)=some (pC T):=by
 have loop:=bZ hl h [] [] [] (by simp) (by simp)
 rw [List.length_nil,Nat.add_zero,Nat.zero_add,List.nil_append] at loop
 have e:nM (flat T)=eC (lC (bR (flat T)) (flat T).length 0 []) fun s590=>(idxO s590 0).bind fun a599=>some ((a599.1,a599.2.1,a599.2.2.1,a599.2.2.2),true):=rfl
 rw [e,loop]
 cases hm:(pC T).2 with
 | false=>
  have:pC T=(noG,false):=by
   cases T with
   | leaf n=>cases hm
   | node k a b=>
    rw [pC] at hm ⊢
    split
    ·
     rename_i hab
     rw [if_pos hab] at hm
     unfold ifG at hm ⊢
     split at hm
     · cases hm
     · rw [if_neg ‹_›]
    · rfl
  rw [if_neg (by simp),this];rfl
 | true=>
  rw [if_pos rfl]
  refine congrArg some (Prod.ext rfl hm.symm)
open Classical in
noncomputable def yG (t:List Nod):Gra×Bool:=if h:nC t=true then pC (Classical.choose (kP h)) else (noG,false)
theorem FO_ {t:List Nod} (h:nC t=true):∃ T w,t=flat T∧wD T=some w∧t.length≤400∧yG t=pC T:=by
 obtain ⟨w,h1,h2,h3⟩:=Classical.choose_spec (kP h)
 exact ⟨_,w,h1,h2,h3,by unfold yG;rw [dif_pos h]⟩
end Go.Proofs.YtlggnmkelgplnaaGreatDoor
namespace Go.Proofs.YtlggnmkelgplnaaGreatDoor
def selR (ends:List Nat) (v:List Int):List Int:=ends.map fun q=>el v q
theorem sN {ends:List Nat}{v:List Int}{j:Nat} (h:j<ends.length):el (selR ends v) j=el v (ends.getD j 0):=by
 unfold selR el
 rw [List.getD_eq_getElem?_getD,List.getElem?_map,List.getElem?_eq_getElem h,List.getD_eq_getElem?_getD (l:=ends),List.getElem?_eq_getElem h]
 rfl
theorem fV {f:List Int→List Int}{m:Rows}{i:Nat} (h:i<m.length):gr (m.map f) i=f (gr m i):=by
 unfold gr
 rw [List.getD_eq_getElem?_getD,List.getD_eq_getElem?_getD,List.getElem?_map,List.getElem?_eq_getElem h];rfl
theorem wZ {p:Int}{W:Nat}{V:Rows}{ends:List Nat} (hlt:∀ q∈ends,q<W){x y:List Int} (hx:cE p W V x) (hy:∀ j,j<ends.length→el y j % p=el x (ends.getD j 0) % p):cE p ends.length (V.map (selR ends)) y:=by
 obtain ⟨c,hc⟩:=hx
 refine ⟨c,fun j hj=>?_⟩
 have hm:ends.getD j 0<W:=by
  rw [List.getD_eq_getElem?_getD,List.getElem?_eq_getElem hj]
  exact hlt _ (List.getElem_mem hj)
 rw [hy j hj,hc _ hm,List.length_map]
 congr 1
 exact bD fun i hi=>by rw [fV hi,sN hj]
theorem cV {p:Int}{W:Nat}{V:Rows}{ends:List Nat} (hlt:∀ q∈ends,q<W) (h:okM p W V):okM p ends.length (V.map (selR ends)):=by
 intro r hr
 obtain ⟨v,hv,rfl⟩:=List.mem_map.1 hr
 obtain ⟨h1,h2⟩:=h v hv
 refine ⟨by simp [selR],fun x hx=>?_⟩
 obtain ⟨q,hq,rfl⟩:=List.mem_map.1 hx
 exact h2 _ (bH (by rw [h1];exact hlt q hq))
theorem Ay_ {p:Int}{W:Nat}{eqs G:Rows}{ends:List Nat} (hf:fdB p=true) (hlt:∀ q∈ends,q<W) (he:okM p W eqs) (hG:okM p ends.length G)
  (f1:∀ v:List Int,dH p W eqs v→cE p ends.length G (selR ends v))
  (f2:∀ i,i<G.length→∃ x,dH p W eqs x∧∀ j,j<ends.length→el (gr G i) j % p=el x (ends.getD j 0) % p) :
  bC p ends.length ((vF p W eqs).map (selR ends))=bC p ends.length G:=by
 have hN:=Aa_ (n:=W) (m:=eqs) hf
 refine BU_ hf (cV hlt hN.ok) hG (fun i hi=>?_) (fun i hi=>?_)
 ·
  rw [List.length_map] at hi
  rw [fV hi]
  exact f1 _ ((wT hf he _).1 (iF hi))
 ·
  obtain ⟨x,h1,h2⟩:=f2 i hi
  exact wZ hlt ((wT hf he x).2 h1) h2
def vV (p k v:Int):Rows:=
 if k=3 then [[p-1,1,0],[p-1,0,1]] else if k=5 then [[p-1,p-1,1]] else if k=6 then [[1]] else if k=7 then [[(p-v) % p,1]] else
 if k=9 then [[1,0,p-1],[0,1,p-1]] else if k=11 then [[1,p-1,p-1]] else if k=12 then [[1]] else if k=13 then [[1,(p-v) % p]] else []
def kK (k v:Int):Rows:=
 if k=3 then [[1,1,1]] else if k=4 then [[1]] else if k=5 then [[1,0,1],[0,1,1]] else if k=7 then [[1,v]] else
 if k=9 then [[1,1,1]] else if k=10 then [[1]] else if k=11 then [[1,1,0],[1,0,1]] else if k=13 then [[v,1]] else []
theorem D7_ {p v:Int} (hp:2≤p∧p≤97) (hv:0≤v∧v<p):oY p 0 v=some v:=by
 refine bnd (qB (by omega) (by omega)) (bnd (aH (by omega)) ?_)
 rw [Int.tmod_eq_emod_of_nonneg (by omega),Int.zero_add,Int.emod_eq_of_lt hv.1 hv.2]
theorem Ec_ {p:Int} (hp:2≤p∧p≤97){v w:Int} (hv:0≤v∧v<p) (hw:0≤w∧w<p) :
  gF p 1 [0] [v]=some [v]∧gF p 2 [1,0] [v,w]=some [w,v]∧gF p 2 [0,1] [v,w]=some [v,w] ∧
  gF p 3 [1,0] [v,w]=some [w,v,0]∧gF p 3 [2,0] [v,w]=some [w,0,v]∧gF p 3 [0,2] [v,w]=some [v,0,w]∧gF p 3 [1,2] [v,w]=some [0,v,w] ∧
  gF p 3 [2,0,1] [v,w,w]=some [w,w,v]∧gF p 3 [0,1,2] [v,w,w]=some [v,w,w]:=by
 have a1:=D7_ hp hv
 have a2:=D7_ hp hw
 have m1:mD (1:Int) (0:Int)=some [0]:=rfl
 have m2:mD (2:Int) (0:Int)=some [0,0]:=rfl
 have m3:mD (3:Int) (0:Int)=some [0,0,0]:=rfl
 refine ⟨?_,?_,?_,?_,?_,?_,?_,?_,?_⟩ <;> simp [gF,m1,m2,m3,forS,idxO,setO,a1,a2]
theorem hgSel_ {ends:List Nat}{v:List Int}{W:Nat} (hv:v.length=W) (hlt:∀ q∈ends,q<W) (hl:ends.length≤1000):sI (ends.map fun q:Nat=>(q:Int)) v=some (selR ends v):=by
 have hm:iB=1099511627776:=rfl
 have loop:=tE (f:=fun (k3:Nat) (s58:List Int)=>
   (idxO (ends.map fun q:Nat=>(q:Int)) ((k3:Nat):Int)).bind fun a75=>
   (idxO v a75).bind fun a83=>
   (tA s58 [a83]).bind fun a88=>
   some a88) (fun a:Int=>el v a.toNat) (ends.map fun q:Nat=>(q:Int)) [] (by simp;omega) (fun j a s hj hs=>by
  have hjl:=(List.getElem?_eq_some_iff.1 hj).1
  rw [List.length_map] at hjl
  rw [List.getElem?_map,List.getElem?_eq_getElem hjl] at hj
  obtain rfl:=Option.some.inj hj
  have hq:=hlt _ (List.getElem_mem hjl)
  refine bnd (qA (by rw [List.getElem?_map,List.getElem?_eq_getElem hjl];rfl)) (bnd (iE (by omega)) (bnd (vB (by simp at hs ⊢;omega)) ?_))
  rw [Int.toNat_natCast])
 refine bnd loop (congrArg some ?_)
 rw [List.nil_append,List.map_map]
 unfold selR
 exact List.map_congr_left fun q _=>by show el v ((q:Int)).toNat=_;rw [Int.toNat_natCast]
theorem gZ (k:Int):tJ k=some (decide (k≠8∧k≠14)):=by
 unfold tJ
 by_cases h1:k=8
 · simp [h1]
 · by_cases h2:k=14 <;> simp [h1,h2]
theorem asked_ {p:Int}{g:Gra} (hf:fdB p=true) (hg:gOk g=true) (he:∀ e∈g.2.1,e.2.1<p∧e.1≠8∧e.1≠14):gX p g=some true:=by
 have h1:xX p g=some true:=by
  refine bnd (a:=false) (bnd (AV_ p) (stp (by rw [hf];exact cFW rfl (bnd (CT_ g) (stp (by rw [hg];rfl)))))) (cFW rfl (sqW (zG (fun e:Edg=>decide (¬p≤e.2.1)) g.2.1 0 (t:=false) (fun j e hj=>?_)) ?_))
  ·
   rw [Nat.zero_add]
   have:=(he e (aD hj)).1
   refine bnd (qA hj) (stp (cFW (dF (by omega)) ?_))
   rw [show decide (¬p≤e.2.1)=true from dT (by omega)];rfl
  · rw [List.all_eq_true.2 fun e h=>dT (by have:=(he e h).1;omega)];rfl
 refine bnd h1 (stp (cFW rfl (sqW (zG (fun e:Edg=>decide (e.1≠8∧e.1≠14)) g.2.1 0 (t:=false) (fun j e hj=>?_)) ?_)))
 ·
  rw [Nat.zero_add]
  have:=(he e (aD hj)).2
  refine bnd (qA hj) (bnd (gZ e.1) (stp ?_))
  rw [dT this];rfl
 · rw [List.all_eq_true.2 fun e h=>dT (he e h).2];rfl
theorem Ak_ {p:Int}{W a b:Nat}{E:List Edg}{I O:List Int}{ends:List Nat}{eqs:Rows} (hf:fdB p=true) (hg:gOk ((W:Int),E,I,O)=true) (he:∀ e∈E,e.2.1<p∧e.1≠8∧e.1≠14)
  (hI:I.length=a) (hO:O.length=b) (hends:I++O=ends.map fun q:Nat=>(q:Int)) (hlt:∀ q∈ends,q<W) (hq:okM p W eqs) (hql:eqs.length≤1000)
  (hrows:forS (fun (k7:Nat) (s70:List (List Int))=>
   (idxO E ((k7:Nat):Int)).bind fun a87=>
   (bP p (W:Int) (a87.1,a87.2.1,a87.2.2.1,a87.2.2.2)).bind fun y99=>
   (tA s70 y99).bind fun a104=>
   some a104) E.length 0 []=some eqs):fX p ((W:Int),E,I,O)=some (((a:Int),(b:Int),bC p (a+b) ((vF p W eqs).map (selR ends))),true):=by
 have hm:iB=1099511627776:=rfl
 obtain ⟨n,hgk⟩:=oZ hg
 have hW:W≤100:=by have:=hgk.w;have:=hgk.n100;dsimp only at *;omega
 have hi12:=hgk.i12;have ho12:=hgk.o12
 dsimp only at hi12 ho12
 have hel:ends.length=a+b:=by
  have:=congrArg List.length hends
  rw [List.length_append,List.length_map] at this;omega
 have hN:=Aa_ (n:=W) (m:=eqs) hf
 have hNl:=fN hf hN
 have hV:xW p ((W:Int),E,I,O)=some (vF p W eqs):=bnd hrows (bnd (Dk_ hf (by omega) hq (by omega)) rfl)
 have hsel:=tE (f:=fun (k32:Nat) (s111:List (List Int))=>
    (idxO (vF p W eqs) ((k32:Nat):Int)).bind fun a128=>
    (sI (I++O) a128).bind fun y132=>
    (tA s111 [y132]).bind fun a140=>
    some a140) (selR ends) (vF p W eqs) [] (by simp;omega) (fun j v s hj hs=>by
  have hv:=(hN.ok v (aD hj)).1
  have hjl:=(List.getElem?_eq_some_iff.1 hj).1
  have:=hgSel_ hv hlt (by omega)
  rw [←hends] at this
  exact bnd (qA hj) (bnd this (bnd (vB (by simp at hs ⊢;omega)) rfl)))
 have hok:=cV hlt hN.ok
 rw [hel] at hok
 have hred:=vP hf (Nat.le_refl (a+b)) (by omega) hok (by simp;omega)
 refine bnd (asked_ hf hg he) (stp (cFW rfl (bnd (own_ (by dsimp only;omega)) (bnd (vB (by dsimp only;omega)) (bnd hV (bnd hsel ?_))))))
 refine bnd (a:=((a:Int),(b:Int),bC p (a+b) ((vF p W eqs).map (selR ends)))) ?_ rfl
 dsimp only
 rw [hI,hO]
 refine bnd (a:=((a+b:Nat):Int)) (by rw [qB (by omega) (by omega)];congr 1) (bnd ?_ rfl)
 exact hred
end Go.Proofs.YtlggnmkelgplnaaGreatDoor
namespace Go.Proofs.YtlggnmkelgplnaaGreatDoor
theorem sg1 (f:Nat→Int):sg 1 f=f 0:=by simp [sg]
theorem sg2 (f:Nat→Int):sg 2 f=f 0+f 1:=by simp [sg]
theorem sg3 (f:Nat→Int):sg 3 f=f 0+f 1+f 2:=by simp [sg]
theorem cgr {p c d x y:Int} (h:(c+d) % p=0):(c*x+y) % p=0↔y % p=(d*x) % p:=by
 have e:c*x+y=(c+d)*x+(y-d*x):=by rw [Int.add_mul];omega
 rw [e,Int.add_emod,Int.mul_emod,h,Int.zero_mul,Int.zero_emod,Int.zero_add,Int.emod_emod_of_dvd _ (Int.dvd_refl p)]
 exact (Int.emod_eq_emod_iff_emod_sub_eq_zero).symm
theorem cg1 {p:Int}:(p-1+1) % p=0:=by rw [Int.sub_add_cancel,Int.emod_self]
theorem cgv {p v:Int}:((p-v) % p+v) % p=0:=by rw [Da_,Int.sub_add_cancel,Int.emod_self]
structure Mate (p:Int) (N:Nat) (E G:Rows):Prop where
 e:okM p N E
 el:E.length≤1000
 g:okM p N G
 gl:G.length≤1000
 f1:∀ v:List Int,dH p N E v→∃ c:Nat→Int,∀ j,j<N→Go.Proofs.YtlggnmkelgplnaaGreatDoor.el v j % p=sg G.length (fun i=>c i*Go.Proofs.YtlggnmkelgplnaaGreatDoor.el (gr G i) j) % p
 f2:∀ i,i<G.length→dH p N E (gr G i)
theorem Mate.red {p:Int}{N:Nat}{E G:Rows} (hf:fdB p=true) (h:Mate p N E G):bC p N ((vF p N E).map (selR (List.range N)))=bC p N G:=by
 have:=Ay_ (p:=p) (W:=N) (eqs:=E) (G:=G) (ends:=List.range N) hf (fun q hq=>List.mem_range.1 hq) h.e (by rw [List.length_range];exact h.g) (fun v hv=>?_) (fun i hi=>⟨gr G i,h.f2 i hi,fun j hj=>?_⟩)
 · rwa [List.length_range] at this
 ·
  obtain ⟨c,hc⟩:=h.f1 v hv
  rw [List.length_range]
  refine ⟨c,fun j hj=>?_⟩
  rw [sN (by rw [List.length_range];exact hj),← hc j hj]
  congr 2
  rw [List.getD_eq_getElem?_getD,List.getElem?_range hj];rfl
 ·
  rw [List.length_range] at hj
  congr 2
  rw [List.getD_eq_getElem?_getD,List.getElem?_range hj];rfl
theorem oE {p:Int}{n:Nat}{r:List Int} (h:r.length=n) (h2:inP p r):okM p n [r]:=fun x hx=>by
 rw [List.mem_singleton.1 hx];exact ⟨h,h2⟩
theorem okM2 {p:Int}{n:Nat}{r s:List Int} (h:okM p n [r]) (h2:okM p n [s]):okM p n [r,s]:=fun x hx=>by
 rcases List.mem_cons.1 hx with rfl | hx
 · exact h x (by simp)
 · exact h2 x hx
theorem j1 {P:Nat→Prop} (h0:P 0):∀ j,j<1→P j:=fun j hj=>by
 obtain rfl:j=0:=by omega
 exact h0
theorem j2 {P:Nat→Prop} (h0:P 0) (h1:P 1):∀ j,j<2→P j:=fun j hj=>by
 match j,hj with
 | 0,_=>exact h0
 | 1,_=>exact h1
theorem j3 {P:Nat→Prop} (h0:P 0) (h1:P 1) (h2:P 2):∀ j,j<3→P j:=fun j hj=>by
 match j,hj with
 | 0,_=>exact h0
 | 1,_=>exact h1
 | 2,_=>exact h2
theorem pE {p a:Int} (h:0≤a∧a<p):inP p [a]:=fun x hx=>by rw [List.mem_singleton.1 hx];exact h
theorem wC {p a:Int}{l:List Int} (h:0≤a∧a<p) (hl:inP p l):inP p (a::l):=fun x hx=>by
 rcases List.mem_cons.1 hx with rfl | hx
 · exact h
 · exact hl x hx
section
variable {p v:Int} (hp:2≤p∧p≤97) (hv:0≤v∧v<p)
include hp
theorem mate3:Mate p 3 [[p-1,1,0],[p-1,0,1]] [[1,1,1]]:=by
 have b0:(0:Int)≤0∧(0:Int)<p:=⟨by omega,by omega⟩
 have b1:(0:Int)≤1∧(1:Int)<p:=⟨by omega,by omega⟩
 have bp:(0:Int)≤p-1∧p-1<p:=⟨by omega,by omega⟩
 refine ⟨okM2 (oE rfl (wC bp (wC b1 (pE b0)))) (oE rfl (wC bp (wC b0 (pE b1)))),by simp,oE rfl (wC b1 (wC b1 (pE b1))),by simp,fun x hx=>⟨fun _=>el x 0,?_⟩,j1 (j2 ?_ ?_)⟩
 ·
  have h0:((p-1)*el x 0+el x 1) % p=0:=by
   have:=hx 0 (by simp)
   rw [sg3] at this
   have h:((p-1)*el x 0+1*el x 1+0*el x 2) % p=0:=this
   rwa [Int.one_mul,Int.zero_mul,Int.add_zero] at h
  have h1:((p-1)*el x 0+el x 2) % p=0:=by
   have:=hx 1 (by simp)
   rw [sg3] at this
   have h:((p-1)*el x 0+0*el x 1+1*el x 2) % p=0:=this
   rwa [Int.one_mul,Int.zero_mul,Int.add_zero] at h
  have k0:=(cgr cg1).1 h0
  have k1:=(cgr cg1).1 h1
  rw [Int.one_mul] at k0 k1
  refine j3 ?_ ?_ ?_
  ·
   show _=sg 1 _ % p
   rw [sg1]
   show el x 0 % p=(el x 0*1) % p
   rw [Int.mul_one]
  ·
   show _=sg 1 _ % p
   rw [sg1]
   show el x 1 % p=(el x 0*1) % p
   rw [Int.mul_one,k0]
  ·
   show _=sg 1 _ % p
   rw [sg1]
   show el x 2 % p=(el x 0*1) % p
   rw [Int.mul_one,k1]
 ·
  rw [sg3]
  show ((p-1)*1+1*1+0*1) % p=0
  rw [show ((p-1)*1+1*1+0*1:Int)=p by omega,Int.emod_self]
 ·
  rw [sg3]
  show ((p-1)*1+0*1+1*1) % p=0
  rw [show ((p-1)*1+0*1+1*1:Int)=p by omega,Int.emod_self]
theorem mate4:Mate p 1 ([]:Rows) ([[1]]:Rows):=by
 have b0:(0:Int)≤0∧(0:Int)<p:=⟨by omega,by omega⟩
 have b1:(0:Int)≤1∧(1:Int)<p:=⟨by omega,by omega⟩
 have bp:(0:Int)≤p-1∧p-1<p:=⟨by omega,by omega⟩
 refine ⟨(fun x hx=>by cases hx),by simp,(oE rfl (pE b1)),by simp,fun x hx=>⟨fun _=>el x 0,?_⟩,?_⟩
 ·
  refine j1 ?_
  ·
   show _=sg 1 _ % p
   rw [sg1]
   show el x 0 % p=(el x 0*1) % p
   first | (simp;done) | (simp only [Int.mul_one,Int.mul_zero,Int.add_zero,Int.zero_add];assumption)
 · intro i hi k hk;simp at hk
theorem mate6:Mate p 1 ([[1]]:Rows) ([]:Rows):=by
 have b0:(0:Int)≤0∧(0:Int)<p:=⟨by omega,by omega⟩
 have b1:(0:Int)≤1∧(1:Int)<p:=⟨by omega,by omega⟩
 have bp:(0:Int)≤p-1∧p-1<p:=⟨by omega,by omega⟩
 refine ⟨(oE rfl (pE b1)),by simp,(fun x hx=>by cases hx),by simp,fun x hx=>⟨fun _=>0,?_⟩,?_⟩
 ·
  have q0:(1*el x 0) % p=0:=by
   have:=hx 0 (by simp)
   rw [sg1] at this
   exact this
  have k0:el x 0 % p=0:=by rwa [Int.one_mul] at q0
  refine j1 ?_
  ·
   show el x 0 % p=(0:Int) % p
   rw [k0,Int.zero_emod]
 · intro i hi;simp at hi
theorem mate5:Mate p 3 ([[p-1,p-1,1]]:Rows) ([[1,0,1],[0,1,1]]:Rows):=by
 have b0:(0:Int)≤0∧(0:Int)<p:=⟨by omega,by omega⟩
 have b1:(0:Int)≤1∧(1:Int)<p:=⟨by omega,by omega⟩
 have bp:(0:Int)≤p-1∧p-1<p:=⟨by omega,by omega⟩
 refine ⟨(oE rfl (wC bp (wC bp (pE b1)))),by simp,(okM2 (oE rfl (wC b1 (wC b0 (pE b1)))) (oE rfl (wC b0 (wC b1 (pE b1))))),by simp,fun x hx=>⟨fun i=>el x i,?_⟩,?_⟩
 ·
  have q0:((p-1)*el x 0+(p-1)*el x 1+1*el x 2) % p=0:=by
   have:=hx 0 (by simp)
   rw [sg3] at this
   exact this
  have k0:el x 2 % p=(el x 0+el x 1) % p:=by
   have:=(cgr (x:=el x 0+el x 1) (y:=el x 2) cg1).1 (by rw [←q0];congr 1;rw [Int.mul_add];omega)
   rwa [Int.one_mul] at this
  refine j3 ?_ ?_ ?_
  ·
   show _=sg 2 _ % p
   rw [sg2]
   show el x 0 % p=(el x 0*1+el x 1*0) % p
   first | (simp;done) | (simp only [Int.mul_one,Int.mul_zero,Int.add_zero,Int.zero_add];assumption)
  ·
   show _=sg 2 _ % p
   rw [sg2]
   show el x 1 % p=(el x 0*0+el x 1*1) % p
   first | (simp;done) | (simp only [Int.mul_one,Int.mul_zero,Int.add_zero,Int.zero_add];assumption)
  ·
   show _=sg 2 _ % p
   rw [sg2]
   show el x 2 % p=(el x 0*1+el x 1*1) % p
   first | (simp;done) | (simp only [Int.mul_one,Int.mul_zero,Int.add_zero,Int.zero_add];assumption)
 ·
  refine j2 ?_ ?_
  ·
   refine j1 ?_
   ·
    rw [sg3]
    show ((p-1)*1+(p-1)*0+1*1) % p=0
    first | (rw [show ((p-1)*1+(p-1)*0+1*1:Int)=p by omega,Int.emod_self]) | (rw [show ((p-1)*0+(p-1)*1+1*1:Int)=p by omega,Int.emod_self]) | (rw [show (1*1+0*1+(p-1)*1:Int)=p by omega,Int.emod_self]) | (rw [show (0*1+1*1+(p-1)*1:Int)=p by omega,Int.emod_self]) | (rw [show (1*1+(p-1)*1+(p-1)*0:Int)=p by omega,Int.emod_self]) | (rw [show (1*1+(p-1)*0+(p-1)*1:Int)=p by omega,Int.emod_self])
  ·
   refine j1 ?_
   ·
    rw [sg3]
    show ((p-1)*0+(p-1)*1+1*1) % p=0
    first | (rw [show ((p-1)*1+(p-1)*0+1*1:Int)=p by omega,Int.emod_self]) | (rw [show ((p-1)*0+(p-1)*1+1*1:Int)=p by omega,Int.emod_self]) | (rw [show (1*1+0*1+(p-1)*1:Int)=p by omega,Int.emod_self]) | (rw [show (0*1+1*1+(p-1)*1:Int)=p by omega,Int.emod_self]) | (rw [show (1*1+(p-1)*1+(p-1)*0:Int)=p by omega,Int.emod_self]) | (rw [show (1*1+(p-1)*0+(p-1)*1:Int)=p by omega,Int.emod_self])
theorem mate9:Mate p 3 ([[1,0,p-1],[0,1,p-1]]:Rows) ([[1,1,1]]:Rows):=by
 have b0:(0:Int)≤0∧(0:Int)<p:=⟨by omega,by omega⟩
 have b1:(0:Int)≤1∧(1:Int)<p:=⟨by omega,by omega⟩
 have bp:(0:Int)≤p-1∧p-1<p:=⟨by omega,by omega⟩
 refine ⟨(okM2 (oE rfl (wC b1 (wC b0 (pE bp)))) (oE rfl (wC b0 (wC b1 (pE bp))))),by simp,(oE rfl (wC b1 (wC b1 (pE b1)))),by simp,fun x hx=>⟨fun _=>el x 2,?_⟩,?_⟩
 ·
  have q0:(1*el x 0+0*el x 1+(p-1)*el x 2) % p=0:=by
   have:=hx 0 (by simp)
   rw [sg3] at this
   exact this
  have q1:(0*el x 0+1*el x 1+(p-1)*el x 2) % p=0:=by
   have:=hx 1 (by simp)
   rw [sg3] at this
   exact this
  have k0:el x 0 % p=el x 2 % p:=by
   have:=(cgr (x:=el x 2) (y:=el x 0) cg1).1 (by rw [←q0];congr 1;omega)
   rwa [Int.one_mul] at this
  have k1:el x 1 % p=el x 2 % p:=by
   have:=(cgr (x:=el x 2) (y:=el x 1) cg1).1 (by rw [←q1];congr 1;omega)
   rwa [Int.one_mul] at this
  refine j3 ?_ ?_ ?_
  ·
   show _=sg 1 _ % p
   rw [sg1]
   show el x 0 % p=(el x 2*1) % p
   first | (simp;done) | (simp only [Int.mul_one,Int.mul_zero,Int.add_zero,Int.zero_add];assumption)
  ·
   show _=sg 1 _ % p
   rw [sg1]
   show el x 1 % p=(el x 2*1) % p
   first | (simp;done) | (simp only [Int.mul_one,Int.mul_zero,Int.add_zero,Int.zero_add];assumption)
  ·
   show _=sg 1 _ % p
   rw [sg1]
   show el x 2 % p=(el x 2*1) % p
   first | (simp;done) | (simp only [Int.mul_one,Int.mul_zero,Int.add_zero,Int.zero_add];assumption)
 ·
  refine j1 ?_
  ·
   refine j2 ?_ ?_
   ·
    rw [sg3]
    show (1*1+0*1+(p-1)*1) % p=0
    first | (rw [show ((p-1)*1+(p-1)*0+1*1:Int)=p by omega,Int.emod_self]) | (rw [show ((p-1)*0+(p-1)*1+1*1:Int)=p by omega,Int.emod_self]) | (rw [show (1*1+0*1+(p-1)*1:Int)=p by omega,Int.emod_self]) | (rw [show (0*1+1*1+(p-1)*1:Int)=p by omega,Int.emod_self]) | (rw [show (1*1+(p-1)*1+(p-1)*0:Int)=p by omega,Int.emod_self]) | (rw [show (1*1+(p-1)*0+(p-1)*1:Int)=p by omega,Int.emod_self])
   ·
    rw [sg3]
    show (0*1+1*1+(p-1)*1) % p=0
    first | (rw [show ((p-1)*1+(p-1)*0+1*1:Int)=p by omega,Int.emod_self]) | (rw [show ((p-1)*0+(p-1)*1+1*1:Int)=p by omega,Int.emod_self]) | (rw [show (1*1+0*1+(p-1)*1:Int)=p by omega,Int.emod_self]) | (rw [show (0*1+1*1+(p-1)*1:Int)=p by omega,Int.emod_self]) | (rw [show (1*1+(p-1)*1+(p-1)*0:Int)=p by omega,Int.emod_self]) | (rw [show (1*1+(p-1)*0+(p-1)*1:Int)=p by omega,Int.emod_self])
theorem mate11:Mate p 3 ([[1,p-1,p-1]]:Rows) ([[1,1,0],[1,0,1]]:Rows):=by
 have b0:(0:Int)≤0∧(0:Int)<p:=⟨by omega,by omega⟩
 have b1:(0:Int)≤1∧(1:Int)<p:=⟨by omega,by omega⟩
 have bp:(0:Int)≤p-1∧p-1<p:=⟨by omega,by omega⟩
 refine ⟨(oE rfl (wC b1 (wC bp (pE bp)))),by simp,(okM2 (oE rfl (wC b1 (wC b1 (pE b0)))) (oE rfl (wC b1 (wC b0 (pE b1))))),by simp,fun x hx=>⟨fun i=>el x (i+1),?_⟩,?_⟩
 ·
  have q0:(1*el x 0+(p-1)*el x 1+(p-1)*el x 2) % p=0:=by
   have:=hx 0 (by simp)
   rw [sg3] at this
   exact this
  have k0:el x 0 % p=(el x 1+el x 2) % p:=by
   have:=(cgr (x:=el x 1+el x 2) (y:=el x 0) cg1).1 (by rw [←q0];congr 1;rw [Int.mul_add];omega)
   rwa [Int.one_mul] at this
  refine j3 ?_ ?_ ?_
  ·
   show _=sg 2 _ % p
   rw [sg2]
   show el x 0 % p=(el x 1*1+el x 2*1) % p
   first | (simp;done) | (simp only [Int.mul_one,Int.mul_zero,Int.add_zero,Int.zero_add];assumption)
  ·
   show _=sg 2 _ % p
   rw [sg2]
   show el x 1 % p=(el x 1*1+el x 2*0) % p
   first | (simp;done) | (simp only [Int.mul_one,Int.mul_zero,Int.add_zero,Int.zero_add];assumption)
  ·
   show _=sg 2 _ % p
   rw [sg2]
   show el x 2 % p=(el x 1*0+el x 2*1) % p
   first | (simp;done) | (simp only [Int.mul_one,Int.mul_zero,Int.add_zero,Int.zero_add];assumption)
 ·
  refine j2 ?_ ?_
  ·
   refine j1 ?_
   ·
    rw [sg3]
    show (1*1+(p-1)*1+(p-1)*0) % p=0
    first | (rw [show ((p-1)*1+(p-1)*0+1*1:Int)=p by omega,Int.emod_self]) | (rw [show ((p-1)*0+(p-1)*1+1*1:Int)=p by omega,Int.emod_self]) | (rw [show (1*1+0*1+(p-1)*1:Int)=p by omega,Int.emod_self]) | (rw [show (0*1+1*1+(p-1)*1:Int)=p by omega,Int.emod_self]) | (rw [show (1*1+(p-1)*1+(p-1)*0:Int)=p by omega,Int.emod_self]) | (rw [show (1*1+(p-1)*0+(p-1)*1:Int)=p by omega,Int.emod_self])
  ·
   refine j1 ?_
   ·
    rw [sg3]
    show (1*1+(p-1)*0+(p-1)*1) % p=0
    first | (rw [show ((p-1)*1+(p-1)*0+1*1:Int)=p by omega,Int.emod_self]) | (rw [show ((p-1)*0+(p-1)*1+1*1:Int)=p by omega,Int.emod_self]) | (rw [show (1*1+0*1+(p-1)*1:Int)=p by omega,Int.emod_self]) | (rw [show (0*1+1*1+(p-1)*1:Int)=p by omega,Int.emod_self]) | (rw [show (1*1+(p-1)*1+(p-1)*0:Int)=p by omega,Int.emod_self]) | (rw [show (1*1+(p-1)*0+(p-1)*1:Int)=p by omega,Int.emod_self])
include hv
theorem mate7:Mate p 2 ([[(p-v) % p,1]]:Rows) ([[1,v]]:Rows):=by
 have b0:(0:Int)≤0∧(0:Int)<p:=⟨by omega,by omega⟩
 have b1:(0:Int)≤1∧(1:Int)<p:=⟨by omega,by omega⟩
 have bp:(0:Int)≤p-1∧p-1<p:=⟨by omega,by omega⟩
 have bv:(0:Int)≤(p-v) % p∧(p-v) % p<p:=nK hp.1
 refine ⟨(oE rfl (wC bv (pE b1))),by simp,(oE rfl (wC b1 (pE hv))),by simp,fun x hx=>⟨fun _=>el x 0,?_⟩,?_⟩
 ·
  have q0:(((p-v) % p)*el x 0+1*el x 1) % p=0:=by
   have:=hx 0 (by simp)
   rw [sg2] at this
   exact this
  have k0:el x 1 % p=(el x 0*v) % p:=by
   have:=(cgr (x:=el x 0) (y:=el x 1) (cgv (v:=v))).1 (by rw [←q0];congr 1;omega)
   rwa [Int.mul_comm] at this
  refine j2 ?_ ?_
  ·
   show _=sg 1 _ % p
   rw [sg1]
   show el x 0 % p=(el x 0*1) % p
   first | (simp;done) | (simp only [Int.mul_one,Int.mul_zero,Int.add_zero,Int.zero_add];assumption)
  ·
   show _=sg 1 _ % p
   rw [sg1]
   show el x 1 % p=(el x 0*v) % p
   exact k0
 ·
  refine j1 ?_
  ·
   refine j1 ?_
   ·
    rw [sg2]
    show (((p-v) % p)*1+1*v) % p=0
    rw [Int.mul_one,Int.one_mul];exact cgv
theorem mate13:Mate p 2 ([[1,(p-v) % p]]:Rows) ([[v,1]]:Rows):=by
 have b0:(0:Int)≤0∧(0:Int)<p:=⟨by omega,by omega⟩
 have b1:(0:Int)≤1∧(1:Int)<p:=⟨by omega,by omega⟩
 have bp:(0:Int)≤p-1∧p-1<p:=⟨by omega,by omega⟩
 have bv:(0:Int)≤(p-v) % p∧(p-v) % p<p:=nK hp.1
 refine ⟨(oE rfl (wC b1 (pE bv))),by simp,(oE rfl (wC hv (pE b1))),by simp,fun x hx=>⟨fun _=>el x 1,?_⟩,?_⟩
 ·
  have q0:(1*el x 0+((p-v) % p)*el x 1) % p=0:=by
   have:=hx 0 (by simp)
   rw [sg2] at this
   exact this
  have k0:el x 0 % p=(el x 1*v) % p:=by
   have:=(cgr (x:=el x 1) (y:=el x 0) (cgv (v:=v))).1 (by rw [←q0];congr 1;omega)
   rwa [Int.mul_comm] at this
  refine j2 ?_ ?_
  ·
   show _=sg 1 _ % p
   rw [sg1]
   show el x 0 % p=(el x 1*v) % p
   exact k0
  ·
   show _=sg 1 _ % p
   rw [sg1]
   show el x 1 % p=(el x 1*1) % p
   first | (simp;done) | (simp only [Int.mul_one,Int.mul_zero,Int.add_zero,Int.zero_add];assumption)
 ·
  refine j1 ?_
  ·
   refine j1 ?_
   ·
    rw [sg2]
    show (1*v+((p-v) % p)*1) % p=0
    rw [Int.mul_one,Int.one_mul,Int.add_comm];exact cgv
end
theorem xT {p k v:Int} (hp:2≤p∧p≤97) (hk:rng k 3 14=true) (h8:k≠8) (h14:k≠14) (hv:0≤v∧v<p):Mate p ((kd k).1.toNat+(kd k).2.toNat) (vV p k v) (kK k v):=by
 have:=rng_true.1 hk
 have hc:k=3∨k=4∨k=5∨k=6∨k=7∨k=9∨k=10∨k=11∨k=12∨k=13:=by omega
 rcases hc with rfl | rfl | rfl | rfl | rfl | rfl | rfl | rfl | rfl | rfl
 · exact mate3 hp
 · exact mate4 hp
 · exact mate5 hp
 · exact mate6 hp
 · exact mate7 hp hv
 · exact mate9 hp
 · exact mate4 hp
 · exact mate11 hp
 · exact mate6 hp
 · exact mate13 hp hv
theorem dnRows_ {p k v:Int} (hp:2≤p∧p≤97) (hk:rng k 3 14=true) (h8:k≠8) (h14:k≠14) (hv:0≤v∧v<p) :
  bP p ((kd k).1+(kd k).2) (k,v,ugL (kd k).1.toNat,frL (kd k).1.toNat (kd k).2.toNat)=some (vV p k v):=by
 have:=rng_true.1 hk
 have b0:(0:Int)≤0∧(0:Int)<p:=⟨by omega,by omega⟩
 have b1:(0:Int)≤1∧(1:Int)<p:=⟨by omega,by omega⟩
 have bp:(0:Int)≤p-1∧p-1<p:=⟨by omega,by omega⟩
 have bv:(0:Int)≤(p-v) % p∧(p-v) % p<p:=nK hp.1
 obtain ⟨r1,r2,r3,r4,r5,r6,r7,r8,r9⟩:=Ec_ hp b1 bp
 obtain ⟨_,s2,s3,_⟩:=Ec_ hp b1 bv
 have sp:subO p 1=some (p-1):=cD (by omega) (by omega)
 have ng:=AU_ hp hv
 have hc:k=3∨k=4∨k=5∨k=6∨k=7∨k=9∨k=10∨k=11∨k=12∨k=13:=by omega
 have u0:ugL 0=[]:=rfl
 have u1:ugL 1=[0]:=rfl
 have u2:ugL 2=[0,1]:=rfl
 have f01:frL 0 1=[0]:=rfl
 have f11:frL 1 1=[1]:=rfl
 have f12:frL 1 2=[1,2]:=rfl
 have f21:frL 2 1=[2]:=rfl
 have f10:frL 1 0=[]:=rfl
 have q3:subO 9 9=some 0:=rfl
 have q4:subO 10 9=some 1:=rfl
 have q5:subO 11 9=some 2:=rfl
 have q6:subO 12 9=some 3:=rfl
 have q7:subO 13 9=some 4:=rfl
 have t0:sA 0 3=some 3:=rfl
 have t1:sA 1 3=some 4:=rfl
 have t2:sA 2 3=some 5:=rfl
 have t3:sA 3 3=some 6:=rfl
 have t4:sA 4 3=some 7:=rfl
 unfold vV
 generalize (p-v) % p=q at ng s2 s3 ⊢
 rcases hc with rfl | rfl | rfl | rfl | rfl | rfl | rfl | rfl | rfl | rfl <;>
  simp [bP,kd,idxO,sp,ng,r1,r2,r3,r4,r5,r6,r7,r8,r9,s2,s3,u0,u1,u2,f01,f11,f12,f21,f10,q3,q4,q5,q6,q7,t0,t1,t2,t3,t4]
theorem F7_ (a b:Nat):ugL a++frL a b=(List.range (a+b)).map fun q:Nat=>(q:Int):=by
 unfold ugL frL
 rw [List.range_add,List.map_append,List.map_map]
 congr 1
 refine List.map_congr_left fun q _=>?_
 show (q:Int)+a=((a+q:Nat):Int)
 omega
theorem Ax_ {n:Nod} (h:lfB n=true) (h1:n.1≠1) (h2:n.1≠2):rng n.1 3 14=true∧0≤n.2.1:=by
 have hk:=tK h
 refine ⟨rng_true.2 (by omega),?_⟩
 unfold lfB at h
 simp only [Bool.and_eq_true] at h
 have h3:=h.2.2
 rw [if_neg h1] at h3
 split at h3
 · exact (rng_true.1 h3).1
 · have:=of_decide_eq_true h3;omega
theorem Gk_ {p:Int}{n:Nod} (hf:fdB p=true) (h:lfB n=true) (h1:n.1≠1) (h2:n.1≠2) (h8:n.1≠8) (h14:n.1≠14) (hv:n.2.1<p) :
  jL p n=some ((kd n.1).1,(kd n.1).2,bC p ((kd n.1).1.toNat+(kd n.1).2.toNat) (kK n.1 n.2.1)):=by
 have hp:=cC hf
 obtain ⟨hr,h0⟩:=Ax_ h h1 h2
 obtain ⟨k,v,s⟩:=n
 dsimp only at *
 have hM:=xT hp hr h8 h14 ⟨h0,hv⟩
 have hR:=dnRows_ hp hr h8 h14 ⟨h0,hv⟩
 have hG:=aU h
 have hL:=vU h
 have eL:iG (k,v,s)=((kd k).1+(kd k).2,[(k,v,ugL (kd k).1.toNat,frL (kd k).1.toNat (kd k).2.toNat)],ugL (kd k).1.toNat,frL (kd k).1.toNat (kd k).2.toNat):=by
  unfold iG;dsimp only;rw [if_neg h1,if_neg h2]
 rw [eL] at hG hL
 obtain ⟨a,b,hk,ha,hb⟩:=pN k
 rw [hk] at hM hR hG hL ⊢
 dsimp only [Int.toNat_natCast] at hM hR hG hL ⊢
 have e1:((a:Int)+(b:Int))=((a+b:Nat):Int):=by omega
 rw [e1] at hR hG hL
 have hm:iB=1099511627776:=rfl
 have hD:=Ak_ (W:=a+b) (a:=a) (b:=b) (ends:=List.range (a+b)) (eqs:=vV p k v) hf hG.1 (fun e he=>by
  rw [List.mem_singleton.1 he];exact ⟨hv,h8,h14⟩) (ugL_len a) (frL_len a b) (F7_ a b) (fun q hq=>List.mem_range.1 hq) hM.e hM.el
  (bnd (bnd (a:=(k,v,ugL a,frL a b)) rfl (bnd hR (bnd (vB (by have:=hM.el;simp;omega)) rfl))) (by rw [List.nil_append];rfl))
 rw [hM.red hf] at hD
 exact bnd hL (bnd hD rfl)
end Go.Proofs.YtlggnmkelgplnaaGreatDoor
namespace Go.Proofs.YtlggnmkelgplnaaGreatDoor
instance (s:ByteArray) (l:List ByteArray):Decidable (s∈l):=decidable_of_iff (l.any (fun a=>decide (a=s))=true) (by simp [List.any_eq_true])
def bt (s:ByteArray) (i:Nat):Int:=((s.data[i]?.getD 0).toNat:Int)
theorem mV {s:ByteArray}{i:Nat} (h:i<s.size):vC s (i:Int)=some (bt s i):=by
 unfold vC bt
 rw [if_pos (by omega),Int.toNat_natCast]
 have h2:i<s.data.size:=h
 rw [Array.getElem?_eq_getElem h2]
 have:s[i]?=some s.data[i]:=by
  rw [getElem?_pos s i h];rfl
 rw [this];rfl
def tH (x:Int):Bool:=rng x 97 122
def digB (x:Int):Bool:=rng x 48 57
def wH (x:Int):Bool:=tH x||digB x
def rG:List ByteArray:=[⟨#[105,100]⟩,⟨#[115,119,97,112]⟩,⟨#[99,111,112,121]⟩,⟨#[100,105,115,99,97,114,100]⟩,⟨#[97,100,100]⟩,⟨#[122,101,114,111]⟩,⟨#[115,99,97,108,101]⟩,⟨#[100,101,108,97,121]⟩,⟨#[99,111,99,111,112,121]⟩,⟨#[99,111,100,105,115,99,97,114,100]⟩,⟨#[99,111,97,100,100]⟩,⟨#[99,111,122,101,114,111]⟩,⟨#[99,111,115,99,97,108,101]⟩,⟨#[99,111,100,101,108,97,121]⟩]
def vH (s:ByteArray):Bool:=(List.range s.size).all fun i=>wH (bt s i)
def nmB (s:ByteArray):Bool:=rng (s.size:Int) 1 8&&(tH (bt s 0)&&(vH s&&!decide (s∈rG)))
theorem chrs_true {s:ByteArray}:vH s=true↔∀ i,i<s.size→wH (bt s i)=true:=by
 unfold vH
 rw [List.all_eq_true]
 exact ⟨fun h i hi=>h i (List.mem_range.2 hi),fun h i hi=>h i (List.mem_range.1 hi)⟩
theorem rng_false {x a b:Int}:rng x a b=false↔¬(a≤x∧x≤b):=by
 rw [←rng_true];simp
theorem l1HasS_ (l:List ByteArray) (s:ByteArray):wX l s=some (decide (s∈l)):=by
 refine sqW (zG (fun a=>!decide (a=s)) l 0 ?_ (t:=true)) ?_
 ·
  intro j a hj
  rw [Nat.zero_add]
  refine bnd (qA hj) (stp ?_)
  by_cases h:a=s
  · rw [dT h];rfl
  · rw [dF h];rfl
 ·
  have:(l.all fun a=>!decide (a=s))=!decide (s∈l):=by
   rw [Bool.eq_iff_iff,List.all_eq_true]
   constructor
   ·
    intro h
    simp only [Bool.not_eq_true',decide_eq_false_iff_not]
    intro hv
    have:=h s hv
    simp at this
   ·
    intro h a ha
    simp only [Bool.not_eq_true',decide_eq_false_iff_not] at h ⊢
    rintro rfl;exact h ha
  rw [this]
  cases decide (s∈l) <;> rfl
theorem lbWord_ (s:ByteArray):tX s=some (rng (s.size:Int) 1 8&&(tH (bt s 0)&&vH s)):=by
 cases hr:rng (s.size:Int) 1 8 with
 | false=>exact bnd (a:=true) (bnd (l1In _ _ _) (stp (by rw [hr];rfl))) rfl
 | true=>
  have hl:=rng_true.1 hr
  have h0:vC s 0=some (bt s 0):=mV (i:=0) (by omega)
  cases hb:tH (bt s 0) with
  | false=>
   have hb:=rng_false.1 hb
   have hk:((some (decide ((bt s 0:Int)<97))).bind fun a32=>
   cond a32
   (some true)
   ((vC s 0).bind fun a35=>
    (some (decide ((122:Int)<a35))).bind fun a37=>
    some a37))=some true:=by
    by_cases h1:bt s 0<97
    · exact stp (cTW (dT h1) rfl)
    · exact stp (cFW (dF h1) (bnd h0 (stp (congrArg some (dT (by omega))))))
   exact bnd (a:=true) (bnd (l1In _ _ _) (stp (by rw [hr];exact cFW rfl (bnd h0 hk)))) rfl
  | true=>
   have hb1:=rng_true.1 hb
   refine bnd (a:=false) (bnd (l1In _ _ _) (stp (by rw [hr];exact cFW rfl (bnd h0 (stp (cFW (dF (by omega)) (bnd h0 (stp (congrArg some (dF (by omega)))))))))) ) (cFW rfl ?_)
   obtain ⟨t,h1,h2⟩:=BY_ (s:=(1:Int)) (f:=fun (s469:Int)=>
    (some (decide (s469<((s.size:Nat):Int)))).bind fun a478=>
    cond a478
    (((vC s s469).bind fun a521=>
      (some (decide ((a521:Int)<97))).bind fun a523=>
      cond a523
      ((vC s s469).bind fun a543=>
       (some (decide ((a543:Int)<48))).bind fun a545=>
       cond a545
       (some true)
       ((vC s s469).bind fun a548=>
        (some (decide ((57:Int)<a548))).bind fun a550=>
        some a550))
      ((vC s s469).bind fun a526=>
       (some (decide ((122:Int)<a526))).bind fun a528=>
       cond a528
       ((vC s s469).bind fun a532=>
        (some (decide ((a532:Int)<48))).bind fun a534=>
        cond a534
        (some true)
        ((vC s s469).bind fun a537=>
         (some (decide ((57:Int)<a537))).bind fun a539=>
         some a539))
       (some false))).bind fun (s515:Bool)=>
     cond s515
     (some (.inr (.inr false)))
     ((sA s469 1).bind fun a556=>
      some (.inl a556)))
    (some (.inr (.inl ())))) (fun k=>∃ j:Nat,k=(j:Int)∧1≤j∧j≤s.size∧∀ i,i<j→wH (bt s i)=true)
    (fun r=>r=if vH s=true then Sum.inl () else Sum.inr false) (fun k=>s.size-k.toNat) (by
     rintro k ⟨j,rfl,hj1,hj2,hall⟩
     by_cases hj:j<s.size
     ·
      have hs:=mV hj
      have hch:(((vC s ((j:Nat):Int)).bind fun a521=>
      (some (decide ((a521:Int)<97))).bind fun a523=>
      cond a523
      ((vC s ((j:Nat):Int)).bind fun a543=>
       (some (decide ((a543:Int)<48))).bind fun a545=>
       cond a545
       (some true)
       ((vC s ((j:Nat):Int)).bind fun a548=>
        (some (decide ((57:Int)<a548))).bind fun a550=>
        some a550))
      ((vC s ((j:Nat):Int)).bind fun a526=>
       (some (decide ((122:Int)<a526))).bind fun a528=>
       cond a528
       ((vC s ((j:Nat):Int)).bind fun a532=>
        (some (decide ((a532:Int)<48))).bind fun a534=>
        cond a534
        (some true)
        ((vC s ((j:Nat):Int)).bind fun a537=>
         (some (decide ((57:Int)<a537))).bind fun a539=>
         some a539))
       (some false))))=some (!wH (bt s j)):=by
       rw [hs]
       simp only [Option.bind_some]
       generalize bt s j=x
       unfold wH tH digB rng
       by_cases c1:x<97
       ·
        by_cases c2:x<48
        · simp [c1,c2,show ¬97≤x by omega,show ¬48≤x by omega]
        ·
         by_cases c3:57<x
         · simp [c1,c2,c3,show ¬97≤x by omega,show ¬x≤57 by omega]
         · simp [c1,c2,c3,show ¬97≤x by omega,show 48≤x by omega,show x≤57 by omega]
       ·
        by_cases c2:122<x
        · simp [c1,c2,show ¬x<48 by omega,show ¬x≤122 by omega,show ¬x≤57 by omega,show 57<x by omega]
        · simp [c1,c2,show 97≤x by omega,show x≤122 by omega]
      cases hc:wH (bt s j) with
      | true=>
       rw [hc] at hch
       refine .inl ⟨((j+1:Nat):Int),stp (cTW (dT (by omega)) (bnd hch (cFW rfl (bnd (qB (by omega) (by omega)) rfl)))),⟨j+1,rfl,by omega,by omega,fun i hi=>?_⟩,by omega⟩
       by_cases hij:i=j
       · subst hij;exact hc
       · exact hall i (by omega)
      | false=>
       rw [hc] at hch
       refine .inr ⟨.inr false,stp (cTW (dT (by omega)) (bnd hch (cTW rfl rfl))),?_⟩
       rw [if_neg (fun h=>by have:=chrs_true.1 h j hj;rw [hc] at this;cases this)]
     ·
      refine .inr ⟨.inl (),stp (cFW (dF (by omega)) rfl),?_⟩
      rw [if_pos (chrs_true.2 fun i hi=>hall i (by omega))]) ⟨1,rfl,by omega,by omega,fun i hi=>by
       obtain rfl:i=0:=by omega
       unfold wH;rw [hb];rfl⟩
   refine sqW h1 ?_
   rw [h2]
   cases vH s <;> rfl
theorem lbName_ (s:ByteArray):uX s=some (nmB s):=by
 unfold nmB
 refine bnd (a:=rng (s.size:Int) 1 8&&(tH (bt s 0)&&(vH s&&!decide (s∈rG)))) (bnd (lbWord_ s) ?_) rfl
 cases rng (s.size:Int) 1 8 <;> cases tH (bt s 0) <;> cases vH s <;> try rfl
 exact cTW rfl (bnd (a:=rG) rfl (bnd (l1HasS_ _ _) rfl))
theorem kindOf_ (s:ByteArray) (h:1≤s.size):∃ k,eY s=some k∧decide (k=17)=!decide (s∈rG):=by
 have hw:uW=some (.empty::rG):=rfl
 have hne:s≠.empty:=by rintro rfl;exact absurd h (by decide)
 rcases dU (n:=(ByteArray.empty::rG).length) (s:=()) (f:=fun (k6:Nat) (_:Unit)=>
   (idxO (ByteArray.empty::rG) ((k6:Nat):Int)).bind fun a36=>
   (some (decide ((a36:ByteArray)=s))).bind fun a38=>
   cond a38
   (some (.inr ((k6:Nat):Int)))
   (some (.inl ()))) (fun j _=>∀ i,i<j→(ByteArray.empty::rG)[i]?≠some s) (fun r=>s∈rG∧r<17) (fun i hi=>by omega) (by
   intro j u hj hall
   have hg:=List.getElem?_eq_getElem hj
   by_cases h:(ByteArray.empty::rG)[j]=s
   ·
    refine .inr ⟨((j:Nat):Int),bnd (qA hg) (stp (cTW (dT h) rfl)),?_,?_⟩
    ·
     have:=List.getElem_mem hj
     rw [h] at this
     rcases List.mem_cons.1 this with h | h
     · exact (hne h).elim
     · exact h
    ·
     have:(ByteArray.empty::rG).length=15:=rfl
     omega
   ·
    refine .inl ⟨(),bnd (qA hg) (stp (cFW (dF h) rfl)),fun i hi=>?_⟩
    by_cases hij:i=j
    · subst hij;rw [hg];exact fun h'=>h (Option.some.inj h')
    · exact hall i (by omega)) with ⟨u,h1,h2⟩ | ⟨k,h1,h2,h3⟩
 ·
  refine ⟨17,bnd hw (sqW h1 rfl),?_⟩
  have:s ∉ rG:=fun hm=>by
   obtain ⟨i,hi,he⟩:=List.mem_iff_getElem.1 hm
   exact h2 (i+1) (by simpa using hi) (by rw [List.getElem?_cons_succ,List.getElem?_eq_getElem hi,he])
  rw [dF this];rfl
 ·
  refine ⟨k,bnd hw (sqW h1 rfl),?_⟩
  rw [dT h2,dF (by omega)];rfl
theorem cU (x:Int):gL x=some (tH x):=by
 unfold gL tH rng
 by_cases h1:97≤x <;> by_cases h2:x≤122 <;> simp [h1,h2]
theorem Hn_ (x:Int):mM x=some (digB x):=by
 unfold mM digB rng
 by_cases h1:48≤x <;> by_cases h2:x≤57 <;> simp [h1,h2]
theorem isName_ (s:ByteArray):mS s=some (nmB s):=by
 unfold nmB
 cases hr:rng (s.size:Int) 1 8 with
 | false=>exact bnd (a:=true) (bnd (within_ _ _ _) (stp (by rw [hr];rfl))) rfl
 | true=>
  have hl:=rng_true.1 hr
  have h0:vC s 0=some (bt s 0):=mV (i:=0) (by omega)
  cases hb:tH (bt s 0) with
  | false=>exact bnd (a:=true) (bnd (within_ _ _ _) (stp (by rw [hr];exact cFW rfl (bnd h0 (bnd (cU _) (stp (by rw [hb];rfl))))))) rfl
  | true=>
   obtain ⟨k,k1,k2⟩:=kindOf_ s (by omega)
   cases hw:decide (s∈rG) with
   | true=>
    rw [hw] at k2
    have:mS s=some false:=bnd (a:=true) (bnd (within_ _ _ _) (stp (by rw [hr];exact cFW rfl (bnd h0 (bnd (cU _) (stp (by rw [hb];exact cFW rfl (bnd k1 (stp (by rw [k2];rfl)))))))))) rfl
    rw [this];cases vH s <;> rfl
   | false=>
    rw [hw] at k2
    refine bnd (a:=false) (bnd (within_ _ _ _) (stp (by rw [hr];exact cFW rfl (bnd h0 (bnd (cU _) (stp (by rw [hb];exact cFW rfl (bnd k1 (stp (by rw [k2];rfl))))))))) ) (cFW rfl ?_)
    refine bnd (uK ⟨by omega,by omega⟩) ?_
    have loop:=dU (n:=s.size) (s:=()) (f:=fun (k52:Nat) (_:Unit)=>
    ((vC s ((k52:Nat):Int)).bind fun a130=>
     (gL a130).bind fun y132=>
     (some (!y132)).bind fun a135=>
     cond a135
     ((vC s ((k52:Nat):Int)).bind fun a139=>
      (mM a139).bind fun y141=>
      (some (!y141)).bind fun a144=>
      some a144)
     (some false)).bind fun (s124:Bool)=>
    cond s124
    (some (.inr false))
    (some (.inl ()))) (fun j _=>∀ i,i<j→wH (bt s i)=true) (fun r=>r=false∧vH s=false) (fun i hi=>by omega) (by
     intro j u hj hall
     have hs:=mV hj
     have hch:((vC s ((j:Nat):Int)).bind fun a130=>
     (gL a130).bind fun y132=>
     (some (!y132)).bind fun a135=>
     cond a135
     ((vC s ((j:Nat):Int)).bind fun a139=>
      (mM a139).bind fun y141=>
      (some (!y141)).bind fun a144=>
      some a144)
     (some false))=some (!wH (bt s j)):=by
      refine bnd hs (bnd (cU _) (stp ?_))
      unfold wH
      cases tH (bt s j) with
      | true=>rfl
      | false=>exact cTW rfl (bnd hs (bnd (Hn_ _) rfl))
     cases hc:wH (bt s j) with
     | true=>
      rw [hc] at hch
      refine .inl ⟨(),bnd hch rfl,fun i hi=>?_⟩
      by_cases hij:i=j
      · subst hij;exact hc
      · exact hall i (by omega)
     | false=>
      rw [hc] at hch
      refine .inr ⟨false,bnd hch rfl,rfl,?_⟩
      cases hq:vH s with
      | false=>rfl
      | true=>have:=chrs_true.1 hq j hj;rw [hc] at this;cases this)
    rw [Int.toNat_natCast]
    rcases loop with ⟨u,h1,h2⟩ | ⟨r,h1,rfl,h2⟩
    ·
     refine sqW h1 ?_
     rw [chrs_true.2 h2];rfl
    ·
     refine sqW h1 ?_
     rw [h2];rfl
theorem De_ (t:List Nod):aS t=some (if nC t=true then ((tyT t).1,(tyT t).2,true) else (0,0,false)):=by
 obtain ⟨x,h1,h2⟩:=Az_ t
 refine bnd (fZ h1) (stp ?_)
 cases hv:nC t with
 | false=>rfl
 | true=>
  obtain ⟨T,w,rfl,hw,hl⟩:=kP hv
  have hp:=pF T
  have hr:=sL hw []
  obtain ⟨_,⟨_,_,s3,s4,_⟩,_⟩:=h2 _ hr (rng_true.2 (by omega))
  have ht:tyT (flat T)=w:=by unfold tyT;rw [hr]
  rw [ht]
  exact cFW rfl (bnd (a:=(((flat T).length-1:Nat):Int)) (by rw [cD (by omega) (by omega)];congr 1;omega) (bnd (qA s3) (bnd (qA s4) rfl)))
theorem wires_ (t:List Nod):∃ w,iO t=some (w,nC t)∧(nC t=true→w=tyT t):=by
 obtain ⟨w,h1,h2⟩:=DN_ t
 exact ⟨w,bnd h1 rfl,h2⟩
theorem tU {t:List Nod} (h:nC t=true):fS t=some (yG t)∧nM t=some (yG t):=by
 obtain ⟨T,w,rfl,h2,h3,h4⟩:=FO_ h
 rw [h4]
 exact ⟨AB_ 1000000 h2 h3 (by omega),Hq_ h2 h3⟩
abbrev Rul:=ByteArray×List Nod×List Nod
def qH (r:Rul):Bool:=nmB r.1&&(nC r.2.1&&(nC r.2.2&&(decide ((tyT r.2.1).1=(tyT r.2.2).1)&&decide ((tyT r.2.1).2=(tyT r.2.2).2))))
noncomputable def qK (r:Rul):Bool:=qH r&&((yG r.2.1).2&&(yG r.2.2).2)
theorem aZ {r:Rul} (h:qH r=true):nmB r.1=true∧nC r.2.1=true∧nC r.2.2=true∧(tyT r.2.1).1=(tyT r.2.2).1∧(tyT r.2.1).2=(tyT r.2.2).2:=by
 unfold qH at h
 simpa only [Bool.and_eq_true,decide_eq_true_eq] using h
theorem Hb_ (r:Rul):dX r=some (if qH r=true then ((yG r.2.1).1,(yG r.2.2).1,(yG r.2.1).2&&(yG r.2.2).2) else (noG,noG,false)):=by
 refine bnd (De_ _) (bnd (De_ _) (bnd (a:=!qH r) (bnd (lbName_ _) ?_) ?_))
 ·
  unfold qH
  cases nmB r.1 <;> cases nC r.2.1 <;> cases nC r.2.2 <;> try rfl
  simp only [if_true,Option.bind_some,Bool.not_true,cond_false,Bool.true_and]
  by_cases h1:(tyT r.2.1).1=(tyT r.2.2).1
  · simp [h1]
  · simp [h1]
 ·
  cases hh:qH r with
  | false=>rfl
  | true=>
   obtain ⟨_,v1,v2,_,_⟩:=aZ hh
   refine cFW rfl (bnd (tU v1).1 (bnd (tU v2).1 ?_))
   cases h:(yG r.2.1).2 with
   | true=>rfl
   | false=>rfl
theorem rwIs_ (r:Rul):sY r=some (qK r):=by
 refine bnd (Hb_ r) ?_
 unfold qK
 cases qH r <;> rfl
theorem isRule_ (r:Rul):gY r=some (qK r):=by
 obtain ⟨w1,a1,b1⟩:=wires_ r.2.1
 obtain ⟨w2,a2,b2⟩:=wires_ r.2.2
 refine bnd a1 (bnd a2 (bnd (a:=!qH r) ?_ ?_))
 ·
  unfold qH
  cases hv1:nC r.2.1 with
  | false=>cases nmB r.1 <;> rfl
  | true=>
   cases hv2:nC r.2.2 with
   | false=>cases nmB r.1 <;> rfl
   | true=>
    rw [b1 hv1,b2 hv2]
    refine stp (cFW rfl (stp (cFW rfl (stp ?_))))
    by_cases h1:(tyT r.2.1).1=(tyT r.2.2).1
    ·
     by_cases h2:(tyT r.2.1).2=(tyT r.2.2).2
     ·
      refine cFW (nT (dT (by rw [h1,h2]))) (bnd (isName_ _) (stp ?_))
      rw [h1,h2];simp
     ·
      refine cTW (nF (dF (by simp [h1,h2]))) ?_
      simp [h2]
    ·
     refine cTW (nF (dF (by simp [h1]))) ?_
     simp [h1]
 ·
  unfold qK
  cases hh:qH r with
  | false=>rfl
  | true=>
   obtain ⟨_,v1,v2,_,_⟩:=aZ hh
   refine cFW rfl (bnd (tU v1).2 (bnd (tU v2).2 ?_))
   cases h:(yG r.2.1).2 <;> rfl
def ovN (p:Int) (n:Nod):Bool:=!(decide (n.1=7∨n.1=13)&&decide (p≤n.2.1))
def ovB (p:Int) (t:List Nod):Bool:=nC t&&(fdB p&&t.all (ovN p))
theorem GT_ (k:Int):kM k=some (decide (k=7∨k=13)):=by
 unfold kM
 by_cases h1:k=7
 · simp [h1]
 · by_cases h2:k=13 <;> simp [h1,h2]
theorem An_ (p:Int) (t:List Nod):xO p t=some (ovB p t):=by
 obtain ⟨x,h1,_⟩:=Az_ t
 unfold ovB
 refine bnd (fZ h1) ?_
 cases hv:nC t with
 | false=>rfl
 | true=>
  cases hf:fdB p with
  | false=>exact bnd (a:=true) (stp (cFW rfl (bnd (AV_ p) (stp (by rw [hf];rfl))))) rfl
  | true=>
   refine bnd (a:=false) (stp (cFW rfl (bnd (AV_ p) (stp (by rw [hf];rfl))))) (cFW rfl ?_)
   refine sqW (zG (ovN p) t 0 ?_ (t:=false)) ?_
   ·
    intro j n hj
    rw [Nat.zero_add]
    refine bnd (qA hj) ?_
    unfold ovN
    by_cases k7:n.1=7
    · by_cases hp:p≤n.2.1 <;> simp [k7,hp]
    ·
     by_cases k13:n.1=13
     · by_cases hp:p≤n.2.1 <;> simp [k13,hp]
     · simp [k7,k13]
   · cases t.all (ovN p) <;> rfl
theorem AA_ (p:Int) (t:List Nod):fO t p=some (ovB p t):=by
 unfold ovB
 cases hf:fdB p with
 | false=>
  refine (bnd (a:=true) (bnd (Af_ p) (stp (by rw [hf];rfl))) rfl:_=some false).trans ?_
  cases nC t <;> rfl
 | true=>
  cases hv:nC t with
  | false=>exact bnd (a:=true) (bnd (Af_ p) (stp (by rw [hf];exact cFW rfl (bnd (CS_ t) (stp (by rw [hv];rfl)))))) rfl
  | true=>
   refine bnd (a:=false) (bnd (Af_ p) (stp (by rw [hf];exact cFW rfl (bnd (CS_ t) (stp (by rw [hv];rfl)))))) (cFW rfl ?_)
   refine sqW (zG (ovN p) t 0 ?_ (t:=false)) ?_
   ·
    intro j n hj
    rw [Nat.zero_add]
    refine bnd (qA hj) ?_
    have hh:=GT_ n.1
    unfold ovN
    by_cases k:n.1=7∨n.1=13
    · by_cases hp:p≤n.2.1 <;> simp [hh,k,hp]
    · simp [hh,k]
   · cases t.all (ovN p) <;> rfl
noncomputable def dI (p:Int) (r:Rul):Bool:=qK r&&(ovB p r.2.1&&ovB p r.2.2)
theorem B8_ (p:Int) (r:Rul):iY p r=some (dI p r):=by
 refine bnd (a:=dI p r) (bnd (isRule_ r) ?_) rfl
 unfold dI
 cases qK r with
 | false=>rfl
 | true=>
  refine cTW rfl (bnd (AA_ p r.2.1) ?_)
  cases ovB p r.2.1 with
  | false=>rfl
  | true=>exact cTW rfl (bnd (AA_ p r.2.2) rfl)
end Go.Proofs.YtlggnmkelgplnaaGreatDoor
namespace Go.Proofs.YtlggnmkelgplnaaGreatDoor
theorem jT {p:Int}{a b:Nat}{G:Rows} (hf:fdB p=true) (hN:a+b≤1000) (hG:okM p (a+b) G) (hl:G.length≤10000):uJ p (a:Int) (b:Int) G=some ((a:Int),(b:Int),bC p (a+b) G):=by
 have hred:=uT hf (Nat.le_refl (a+b)) (by omega) hG (by omega)
 refine bnd (a:=((a+b:Nat):Int)) (by rw [qB (by omega) (by omega)];congr 1) (bnd hred rfl)
def tF (l:Nat) (x:List Int):List Int:=x.drop l++x.take l
def swpE (l r:Nat):List Nat:=(List.range r).map (fun q=>l+q)++List.range l
theorem CD_ (l r:Nat):(swpE l r).length=r+l:=by simp [swpE]
theorem jU {l r:Nat}:∀ q∈swpE l r,q<l+r:=by
 intro q hq
 rcases List.mem_append.1 hq with h | h
 ·
  obtain ⟨t,ht,rfl⟩:=List.mem_map.1 h
  have:=List.mem_range.1 ht;omega
 · have:=List.mem_range.1 h;omega
theorem Di_ {l r:Nat}{x:List Int} (h:x.length=l+r):tF l x=selR (swpE l r) x:=by
 refine xQ (by simp [tF,selR,swpE,h]) (fun j hj=>?_)
 have hj2:j<r+l:=by simp [tF] at hj;omega
 rw [sN (by rw [CD_];exact hj2)]
 unfold tF swpE
 have ld:(x.drop l).length=r:=by simp;omega
 rw [el_app2,ld,List.getD_eq_getElem?_getD]
 by_cases c:j<r
 · rw [if_pos c,el_drop2,List.getElem?_append_left (by simpa using c),List.getElem?_map,List.getElem?_range c];rfl
 · rw [if_neg c,Aj_ (by omega),List.getElem?_append_right (by simpa using c),List.length_map,List.length_range,List.getElem?_range (by omega)];rfl
theorem GX_ {p:Int}{l r:Nat}{B:Rows} (hf:fdB p=true) (hN:l+r≤1000) (hB:okM p (l+r) B) (hL:B.length≤1000):aX p ((l:Int),(r:Int),B)=some ((r:Int),(l:Int),bC p (r+l) (B.map (tF l))):=by
 have hm:iB=1099511627776:=rfl
 have e:cW ((l:Int),(r:Int),B) ((l:Int),(r:Int),B)=some (B.map (tF l)):=by
  refine bnd (tE (tF l) B [] (by simp;omega) (fun j x s hj hs=>?_)) rfl
  have hx:=(hB x (aD hj)).1
  have hjl:=(List.getElem?_eq_some_iff.1 hj).1
  have hjo:=pQ (l:=[x.drop l,x.take l]) (by simp;omega)
  refine bnd (qA hj) (bnd (bnd (mU (l:=l) rfl (by omega)) (bnd (first_ (l:=l) rfl (by omega)) (bnd hjo rfl))) (bnd (vB (by simp at hs ⊢;omega)) ?_))
  simp [tF]
 have hok:okM p (r+l) (B.map (tF l)):=by
  intro y hy
  obtain ⟨x,hx,rfl⟩:=List.mem_map.1 hy
  obtain ⟨h1,h2⟩:=hB x hx
  refine ⟨by simp [tF];omega,fun z hz=>?_⟩
  rcases List.mem_append.1 hz with h | h
  · exact h2 z (List.mem_of_mem_drop h)
  · exact h2 z (List.mem_of_mem_take h)
 exact bnd e (bnd (jT hf (by omega) hok (by simp;omega)) rfl)
theorem swp_red {p:Int}{l r:Nat}{G:Rows} (hf:fdB p=true) (hG:okM p (l+r) G):bC p (r+l) ((bC p (l+r) G).map (tF l))=bC p (r+l) (G.map (tF l)):=by
 have hR:=bG hf hG
 obtain ⟨s1,s2⟩:=oL hf hG
 have m1:(bC p (l+r) G).map (tF l)=(bC p (l+r) G).map (selR (swpE l r)):=List.map_congr_left fun x hx=>Di_ (hR.ok x hx).1
 have m2:G.map (tF l)=G.map (selR (swpE l r)):=List.map_congr_left fun x hx=>Di_ (hG x hx).1
 rw [m1,m2,← CD_ l r]
 refine BU_ hf (cV jU hR.ok) (cV jU hG) (fun i hi=>?_) (fun i hi=>?_)
 ·
  rw [List.length_map] at hi
  rw [fV hi]
  exact wZ jU (s1 i hi) (fun j hj=>by rw [sN hj])
 ·
  rw [List.length_map] at hi
  rw [fV hi]
  exact wZ jU (s2 i hi) (fun j hj=>by rw [sN hj])
theorem Br_ {k v:Int} (h:k=3∨k=4∨k=5∨k=6∨k=7):mR k v=some (kK k v):=by
 rcases h with rfl | rfl | rfl | rfl | rfl <;> rfl
theorem BV_ {k:Int} (h:9≤k∧k≤13):tR k=some (k-6):=by
 refine bnd (within_ k 3 8) ?_
 rw [show rng k 3 8=false from rng_false.2 (by omega)]
 refine cFW rfl (bnd (within_ k 9 14) ?_)
 rw [show rng k 9 14=true from rng_true.2 (by omega)]
 refine cTW rfl (bnd (cD (by omega) (by omega)) (bnd (qB (by omega) (by omega)) ?_))
 congr 1;omega
theorem FW_ {p:Int}{n:Nod} (hf:fdB p=true) (h:lfB n=true) (h1:n.1≠1) (h2:n.1≠2) (h8:n.1≠8) (h14:n.1≠14) (hv:n.2.1<p) :
  cL p n=some ((kd n.1).1,(kd n.1).2,bC p ((kd n.1).1.toNat+(kd n.1).2.toNat) (kK n.1 n.2.1)):=by
 have hp:=cC hf
 obtain ⟨hr,h0⟩:=Ax_ h h1 h2
 obtain ⟨k,v,s⟩:=n
 dsimp only at *
 have hb:=rng_true.1 hr
 have hM:=xT hp hr h8 h14 ⟨h0,hv⟩
 by_cases h9:9≤k
 ·
  have hc:k=9∨k=10∨k=11∨k=12∨k=13:=by omega
  have hr6:rng (k-6) 3 14=true:=rng_true.2 (by omega)
  have hM6:=xT (p:=p) (k:=k-6) (v:=v) hp hr6 (by omega) (by omega) ⟨h0,hv⟩
  have hsw:(kd (k-6)).1=(kd k).2∧(kd (k-6)).2=(kd k).1∧(kK (k-6) v).map (tF (kd k).2.toNat)=kK k v:=by
   rcases hc with rfl | rfl | rfl | rfl | rfl <;> exact ⟨rfl,rfl,rfl⟩
  obtain ⟨a,b,hk,ha,hbb⟩:=pN k
  obtain ⟨w1,w2,w3⟩:=hsw
  rw [hk] at w1 w2 w3 hM ⊢
  dsimp only [Int.toNat_natCast] at w1 w2 w3 hM ⊢
  rw [w1,w2] at hM6
  simp only [Int.toNat_natCast] at hM6
  have hgw:=nO hr6
  have e6:kd (k-6)=((b:Int),(a:Int)):=Prod.ext w1 w2
  rw [e6] at hgw
  have hrel:=jT (a:=b) (b:=a) hf (by omega) hM6.g (by have:=hM6.gl;omega)
  have hR:=bG hf hM6.g
  have hcv:=GX_ (l:=b) (r:=a) hf (by omega) hR.ok (by have:=fN hf hR;omega)
  rw [swp_red hf hM6.g,w3] at hcv
  refine stp (cFW (dF h1) (stp (cFW (dF h2) (stp (cTW (dT h9) (bnd (BV_ (by omega)) (bnd hgw (bnd (BV_ (by omega)) (bnd (Br_ (by omega)) (bnd hrel (bnd hcv rfl)))))))))))
 ·
  obtain ⟨a,b,hk,ha,hbb⟩:=pN k
  have hgw:=nO hr
  rw [hk] at hM hgw ⊢
  dsimp only [Int.toNat_natCast] at hM ⊢
  have hrel:=jT (a:=a) (b:=b) hf (by omega) hM.g (by have:=hM.gl;omega)
  exact stp (cFW (dF h1) (stp (cFW (dF h2) (stp (cFW (dF h9) (bnd hgw (bnd (Br_ (by omega)) (bnd hrel rfl))))))))
theorem xZ (p:Int) (n:Nat) (x:List Int):dH p n [] x:=fun i hi=>by simp at hi
theorem oU (p:Int) (n:Nat):okM p n []:=fun x hx=>by cases hx
def swG:Rows:=[[1,0,0,1],[0,1,1,0]]
theorem AM_ {p:Int} (hp:2≤p):okM p 4 swG:=by
 have b0:(0:Int)≤0∧(0:Int)<p:=⟨by omega,by omega⟩
 have b1:(0:Int)≤1∧(1:Int)<p:=⟨by omega,by omega⟩
 exact okM2 (oE rfl (wC b1 (wC b0 (wC b0 (pE b1))))) (oE rfl (wC b0 (wC b1 (wC b1 (pE b0)))))
theorem j4 {P:Nat→Prop} (h0:P 0) (h1:P 1) (h2:P 2) (h3:P 3):∀ j,j<4→P j:=fun j hj=>by
 match j,hj with
 | 0,_=>exact h0
 | 1,_=>exact h1
 | 2,_=>exact h2
 | 3,_=>exact h3
theorem swap_eq {p:Int} (hf:fdB p=true):bC p 4 ((vF p 2 []).map (selR [0,1,1,0]))=bC p 4 swG:=by
 have hp:=cC hf
 refine Ay_ (W:=2) (ends:=[0,1,1,0]) hf (by decide) (oU p 2) (AM_ hp.1) (fun v _=>⟨fun i=>el v i,j4 ?_ ?_ ?_ ?_⟩) (j2 ⟨[1,0],xZ _ _ _,j4 rfl rfl rfl rfl⟩ ⟨[0,1],xZ _ _ _,j4 rfl rfl rfl rfl⟩)
 ·
  show _=sg 2 _ % p
  rw [sg2]
  show el v 0 % p=(el v 0*1+el v 1*0) % p
  simp
 ·
  show _=sg 2 _ % p
  rw [sg2]
  show el v 1 % p=(el v 0*0+el v 1*1) % p
  simp
 ·
  show _=sg 2 _ % p
  rw [sg2]
  show el v 1 % p=(el v 0*0+el v 1*1) % p
  simp
 ·
  show _=sg 2 _ % p
  rw [sg2]
  show el v 0 % p=(el v 0*1+el v 1*0) % p
  simp
theorem Gv_ {p v:Int}{s:ByteArray} (hf:fdB p=true) (h:lfB (2,v,s)=true):jL p (2,v,s)=some (2,2,bC p 4 swG)∧cL p (2,v,s)=some (2,2,bC p 4 swG):=by
 have hp:=cC hf
 have hm:iB=1099511627776:=rfl
 have hD:=Ak_ (p:=p) (W:=2) (a:=2) (b:=2) (E:=[]) (I:=[0,1]) (O:=[1,0]) (ends:=[0,1,1,0]) (eqs:=[]) hf (by decide) (fun e he=>by cases he) rfl rfl rfl (by decide) (oU p 2) (by simp) rfl
 rw [swap_eq hf] at hD
 have hL:=vU h
 have hrel:=jT (a:=2) (b:=2) (G:=swG) hf (by omega) (AM_ hp.1) (by decide)
 exact ⟨bnd hL (bnd hD rfl),stp (cFW rfl (stp (cTW rfl (bnd hrel rfl))))⟩
def idP (n:Nat):Rows:=(List.range n).map fun i=>dE n i++dE n i
theorem idP_gr {n i:Nat} (h:i<n):gr (idP n) i=dE n i++dE n i:=by
 unfold gr idP
 rw [List.getD_eq_getElem?_getD,List.getElem?_map,List.getElem?_range h];rfl
theorem Cy_ (n i:Nat):(dE n i).length=n:=by simp [dE]
theorem rN {n i j:Nat} (hi:i<n) (hj:j<n+n):el (gr (idP n) i) j=if i=(if j<n then j else j-n) then 1 else 0:=by
 rw [idP_gr hi,el_app2,Cy_]
 by_cases c:j<n
 · rw [if_pos c,if_pos c,eK hi]
 · rw [if_neg c,if_neg c,eK hi]
theorem idP_len (n:Nat):(idP n).length=n:=by simp [idP]
theorem Dv_ {p:Int} (hp:2≤p) (n:Nat):Red p (n+n) (idP n):=by
 have lead:∀ i,i<n→leadN (gr (idP n) i)=i:=fun i hi=>by
  refine Ac_ (fun j hj=>?_) ?_
  · rw [rN hi (by omega),show (if j<n then j else j-n)=j from if_pos (by omega)];exact if_neg (by omega)
  · rw [rN hi (by omega),if_pos hi,if_pos rfl];decide
 refine ⟨fun r hr=>?_,fun i hi=>?_,fun i hi=>?_,fun i j hi hj hne=>?_,fun i j hij hj=>?_⟩
 ·
  obtain ⟨i,hi,rfl⟩:=List.mem_map.1 hr
  exact As_ (pT hp n i) (pT hp n i)
 ·
  rw [idP_len] at hi
  rw [lead i hi];omega
 ·
  rw [idP_len] at hi
  rw [lead i hi,rN hi (by omega),if_pos hi,if_pos rfl]
 ·
  rw [idP_len] at hi hj
  rw [lead i hi,rN hj (by omega),if_pos hi,if_neg (fun e=>hne e.symm)]
 ·
  rw [idP_len] at hj
  rw [lead i (by omega),lead j hj];exact hij
def dblE (n:Nat):List Nat:=List.range n++List.range n
theorem C4_ {n j:Nat} (h:j<n+n):(dblE n).getD j 0=if j<n then j else j-n:=by
 unfold dblE
 rw [List.getD_eq_getElem?_getD]
 by_cases c:j<n
 · rw [if_pos c,List.getElem?_append_left (by simpa using c),List.getElem?_range c];rfl
 · rw [if_neg c,List.getElem?_append_right (by simpa using c),List.length_range,List.getElem?_range (by omega)];rfl
theorem sg_unit (n:Nat) (f:Nat→Int){q:Nat} (h:q<n):sg n (fun i=>f i*(if i=q then 1 else 0))=f q:=by
 rw [kH h (fun i _ hne=>by rw [if_neg hne,Int.mul_zero]),if_pos rfl,Int.mul_one]
theorem id_eq {p:Int} (hf:fdB p=true) (n:Nat):bC p (n+n) ((vF p n []).map (selR (dblE n)))=idP n:=by
 have hp:=cC hf
 have hR:=Dv_ hp.1 n
 have hl:(dblE n).length=n+n:=by simp [dblE]
 have hlt:∀ q∈dblE n,q<n:=fun q hq=>by
  rcases List.mem_append.1 hq with h | h <;> exact List.mem_range.1 h
 rw [←Cl_ hf hR,← hl]
 have hok:okM p (dblE n).length (idP n):=by rw [hl];exact hR.ok
 refine Ay_ hf hlt (oU p n) hok (fun v _=>⟨fun i=>el v i,fun j hj=>?_⟩) (fun i hi=>?_)
 ·
  rw [hl] at hj
  rw [sN (by rw [hl];exact hj),C4_ hj,idP_len,bD (g:=fun i=>el v i*(if i=(if j<n then j else j-n) then 1 else 0)) (fun i hi=>by rw [rN hi hj]),sg_unit n (fun i=>el v i) (by split <;> omega)]
 ·
  rw [idP_len] at hi
  refine ⟨dE n i,xZ _ _ _,fun j hj=>?_⟩
  rw [hl] at hj
  rw [C4_ hj,rN hi hj,eK hi]
theorem id_both {p:Int}{s:ByteArray}{n:Nat} (hf:fdB p=true) (hn:n≤12) (h:lfB (1,(n:Int),s)=true):jL p (1,(n:Int),s)=some ((n:Int),(n:Int),idP n)∧cL p (1,(n:Int),s)=some ((n:Int),(n:Int),idP n):=by
 have hp:=cC hf
 have hm:iB=1099511627776:=rfl
 have hG:=(aU h).1
 have eG:iG (1,(n:Int),s)=((n:Int),[],ugL n,ugL n):=by unfold iG;dsimp only;rw [if_pos rfl,Int.toNat_natCast]
 have hL:=vU h
 rw [eG] at hL hG
 have hD:=Ak_ (p:=p) (W:=n) (a:=n) (b:=n) (E:=[]) (I:=ugL n) (O:=ugL n) (ends:=dblE n) (eqs:=[]) hf hG (fun e he=>by cases he) (ugL_len n) (ugL_len n) (by unfold dblE ugL;rw [List.map_append]) (fun q hq=>by
  rcases List.mem_append.1 hq with h | h <;> exact List.mem_range.1 h) (oU p n) (by simp) rfl
 rw [id_eq hf] at hD
 refine ⟨bnd hL (bnd hD rfl),stp (cTW rfl (bnd (bnd (uK ⟨by dsimp only;omega,by dsimp only;omega⟩) (bnd (a:=idP n) ?_ rfl)) rfl))⟩
 rw [Int.toNat_natCast]
 have loop:=gD (f:=fun (k8:Nat) (s71:List (List Int))=>
   (nL (n:Int) ((k8:Nat):Int)).bind fun y85=>
   (nL (n:Int) ((k8:Nat):Int)).bind fun y90=>
   (vG [y85,y90]).bind fun y98=>
   (tA s71 [y98]).bind fun a106=>
   some a106) (n:=n) (fun j=>(List.range j).map fun i=>dE n i++dE n i) (fun j hj=>by
  have hjo:=pQ (l:=[dE n j,dE n j]) (by simp [Cy_];omega)
  refine bnd (unit_ hj (by omega)) (bnd (unit_ hj (by omega)) (bnd hjo (bnd (vB (by simp;omega)) ?_)))
  rw [List.range_succ,List.map_append];simp)
 exact loop
end Go.Proofs.YtlggnmkelgplnaaGreatDoor
