/-
  Plain law of SeqGraphs: the reference's function and the program's answer alike. No program in sight. No condition.
-/
import Derived.Test.YtemcakhocdchiaaGreatDoorZP39
import Derived.Test.YtemcakhocdchiaaGreatDoorZP21
import Derived.Test.YtemcakhocdchiaaGreatDoorZFn
namespace Go.Proofs.YtemcakhocdchiaaGreatDoor
def shf (n:Nat):Nat→Int:=fun k=>(k:Int)+n
theorem pR {n m:Nat}{l:List Int} (h:qE m l):qE (n+m) (mp (shf n) l):=by
 intro x hx
 obtain ⟨y,hy,rfl⟩:=List.mem_map.1 hx
 have:=h y hy
 unfold shf
 omega
theorem dR {n m:Nat}{l:List Int} (h:qE n l):qE (n+m) l:=fun x hx=>by have:=h x hx;omega
theorem DC_ (s:Edg→List Int) (t:Nat→Int) (hs:∀ e,(s (mpE t e)).length=(s e).length):∀ E:List Edg,cD (E.map (mpE t)) s=cD E s:=by
 intro E
 induction E with
 | nil=>rfl
 | cons e E ih=>
  unfold cD at ih ⊢
  simp only [List.map_cons,List.flatten_cons,List.length_append]
  rw [hs,ih]
theorem DD_ (s:Edg→List Int) (E E':List Edg):cD (E++E') s=cD E s+cD E' s:=by
 unfold cD;rw [List.map_append,List.flatten_append,List.length_append]
theorem edI_mp (t:Nat→Int) (e:Edg):edI (mpE t e)=mp t (edI e):=rfl
theorem edO_mp (t:Nat→Int) (e:Edg):edO (mpE t e)=mp t (edO e):=rfl
def zK (n m:Nat) (a b:Gra):Gra:=(((n+m:Nat):Int),a.2.1++b.2.1.map (mpE (shf n)),a.2.2.1,mp (shf n) b.2.2.2)
theorem Em_ {n m:Nat}{a b:Gra} (ha:GOk a n) (hb:GOk b m):Rgd (n+m) (zK n m a b):=by
 have h1:=ha.e60;have h2:=hb.e60;have h3:=ha.i12;have h4:=hb.o12;have h5:=ha.ti;have h6:=ha.to;have h7:=hb.ti;have h8:=hb.to
 refine ⟨dR ha.i,pR hb.o,fun e he=>?_,by unfold zK;dsimp only;omega,by unfold zK;dsimp only;rw [mp_len];omega,by unfold zK;dsimp only;rw [List.length_append,List.length_map];omega,?_,?_⟩
 ·
  rcases List.mem_append.1 he with h | h
  · exact ⟨dR (ha.e e h).1,dR (ha.e e h).2⟩
  ·
   obtain ⟨e',he',rfl⟩:=List.mem_map.1 h
   exact ⟨pR (hb.e e' he').1,pR (hb.e e' he').2⟩
 ·
  unfold zK;dsimp only
  rw [DD_,DC_ edI _ (fun e=>by rw [edI_mp,mp_len])];omega
 ·
  unfold zK;dsimp only
  rw [DD_,DC_ edO _ (fun e=>by rw [edO_mp,mp_len])];omega
def jM (n m:Nat) (a b:Gra):Gra:=gluG (zK n m a b) (n+m) (a.2.2.2.zip (mp (shf n) b.2.2.1))
theorem hgSeq_ {n m:Nat}{a b:Gra} (ha:GOk a n) (hb:GOk b m) (hl:a.2.2.2.length=b.2.2.1.length):hU a b=some (jM n m a b):=by
 have hmm:bB=1099511627776:=rfl
 have n1:=ha.n100;have m1:=hb.n100
 have hB:=Dp_ (by omega) (by omega) ha.w hb.w ha.rgd hb.rgd
 have hR:=Em_ ha hb
 have oa:=ha.o12;have ib:=hb.i12;have ia:=ha.i12;have ob:=hb.o12
 have hG:=Jc_ (A:=a.2.2.2) (B:=mp (shf n) b.2.2.1) (by omega) rfl hR (dR ha.o) (pR hb.i) (by rw [mp_len,hl])
 obtain ⟨w0,E,I,O⟩:=a
 obtain ⟨w1,E',I',O'⟩:=b
 obtain rfl:w0=(n:Int):=ha.w
 obtain rfl:w1=(m:Int):=hb.w
 dsimp only at oa ib ia ob hl
 have sl1:∀ x y:List Int,dB (x++y) 0 ((x.length:Nat):Int)=some x:=fun x y=>by
  unfold dB;rw [if_pos ⟨by omega,by omega,by rw [List.length_append];omega⟩];simp
 have sl2:∀ x y:List Int,dB (x++y) ((x.length:Nat):Int) (((x++y).length:Nat):Int)=some y:=fun x y=>by
  unfold dB;rw [if_pos ⟨by omega,by rw [List.length_append];omega,by omega⟩]
  rw [Int.toNat_natCast,Int.toNat_natCast,List.drop_left,List.take_of_length_le (by rw [List.length_append];omega)]
 refine bnd hB ?_
 unfold vK
 refine bnd (sl1 O _) (bnd (sl2 I _) (bnd (own_ (by omega)) (bnd (own_ (by rw [mp_len];dsimp only;omega)) (bnd (sl1 I _) (bnd (sl2 O _) (bnd (a:=jM n m ((n:Int),E,I,O) ((m:Int),E',I',O')) ?_ rfl))))))
 exact bnd hG rfl
theorem HA_ {n m:Nat}{a b:Gra} (ha:GOk a n) (hb:GOk b m) (hl:a.2.2.2.length=b.2.2.1.length):wP a b=some (jM n m a b):=by
 have hmm:bB=1099511627776:=rfl
 have n1:=ha.n100;have m1:=hb.n100
 have hB:=Fa_ (by omega) (by omega) ha.w hb.w ha.rgd hb.rgd
 have hR:=Em_ ha hb
 have oa:=ha.o12;have ib:=hb.i12;have ia:=ha.i12;have ob:=hb.o12
 have hP:∀ p∈a.2.2.2.zip (mp (shf n) b.2.2.1),(0≤p.1∧p.1<((n+m:Nat):Int))∧(0≤p.2∧p.2<((n+m:Nat):Int)):=fun p hp=>by
  obtain ⟨x,y⟩:=p
  have h:=List.of_mem_zip hp
  exact ⟨dR ha.o x h.1,pR hb.i y h.2⟩
 have hG:=glue_ (P:=a.2.2.2.zip (mp (shf n) b.2.2.1)) (by omega) rfl hR hP
 have hO:=hb.o;have hAO:=ha.o;have hBI:=hb.i
 obtain ⟨w0,E,I,O⟩:=a
 obtain ⟨w1,E',I',O'⟩:=b
 obtain rfl:w0=(n:Int):=ha.w
 obtain rfl:w1=(m:Int):=hb.w
 dsimp only at oa ib ia ob hl hO hAO hBI
 have hzl:(O.zip (mp (shf n) I')).length=O.length:=by rw [List.length_zip,mp_len,hl,Nat.min_self]
 have loop:=xC (n:=O.length) (fun j=>(O.zip (mp (shf n) I')).take j) (f:=fun (k32:Nat) (s98:List (Int×Int))=>
   (idxO O ((k32:Nat):Int)).bind fun a114=>
   (idxO I' ((k32:Nat):Int)).bind fun a123=>
   (mA (n:Int) a123).bind fun a125=>
   (nA s98 [(a114,a125)]).bind fun a133=>
   some a133) (fun j hj=>by
  have hji:j<I'.length:=by omega
  have hx:=hBI _ (List.getElem_mem hji)
  have e:(O.zip (mp (shf n) I')).take (j+1)=(O.zip (mp (shf n) I')).take j++[(O[j],(n:Int)+I'[j])]:=by
   rw [List.take_add_one,List.getElem?_eq_getElem (by omega),List.getElem_zip]
   congr 2
   refine congrArg (fun z=>[z]) (Prod.ext rfl ?_)
   unfold mp shf
   rw [List.getElem_map]
   show ((I'[j].toNat:Nat):Int)+n=_
   omega
  rw [e]
  exact bnd (kA (List.getElem?_eq_getElem hj)) (bnd (kA (List.getElem?_eq_getElem hji)) (bnd (aB (by omega) (by omega)) (bnd (iB (by simp;omega)) rfl))))
 rw [List.take_zero,show (O.zip (mp (shf n) I')).take O.length=O.zip (mp (shf n) I') from by rw [←hzl,List.take_length]] at loop
 exact bnd hB (bnd loop (bnd (eX (by dsimp only;omega)) (bnd (uX (by omega) (by omega)) (bnd (gN _ hO (by dsimp only;omega)) (bnd hG rfl)))))
end Go.Proofs.YtemcakhocdchiaaGreatDoor
namespace Go.Proofs.YtemcakhocdchiaaGreatDoor
instance:Nice ByteArray:=⟨fun s=>(s.size:Int)≤9223372036854775807⟩
def byD (n:Int):ByteArray:=tO ([(48+n.tmod 10) % 256]:List Int)
def mDig:Nat→Int→ByteArray→ByteArray
 | 0,_,s=>s
 | f+1,n,s=>if 0<n then mDig f (n.tdiv 10) (byD n++s) else s
def mText (k:Int):ByteArray:=if k≤0 then ⟨#[109,48]⟩ else ⟨#[109]⟩++mDig (k.toNat+1) k .empty
theorem E7_ {a b:ByteArray} (h:a.size+b.size≤9223372036854775807):catO a b=some (a++b):=if_pos (by omega)
theorem El_ (n:Int):(byD n).size=1:=rfl
theorem Ir_ (k:Int) (h0:0≤k) (h:k≤1125899906842624):vY k=some (mText k):=by
 unfold mText
 by_cases hk:k≤0
 · rw [if_pos hk];exact stp (cTW (dT hk) rfl)
 ·
  rw [if_neg hk]
  have key:∀ (f:Nat) (n:Int) (s:ByteArray),0≤n→n.toNat<f→n+s.size≤1125899906842624→(mDig f n s).size≤1125899906842624∧nB (fun (s123:Int×ByteArray)=>
    (some (decide ((0:Int)<s123.1))).bind fun a132=>
    cond a132
    ((qD s123.1 10).bind fun a137=>
     (mA 48 a137).bind fun a139=>
     (some (a139 % 256)).bind fun a141=>
     (some (tO ([a141]:List By))).bind fun a146=>
     (catO a146 s123.2).bind fun a148=>
     (gM s123.1 10).bind fun a150=>
     some (.inl (a150,a148)))
    (some (.inr s123.2))) (n,s)=some (mDig f n s):=by
   intro f
   induction f with
   | zero=>intro n s h1 h2 h3;omega
   | succ f ih=>
    intro n s h1 h2 h3
    rw [mDig]
    by_cases hn:0<n
    ·
     rw [if_pos hn]
     have e:n.tdiv 10=n / 10:=Int.tdiv_eq_ediv_of_nonneg h1
     have e2:n.tmod 10=n % 10:=Int.tmod_eq_emod_of_nonneg h1
     have hq:gM n 10=some (n.tdiv 10):=by unfold gM;rw [if_neg (by decide)];exact tK ⟨by omega,by omega⟩
     have hs:(byD n++s).size=s.size+1:=by rw [ByteArray.size_append,El_];omega
     obtain ⟨i1,i2⟩:=ih (n.tdiv 10) (byD n++s) (by omega) (by omega) (by rw [hs];omega)
     refine ⟨i1,?_⟩
     have st:=E7_ (a:=byD n) (b:=s) (by rw [El_];omega)
     rw [←i2]
     exact qG (stp (cTW (dT hn) (bnd (wG (by decide)) (bnd (aB (by dsimp only;omega) (by dsimp only;omega)) (stp (stp (bnd st (bnd hq rfl))))))))
    ·
     rw [if_neg hn]
     exact ⟨by omega,kF (stp (cFW (dF hn) rfl))⟩
  obtain ⟨k1,k2⟩:=key (k.toNat+1) k .empty (by omega) (by omega) (by show k+0≤_;omega)
  have hz:(⟨#[109]⟩:ByteArray).size=1:=rfl
  have hc:=E7_ (a:=⟨#[109]⟩) (b:=mDig (k.toNat+1) k .empty) (by omega)
  refine stp (cFW (dF hk) (bnd k2 ?_))
  exact bnd hc rfl
end Go.Proofs.YtemcakhocdchiaaGreatDoor
namespace Go.Proofs.YtemcakhocdchiaaGreatDoor
abbrev Nod:=Int×Int×ByteArray
inductive Tr where
 | leaf (n:Nod)
 | node (k:Int) (a b:Tr)
def flat:Tr→List Nod
 | .leaf n=>[n]
 | .node k a b=>flat a++flat b++[(k,0,.empty)]
theorem vG:∀ T:Tr,0<(flat T).length
 | .leaf _=>by simp [flat]
 | .node _ _ _=>by simp [flat];omega
def lfB (n:Nod):Bool:=decide (n.2.2=.empty)&&(rng n.1 1 14&&(if n.1=1 then rng n.2.1 0 12 else if n.1=7∨n.1=13 then rng n.2.1 0 96 else decide (n.2.1=0)))
def lfT (n:Nod):Int×Int:=if n.1=1 then (n.2.1,n.2.1) else kd n.1
def jn (k:Int) (x y:Int×Int):Option (Int×Int):=if k=15 then (if x.2=y.1 then some (x.1,y.2) else none) else if x.1+y.1≤12∧x.2+y.2≤12 then some (x.1+y.1,x.2+y.2) else none
abbrev Stk:=List (Tr×(Int×Int))
def mC (S:Stk) (n:Nod):Option Stk:=
 if n.1=15∨n.1=16 then
  if n.2.1=0∧n.2.2=.empty then match S with
   | (b,y)::(a,x)::S'=>(jn n.1 x y).map fun w=>(.node n.1 a b,w)::S'
   | _=>none
  else none
 else if lfB n=true then some ((.leaf n,lfT n)::S) else none
def yC:List Nod→Stk→Option Stk
 | [],S=>some S
 | n::t,S=>(mC S n).bind fun S'=>yC t S'
theorem runT_app:∀ (a b:List Nod) (S:Stk),yC (a++b) S=(yC a S).bind fun S'=>yC b S'
 | [],b,S=>rfl
 | n::a,b,S=>by
  show (mC S n).bind _=((mC S n).bind _).bind _
  cases mC S n with
  | none=>rfl
  | some S'=>exact runT_app a b S'
theorem De_ {t:List Nod}{j:Nat} (hj:j<t.length){S:Stk} (h:yC (t.take j) []=some S):yC (t.take (j+1)) []=mC S t[j]:=by
 rw [List.take_add_one,List.getElem?_eq_getElem hj,runT_app,h]
 show (mC S t[j]).bind _=_
 cases mC S t[j] <;> rfl
theorem Df_ {t:List Nod}{j:Nat} (h:yC (t.take j) []=none):yC t []=none:=by
 have:t=t.take j++t.drop j:=(List.take_append_drop _ _).symm
 rw [this,runT_app,h];rfl
def fD (t:List Nod):Bool:=rng t.length 1 400&&(match yC t [] with | some [_]=>true | _=>false)
def mG (w:Int×Int):Prop:=0≤w.1∧w.1≤12∧0≤w.2∧w.2≤12
theorem Fp_ {n:Nod} (h:lfB n=true):mG (lfT n):=by
 unfold lfB at h
 simp only [Bool.and_eq_true,decide_eq_true_eq] at h
 unfold lfT
 by_cases h1:n.1=1
 ·
  rw [if_pos h1]
  rw [if_pos h1] at h
  have:=rng_true.1 h.2.2
  exact ⟨this.1,this.2,this.1,this.2⟩
 ·
  rw [if_neg h1]
  have:=kd_le n.1
  exact ⟨by omega,by omega,by omega,by omega⟩
theorem jn_ok {k:Int}{x y w:Int×Int} (hx:mG x) (hy:mG y) (h:jn k x y=some w):mG w:=by
 obtain ⟨a1,a2,a3,a4⟩:=hx
 obtain ⟨b1,b2,b3,b4⟩:=hy
 unfold jn at h
 split at h
 ·
  split at h
  · obtain rfl:=Option.some.inj h;exact ⟨a1,a2,b3,b4⟩
  · cases h
 ·
  split at h
  ·
   obtain rfl:=Option.some.inj h
   exact ⟨by dsimp only;omega,by dsimp only;omega,by dsimp only;omega,by dsimp only;omega⟩
  · cases h
def jS (S:Stk):Prop:=∀ p∈S,mG p.2
theorem IU_ {S S':Stk}{n:Nod} (hS:jS S) (h:mC S n=some S'):jS S':=by
 unfold mC at h
 split at h
 ·
  split at h
  ·
   split at h
   ·
    rename_i b y a x S0
    obtain ⟨w,hw,rfl⟩:=Option.map_eq_some_iff.1 h
    intro p hp
    rcases List.mem_cons.1 hp with rfl | hp
    · exact jn_ok (hS (a,x) (by simp)) (hS (b,y) (by simp)) hw
    · exact hS p (by simp [hp])
   · cases h
  · cases h
 ·
  split at h
  ·
   obtain rfl:=Option.some.inj h
   intro p hp
   rcases List.mem_cons.1 hp with rfl | hp
   · exact Fp_ ‹_›
   · exact hS p hp
  · cases h
theorem A7_:∀ (t:List Nod) (S S':Stk),jS S→yC t S=some S'→jS S'
 | [],S,S',hS,h=>by obtain rfl:=Option.some.inj h;exact hS
 | n::t,S,S',hS,h=>by
  obtain ⟨S1,h1,h2⟩:=eC h
  exact A7_ t S1 S' (IU_ hS h1) h2
def fM (S:Stk):List Nod:=(S.reverse.map fun p=>flat p.1).flatten
theorem Hy_ {S S':Stk}{n:Nod} (h:mC S n=some S'):fM S'=fM S++[n]:=by
 unfold mC at h
 split at h
 ·
  split at h
  ·
   rename_i h0
   split at h
   ·
    rename_i b y a x S0
    obtain ⟨w,hw,rfl⟩:=Option.map_eq_some_iff.1 h
    unfold fM
    obtain ⟨k,v,s⟩:=n
    obtain ⟨rfl,rfl⟩:=h0
    simp [flat,List.append_assoc]
   · cases h
  · cases h
 ·
  split at h
  ·
   obtain rfl:=Option.some.inj h
   unfold fM
   simp [flat]
  · cases h
theorem As_:∀ (t:List Nod) (S S':Stk),yC t S=some S'→fM S'=fM S++t
 | [],S,S',h=>by obtain rfl:=Option.some.inj h;simp
 | n::t,S,S',h=>by
  obtain ⟨S1,h1,h2⟩:=eC h
  rw [As_ t S1 S' h2,Hy_ h1,List.append_assoc];rfl
theorem zV (n:Nod):kH n=some (lfB n):=by
 obtain ⟨k,v,s⟩:=n
 unfold kH lfB
 by_cases hs:s=.empty
 case neg=>simp [hs]
 cases hr:rng k 1 14 with
 | false=>simp [hs,l1In,hr]
 | true=>
  by_cases h1:k=1
  · subst h1;simp [hs,l1In,hr]
  by_cases h7:k=7
  · subst h7;simp [hs,l1In,hr]
  by_cases h13:k=13
  · subst h13;simp [hs,l1In,hr]
  simp [hs,l1In,hr,h1,h7,h13]
theorem DE_ (n:Nod):fQ n=some (lfT n):=by
 obtain ⟨k,v,s⟩:=n
 unfold fQ lfT
 by_cases h1:k=1
 · simp [h1]
 · simp [h1,tmKind_]
theorem HJ_ (n:Nod):∃ w,tJ n=some (w,lfB n)∧(lfB n=true→w=lfT n):=by
 obtain ⟨k,v,s⟩:=n
 by_cases hs:s=.empty
 case neg=>
  refine ⟨(0,0),?_,fun h=>?_⟩
  · unfold tJ lfB;simp [hs]
  · unfold lfB at h;simp [hs] at h
 by_cases h1:k=1
 ·
  subst h1
  refine ⟨(v,v),?_,fun _=>rfl⟩
  have hr:rng 1 1 14=true:=by decide
  unfold tJ lfB;simp [hs,within_,hr]
 by_cases h2:k=2
 ·
  subst h2
  refine ⟨(2,2),?_,fun _=>rfl⟩
  have hr:rng 2 1 14=true:=by decide
  unfold tJ lfB;simp [hs,hr]
 cases hg:rng k 3 14 with
 | false=>
  have hr:rng k 1 14=false:=by
   cases hr:rng k 1 14 with
   | false=>rfl
   | true=>
    have:=rng_true.1 hr
    have:rng k 3 14=true:=rng_true.2 (by omega)
    rw [this] at hg;cases hg
  refine ⟨(0,0),?_,fun h=>?_⟩
  · unfold tJ lfB uN;simp [hs,h1,h2,within_,hg,hr]
  · unfold lfB at h;simp [hr] at h
 | true=>
  have hb:=rng_true.1 hg
  have hr:rng k 1 14=true:=rng_true.2 (by omega)
  refine ⟨kd k,?_,fun _=>by unfold lfT;rw [if_neg h1]⟩
  have hgen:tF k v=(if k=7∨k=13 then rng v 0 96 else decide (v=0)):=by unfold tF;rw [hg,Bool.true_and]
  unfold tJ lfB uN
  simp only [hs,h1,h2,within_,hg,hr,zP hg,lY hg,hgen,decide_true,decide_false,Bool.not_true,cond_false,cond_true,Option.bind_some,Bool.true_and,if_false]
theorem HM_ {k:Int}{x y:Int×Int} (hx:mG x) (hy:mG y):∃ w,rM k x y=some (w,(jn k x y).isSome)∧∀ z,jn k x y=some z→w=z:=by
 obtain ⟨x1,x2⟩:=x
 obtain ⟨y1,y2⟩:=y
 obtain ⟨a1,a2,a3,a4⟩:=hx
 obtain ⟨b1,b2,b3,b4⟩:=hy
 dsimp only at a1 a2 a3 a4 b1 b2 b3 b4
 by_cases hk:k=15
 ·
  refine ⟨(x1,y2),?_,fun z hz=>?_⟩
  ·
   unfold rM jn
   by_cases h:x2=y1
   · simp [hk,h]
   · simp [hk,h]
  ·
   unfold jn at hz
   rw [if_pos hk] at hz
   split at hz
   · exact Option.some.inj hz
   · cases hz
 ·
  refine ⟨(x1+y1,x2+y2),?_,fun z hz=>?_⟩
  ·
   have s1:mA x1 y1=some (x1+y1):=aB (by omega) (by omega)
   have s2:mA x2 y2=some (x2+y2):=aB (by omega) (by omega)
   unfold rM jn rY
   by_cases h1:x1+y1≤12
   ·
    by_cases h2:x2+y2≤12
    · simp [hk,s1,s2,h1,h2]
    · simp [hk,s1,s2,h1,h2]
   · simp [hk,s1,s2,h1]
  ·
   unfold jn at hz
   rw [if_neg hk] at hz
   split at hz
   · exact Option.some.inj hz
   · cases hz
def wD (S:Stk):List (Int×Int):=(S.map fun p=>p.2).reverse
def tyT (t:List Nod):Int×Int:=match yC t [] with | some [(_,w)]=>w | _=>(0,0)
theorem typed_ (t:List Nod):∃ w,aY t=some (w,fD t)∧(fD t=true→w=tyT t):=by
 have hm:bB=1099511627776:=rfl
 cases hr:rng t.length 1 400 with
 | false=>
  have hv:fD t=false:=by unfold fD;rw [hr];rfl
  refine ⟨(0,0),bnd (within_ _ _ _) (stp ?_),fun h=>by rw [hv] at h;cases h⟩
  rw [hv,hr];rfl
 | true=>
  have hl:=rng_true.1 hr
  have loop:=D4_ (n:=t.length) (s:=([]:List (Int×Int))) (f:=fun (k14:Nat) (s884:List (Int×Int))=>
    uB ((idxO t ((k14:Nat):Int)).bind fun a1117=>
     ((some (!decide (a1117.1=15))).bind fun a1137=>
      cond a1137
      ((some (!decide (a1117.1=16))).bind fun a1141=>
       some a1141)
      (some false)).bind fun (s1131:Bool)=>
     cond s1131
     ((tJ (a1117.1,a1117.2.1,a1117.2.2)).bind fun y1302=>
      (some (!y1302.2)).bind fun a1309=>
      cond a1309
      (some (.inr (.inr ((0,0),false))))
      ((nA s884 [(y1302.1.1,y1302.1.2)]).bind fun a1318=>
       some (.inl a1318)))
     (((some (!decide (a1117.2.1=0))).bind fun a1162=>
       cond a1162
       (some true)
       ((some (!decide ((a1117.2.2:ByteArray)=.empty))).bind fun a1165=>
        cond a1165
        (some true)
        ((some (decide (((s884.length:Nat):Int)<2))).bind fun a1168=>
         some a1168))).bind fun (s1156:Bool)=>
      cond s1156
      (some (.inr (.inr ((0,0),false))))
      ((subO ((s884.length:Nat):Int) 1).bind fun a1175=>
       ((subO a1175 1).bind fun a1228=>
        (idxO s884 a1228).bind fun a1236=>
        (idxO s884 a1175).bind fun a1245=>
        (rM a1117.1 (a1236.1,a1236.2) (a1245.1,a1245.2)).bind fun y1255=>
        some (y1255.1.1,y1255.1.2,y1255.2)).bind fun (s1220:Int×Int×Bool)=>
       (some (!s1220.2.2)).bind fun a1272=>
       cond a1272
       (some (.inr (.inr ((0,0),false))))
       ((subO a1175 1).bind fun a1276=>
        (dB s884 0 a1276).bind fun a1278=>
        (nA a1278 [(s1220.1,s1220.2.1)]).bind fun a1288=>
        some (.inl a1288))))) fun (s1104:List (Int×Int))=>
    some (.inl s1104)) (fun j s=>∃ S,yC (t.take j) []=some S∧s=wD S∧S.length≤j) (fun r=>r=(((0:Int),(0:Int)),false)∧yC t []=none) ⟨[],rfl,rfl,Nat.le_refl _⟩ (by
   rintro j s hj ⟨S,h1,rfl,h3⟩
   have hS:=A7_ _ _ _ (fun p hp=>by cases hp) h1
   have hstep:=De_ hj h1
   have hlen:(wD S).length=S.length:=by unfold wD;simp
   have bad:mC S t[j]=none→yC t []=none:=fun hn=>Df_ (hstep.trans hn)
   have hi:=kA (List.getElem?_eq_getElem hj)
   generalize t[j]=n at hstep bad hi
   obtain ⟨k,v,u⟩:=n
   by_cases hk:k=15∨k=16
   ·
    have hc:((some (!decide (k=15))).bind fun a1137=>cond a1137 ((some (!decide (k=16))).bind fun a1141=>some a1141) (some false))=some false:=by
     rcases hk with rfl | rfl <;> rfl
    have hst:mC S (k,v,u)=if v=0∧u=.empty then (match S with
      | (b,y)::(a,x)::S'=>(jn k x y).map fun w=>(.node k a b,w)::S'
      | _=>none) else none:=by unfold mC;rw [if_pos hk]
    by_cases hv:v=0
    case neg=>
     have hn:mC S (k,v,u)=none:=by rw [hst,if_neg (fun h=>hv h.1)]
     exact .inr ⟨_,sqW (bnd hi (bnd hc (cFW rfl (bnd (a:=true) (stp (cTW (nF (dF hv)) rfl)) rfl)))) rfl,rfl,bad hn⟩
    by_cases hu:u=.empty
    case neg=>
     have hn:mC S (k,v,u)=none:=by rw [hst,if_neg (fun h=>hu h.2)]
     exact .inr ⟨_,sqW (bnd hi (bnd hc (cFW rfl (bnd (a:=true) (stp (cFW (nT (dT hv)) (stp (cTW (nF (dF hu)) rfl)))) rfl)))) rfl,rfl,bad hn⟩
    rw [if_pos ⟨hv,hu⟩] at hst
    by_cases h2:S.length<2
    ·
     have hn:mC S (k,v,u)=none:=by
      rw [hst]
      match S,h2 with
      | [],_=>rfl
      | [p],_=>rfl
     refine .inr ⟨_,sqW (bnd hi (bnd hc (cFW rfl (bnd (a:=true) (stp (cFW (nT (dT hv)) (stp (cFW (nT (dT hu)) (stp (congrArg some (dT ?_))))))) rfl)))) rfl,rfl,bad hn⟩
     rw [hlen];omega
    ·
     obtain ⟨b,y,a,x,S',rfl⟩:∃ b y a x S',S=(b,y)::(a,x)::S':=by
      match S,h2 with
      | (b,y)::(a,x)::S',_=>exact ⟨_,_,_,_,_,rfl⟩
      | [p],h2=>exact (h2 (by simp)).elim
      | [],h2=>exact (h2 (by simp)).elim
     have h3':S'.length+2≤j:=by simpa using h3
     have hlen':(wD ((b,y)::(a,x)::S')).length=S'.length+2:=by simpa using hlen
     have hx:=hS (a,x) (by simp)
     have hy:=hS (b,y) (by simp)
     obtain ⟨w,w1,w2⟩:=HM_ (k:=k) hx hy
     have e0:wD ((b,y)::(a,x)::S')=wD S'++[x]++[y]:=by unfold wD;simp
     have l0:(wD S').length=S'.length:=by unfold wD;simp
     have i1:idxO (wD ((b,y)::(a,x)::S')) ((S'.length:Nat):Int)=some x:=by
      rw [e0,idxO_nat,← l0,List.append_assoc,List.getElem?_append_right (Nat.le_refl _),Nat.sub_self];rfl
     have i2:idxO (wD ((b,y)::(a,x)::S')) (((S'.length+1:Nat)):Int)=some y:=by
      rw [e0,idxO_nat,← l0,List.append_assoc,List.getElem?_append_right (by omega),Nat.add_sub_cancel_left];rfl
     have s1:subO (((wD ((b,y)::(a,x)::S')).length:Nat):Int) 1=some ((S'.length+1:Nat):Int):=by
      rw [hlen',wC (by omega) (by omega)];congr 1;omega
     have s2:subO ((S'.length+1:Nat):Int) 1=some ((S'.length:Nat):Int):=by
      rw [wC (by omega) (by omega)];congr 1;omega
     have sl:dB (wD ((b,y)::(a,x)::S')) 0 ((S'.length:Nat):Int)=some (wD S'):=by
      unfold dB;rw [if_pos ⟨by omega,by omega,by rw [hlen'];omega⟩,e0]
      simp [←l0,List.append_assoc]
     have hpre:∀ {α:Type} {r:Option α} {K:Bool→Option α},K false=r→(((some (!decide (v=0))).bind fun a1162=>
      cond a1162
      (some true)
      ((some (!decide ((u:ByteArray)=.empty))).bind fun a1165=>
       cond a1165
       (some true)
       ((some (decide ((((wD ((b,y)::(a,x)::S')).length:Nat):Int)<2))).bind fun a1168=>
        some a1168))).bind K)=r:=fun h=>bnd (a:=false) (stp (cFW (nT (dT hv)) (stp (cFW (nT (dT hu)) (stp (congrArg some (dF (by rw [hlen'];omega)))))))) h
     have hj2:∀ {α:Type} {r:Option α} {K:Int×Int×Bool→Option α},K (w.1,w.2,(jn k x y).isSome)=r→(((subO ((S'.length+1:Nat):Int) 1).bind fun a1228=>
       (idxO (wD ((b,y)::(a,x)::S')) a1228).bind fun a1236=>
       (idxO (wD ((b,y)::(a,x)::S')) ((S'.length+1:Nat):Int)).bind fun a1245=>
       (rM k (a1236.1,a1236.2) (a1245.1,a1245.2)).bind fun y1255=>
       some (y1255.1.1,y1255.1.2,y1255.2)).bind K)=r:=fun h=>bnd (bnd s2 (bnd i1 (bnd i2 (bnd w1 rfl)))) h
     cases hjn:jn k x y with
     | none=>
      rw [hjn] at hj2
      have hn:mC ((b,y)::(a,x)::S') (k,v,u)=none:=by rw [hst];simp only [hjn,Option.map_none]
      exact .inr ⟨_,sqW (bnd hi (bnd hc (cFW rfl (hpre (cFW rfl (bnd s1 (hj2 rfl))))))) rfl,rfl,bad hn⟩
     | some z=>
      rw [hjn] at hj2
      have hz:=w2 z hjn
      subst hz
      have hn:mC ((b,y)::(a,x)::S') (k,v,u)=some ((.node k a b,w)::S'):=by rw [hst];simp only [hjn,Option.map_some]
      refine .inl ⟨wD S'++[w],sqW (bnd hi (bnd hc (cFW rfl (hpre (cFW rfl (bnd s1 (hj2 (stp (cFW rfl (bnd s2 (bnd sl (bnd (iB ?_) rfl))))))))))) ) rfl,(.node k a b,w)::S',by rw [hstep,hn],by unfold wD;simp,by simp;omega⟩
      rw [l0];simp;omega
   ·
    have hc:((some (!decide (k=15))).bind fun a1137=>cond a1137 ((some (!decide (k=16))).bind fun a1141=>some a1141) (some false))=some true:=by
     simp only [not_or] at hk
     simp [hk.1,hk.2]
    obtain ⟨w,w1,w2⟩:=HJ_ (k,v,u)
    cases hb:lfB (k,v,u) with
    | false=>
     rw [hb] at w1
     have hn:mC S (k,v,u)=none:=by unfold mC;rw [if_neg hk,if_neg (by rw [hb];simp)]
     exact .inr ⟨_,sqW (bnd hi (bnd hc (cTW rfl (bnd w1 rfl)))) rfl,rfl,bad hn⟩
    | true=>
     rw [hb] at w1
     have hn:mC S (k,v,u)=some ((.leaf (k,v,u),lfT (k,v,u))::S):=by unfold mC;rw [if_neg hk,if_pos hb]
     refine .inl ⟨wD S++[w],sqW (bnd hi (bnd hc (cTW rfl (bnd w1 (stp (cFW rfl (bnd (iB ?_) rfl))))))) rfl,_,by rw [hstep,hn],by rw [w2 hb];unfold wD;simp,by simp;omega⟩
     rw [hlen];simp;omega)
  rcases loop with ⟨s,h1,S,h2,rfl,h4⟩ | ⟨r,h1,rfl,h2⟩
  ·
   rw [List.take_length] at h2
   have hlen:(wD S).length=S.length:=by unfold wD;simp
   have hne:S≠[]:=by
    rintro rfl
    have:=As_ _ _ _ h2
    unfold fM at this
    simp at this
    rw [this] at hl;simp at hl
   cases hS:wD S with
   | nil=>rw [hS] at hlen;exact (hne (List.eq_nil_of_length_eq_zero hlen.symm)).elim
   | cons w ws=>
    have hty:fD t=true→w=tyT t:=fun hv=>by
     unfold fD at hv
     unfold tyT
     rw [hr,h2] at hv
     rw [h2]
     match S,hS,hv with
     | [(T,w')],hS,_=>exact (List.cons.inj hS).1.symm
    refine ⟨w,bnd (within_ _ _ _) (stp ?_),hty⟩
    rw [hr]
    refine cFW rfl (sqW h1 ?_)
    rw [pH,hS]
    refine bnd (a:=w) rfl (stp (congrArg some (Prod.ext rfl ?_)))
    unfold fD
    rw [hr,h2]
    rw [←hS,hlen]
    match S with
    | []=>exact (hne rfl).elim
    | [p]=>simp
    | p::q::S=>simp;omega
  ·
   have hv:fD t=false:=by unfold fD;rw [h2,hr];rfl
   refine ⟨(0,0),bnd (within_ _ _ _) (stp ?_),fun h=>by rw [hv] at h;cases h⟩
   rw [hr]
   refine cFW rfl (sqW h1 ?_)
   rw [uW,hv]
theorem D0_ (t:List Nod):gY t=some (fD t):=by
 obtain ⟨w,h,_⟩:=typed_ t
 exact bnd (bnd h rfl) rfl
def ScR (x:List Int×List Int×List Int):Nat→Stk→Prop
 | i,[]=>i=0
 | i,(T,w)::S=>(flat T).length≤i∧x.1[i-1]?=some ((i-(flat T).length:Nat):Int)∧x.2.1[i-1]?=some w.1∧x.2.2[i-1]?=some w.2∧ScR x (i-(flat T).length) S
theorem ScR.mono {x x':List Int×List Int×List Int}:∀ {S:Stk}{i:Nat},ScR x i S→(∀ k,k<i→x'.1[k]?=x.1[k]?∧x'.2.1[k]?=x.2.1[k]?∧x'.2.2[k]?=x.2.2[k]?)→ScR x' i S
 | [],_,h,_=>h
 | (T,w)::S,i,⟨h1,h2,h3,h4,h5⟩,h=>by
  have hp:=vG T
  obtain ⟨k1,k2,k3⟩:=h (i-1) (by omega)
  exact ⟨h1,k1.trans h2,k2.trans h3,k3.trans h4,h5.mono (fun k hk=>h k (by omega))⟩
theorem pO {l:List Int}{i:Nat} (hl:l.length=i) (a:Int):(∀ k,k<i→(l++[a])[k]?=l[k]?)∧(l++[a])[i]?=some a:=
 ⟨fun k hk=>List.getElem?_append_left (by omega),by rw [List.getElem?_append_right (by omega),hl,Nat.sub_self];rfl⟩
theorem ScR.push {x:List Int×List Int×List Int}{S:Stk}{i:Nat}{T:Tr}{w:Int×Int} (l1:x.1.length=i) (l2:x.2.1.length=i) (l3:x.2.2.length=i) (hT:(flat T).length≤i+1) (h:ScR x (i+1-(flat T).length) S) :
  ScR (x.1++[((i+1-(flat T).length:Nat):Int)],x.2.1++[w.1],x.2.2++[w.2]) (i+1) ((T,w)::S):=by
 have hp:=vG T
 have g1:=pO l1 ((i+1-(flat T).length:Nat):Int)
 have g2:=pO l2 w.1
 have g3:=pO l3 w.2
 refine ⟨hT,?_,?_,?_,h.mono (fun k hk=>⟨g1.1 k (by omega),g2.1 k (by omega),g3.1 k (by omega)⟩)⟩
 · rw [Nat.add_sub_cancel];exact g1.2
 · rw [Nat.add_sub_cancel];exact g2.2
 · rw [Nat.add_sub_cancel];exact g3.2
theorem En_ {a b:Int} (h1:0≤a) (h2:a≤12) (h3:0≤b) (h4:b≤12):mA a b=some (a+b):=aB (by omega) (by omega)
theorem HL_ (s:ByteArray):xT [] s=some (-1):=rfl
theorem EL_ (t:List Nod):∃ x,wT [] t=some (x,fD t)∧(∀ S,yC t []=some S→rng t.length 1 400=true→x.1.length=t.length∧ScR x t.length S ∧
  ∀ S0 (p q:List Nod),t=p++q→yC p []=some S0→ScR x p.length S0):=by
 have hm:bB=1099511627776:=rfl
 cases hr:rng t.length 1 400 with
 | false=>
  refine ⟨([],[],[]),bnd (l1In _ _ _) (stp ?_),fun _ _ h=>by cases h⟩
  unfold fD
  rw [hr];rfl
 | true=>
  have hl:=rng_true.1 hr
  have loop:=D4_ (n:=t.length) (s:=(([]:List Int),([]:List Int),([]:List Int))) (f:=fun (k18:Nat) (s2156:List Int×List Int×List Int)=>
    uB ((idxO t ((k18:Nat):Int)).bind fun a2699=>
     ((kH (a2699.1,a2699.2.1,a2699.2.2)).bind fun y2720=>
      cond y2720
      (some true)
      ((some (decide (a2699.1=17))).bind fun a2724=>
       some a2724)).bind fun (s2714:Bool)=>
     cond s2714
     ((fQ (a2699.1,a2699.2.1,a2699.2.2)).bind fun y3063=>
      uB ((some (decide (a2699.1=17))).bind fun a3127=>
       cond a3127
       ((xT [] a2699.2.2).bind fun y3131=>
        ((some (decide (y3131<0))).bind fun a3146=>
         cond a3146
         (some true)
         ((some (!decide (a2699.2.1=0))).bind fun a3149=>
          some a3149)).bind fun (s3140:Bool)=>
        cond s3140
        (some (.inr (.inr (.inr ((s2156.1,s2156.2.1,s2156.2.2),false)))))
        ((idxO ([]:List (ByteArray×Int×Int×List Nod)) y3131).bind fun a3162=>
         (idxO ([]:List (ByteArray×Int×Int×List Nod)) y3131).bind fun a3174=>
         some (.inl (a3174.2.2.1,a3162.2.1))))
       (some (.inl (y3063.2,y3063.1)))) fun (s3121:Int×Int)=>
      (nA s2156.1 [((k18:Nat):Int)]).bind fun a3190=>
      (nA s2156.2.1 [s3121.2]).bind fun a3199=>
      (nA s2156.2.2 [s3121.1]).bind fun a3208=>
      some (.inl (a3190,a3199,a3208)))
     (((some (!decide (a2699.1=15))).bind fun a2792=>
       cond a2792
       ((some (!decide (a2699.1=16))).bind fun a2820=>
        cond a2820
        (some true)
        ((some (!decide ((a2699.2.2:ByteArray)=.empty))).bind fun a2823=>
         cond a2823
         (some true)
         ((some (!decide (a2699.2.1=0))).bind fun a2826=>
          cond a2826
          (some true)
          ((some (decide (((k18:Nat):Int)<2))).bind fun a2829=>
           cond a2829
           (some true)
           ((subO ((k18:Nat):Int) 1).bind fun a2832=>
            (idxO s2156.1 a2832).bind fun a2840=>
            (some (decide (a2840<1))).bind fun a2842=>
            some a2842)))))
       ((some (!decide ((a2699.2.2:ByteArray)=.empty))).bind fun a2795=>
        cond a2795
        (some true)
        ((some (!decide (a2699.2.1=0))).bind fun a2798=>
         cond a2798
         (some true)
         ((some (decide (((k18:Nat):Int)<2))).bind fun a2801=>
          cond a2801
          (some true)
          ((subO ((k18:Nat):Int) 1).bind fun a2804=>
           (idxO s2156.1 a2804).bind fun a2812=>
           (some (decide (a2812<1))).bind fun a2814=>
           some a2814))))).bind fun (s2786:Bool)=>
      cond s2786
      (some (.inr (.inr ((s2156.1,s2156.2.1,s2156.2.2),false))))
      ((subO ((k18:Nat):Int) 1).bind fun a2851=>
       (idxO s2156.1 a2851).bind fun a2859=>
       (subO a2859 1).bind fun a2861=>
       (idxO s2156.2.1 a2861).bind fun a2870=>
       (idxO s2156.2.1 a2851).bind fun a2878=>
       (mA a2870 a2878).bind fun a2880=>
       (idxO s2156.2.2 a2861).bind fun a2888=>
       (idxO s2156.2.2 a2851).bind fun a2896=>
       (mA a2888 a2896).bind fun a2898=>
       uB ((some (decide (a2699.1=15))).bind fun a2949=>
        cond a2949
        ((idxO s2156.2.2 a2861).bind fun a2960=>
         (idxO s2156.2.1 a2851).bind fun a2968=>
         (some (!decide (a2960=a2968))).bind fun a2970=>
         cond a2970
         (some (.inr (.inr (.inr ((s2156.1,s2156.2.1,s2156.2.2),false)))))
         ((idxO s2156.2.1 a2861).bind fun a2980=>
          (idxO s2156.2.2 a2851).bind fun a2988=>
          some (.inl (a2980,a2988))))
        (some (.inl (a2880,a2898)))) fun (s2943:Int×Int)=>
       ((some (decide ((12:Int)<s2943.1))).bind fun a3009=>
        cond a3009
        (some true)
        ((some (decide ((12:Int)<s2943.2))).bind fun a3012=>
         some a3012)).bind fun (s3003:Bool)=>
       cond s3003
       (some (.inr (.inr ((s2156.1,s2156.2.1,s2156.2.2),false))))
       ((idxO s2156.1 a2861).bind fun a3025=>
        (nA s2156.1 [a3025]).bind fun a3030=>
        (nA s2156.2.1 [s2943.1]).bind fun a3039=>
        (nA s2156.2.2 [s2943.2]).bind fun a3048=>
        some (.inl (a3030,a3039,a3048)))))) fun (s2684:List Int×List Int×List Int)=>
    some (.inl (s2684.1,s2684.2.1,s2684.2.2)))
   (fun j x=>∃ S,yC (t.take j) []=some S∧x.1.length=j∧x.2.1.length=j∧x.2.2.length=j∧ScR x j S∧∀ i S0,i≤j→yC (t.take i) []=some S0→ScR x i S0) (fun r=>r.2=false∧yC t []=none)
   ⟨[],rfl,rfl,rfl,rfl,rfl,fun i S0 hi h=>by
    obtain rfl:i=0:=by omega
    obtain rfl:=Option.some.inj h
    rfl⟩ (by
   rintro j ⟨x1,x2,x3⟩ hj ⟨S,h1,l1,l2,l3,h2,hall⟩
   dsimp only at l1 l2 l3
   have hS:=A7_ _ _ _ (fun p hp=>by cases hp) h1
   have hstep:=De_ hj h1
   have bad:mC S t[j]=none→yC t []=none:=fun hn=>Df_ (hstep.trans hn)
   have hi:=kA (List.getElem?_eq_getElem hj)
   have good:∀ (T:Tr) (w:Int×Int) (S':Stk),yC (t.take (j+1)) []=some ((T,w)::S')→(flat T).length≤j+1→ScR (x1,x2,x3) (j+1-(flat T).length) S'→∃ S1,yC (t.take (j+1)) []=some S1∧(x1++[((j+1-(flat T).length:Nat):Int)]).length=j+1∧(x2++[w.1]).length=j+1∧(x3++[w.2]).length=j+1 ∧
     ScR (x1++[((j+1-(flat T).length:Nat):Int)],x2++[w.1],x3++[w.2]) (j+1) S1∧∀ i S0,i≤j+1→yC (t.take i) []=some S0→ScR (x1++[((j+1-(flat T).length:Nat):Int)],x2++[w.1],x3++[w.2]) i S0:=by
    intro T w S' hr1 hT hsc
    have hp:=ScR.push (x:=(x1,x2,x3)) (w:=w) l1 l2 l3 hT hsc
    refine ⟨_,hr1,by simp [l1],by simp [l2],by simp [l3],hp,fun i S0 hi0 hS0=>?_⟩
    by_cases hij:i=j+1
    ·
     subst hij
     rw [hr1] at hS0
     obtain rfl:=Option.some.inj hS0
     exact hp
    ·
     refine (hall i S0 (by omega) hS0).mono (fun k hk=>?_)
     exact ⟨(pO l1 _).1 k (by omega),(pO l2 _).1 k (by omega),(pO l3 _).1 k (by omega)⟩
   generalize t[j]=n at hstep bad hi
   obtain ⟨k,v,u⟩:=n
   by_cases hk:k=15∨k=16
   ·
    have hlf:lfB (k,v,u)=false:=by
     have hr:rng k 1 14=false:=by rcases hk with rfl | rfl <;> decide
     unfold lfB;dsimp only;rw [hr];simp
    have hk17:¬k=17:=by omega
    have hc:((kH (k,v,u)).bind fun y2720=>cond y2720 (some true) ((some (decide (k=17))).bind fun a2724=>some a2724))=some false:=
     bnd (zV _) (by rw [hlf];exact cFW rfl (stp (congrArg some (dF hk17))))
    have hst:mC S (k,v,u)=if v=0∧u=.empty then (match S with
      | (b,y)::(a,x)::S'=>(jn k x y).map fun w=>(.node k a b,w)::S'
      | _=>none) else none:=by unfold mC;rw [if_pos hk]
    have hten:∀ b:Bool,((some (!decide ((u:ByteArray)=.empty))).bind fun a2795=>
        cond a2795
        (some true)
        ((some (!decide (v=0))).bind fun a2798=>
         cond a2798
         (some true)
         ((some (decide (((j:Nat):Int)<2))).bind fun a2801=>
          cond a2801
          (some true)
          ((subO ((j:Nat):Int) 1).bind fun a2804=>
           (idxO x1 a2804).bind fun a2812=>
           (some (decide (a2812<1))).bind fun a2814=>
           some a2814))))=some b→(((some (!decide (k=15))).bind fun a2792=>
       cond a2792
       ((some (!decide (k=16))).bind fun a2820=>
        cond a2820
        (some true)
        ((some (!decide ((u:ByteArray)=.empty))).bind fun a2823=>
         cond a2823
         (some true)
         ((some (!decide (v=0))).bind fun a2826=>
          cond a2826
          (some true)
          ((some (decide (((j:Nat):Int)<2))).bind fun a2829=>
           cond a2829
           (some true)
           ((subO ((j:Nat):Int) 1).bind fun a2832=>
            (idxO x1 a2832).bind fun a2840=>
            (some (decide (a2840<1))).bind fun a2842=>
            some a2842)))))
       ((some (!decide ((u:ByteArray)=.empty))).bind fun a2795=>
        cond a2795
        (some true)
        ((some (!decide (v=0))).bind fun a2798=>
         cond a2798
         (some true)
         ((some (decide (((j:Nat):Int)<2))).bind fun a2801=>
          cond a2801
          (some true)
          ((subO ((j:Nat):Int) 1).bind fun a2804=>
           (idxO x1 a2804).bind fun a2812=>
           (some (decide (a2812<1))).bind fun a2814=>
           some a2814)))))=some b):=by
     intro b hb
     rcases hk with rfl | rfl
     · exact stp (cFW rfl hb)
     · exact stp (cTW rfl (stp (cFW rfl hb)))
    have fail:∀ {n:Option Stk},((some (!decide ((u:ByteArray)=.empty))).bind fun a2795=>
        cond a2795
        (some true)
        ((some (!decide (v=0))).bind fun a2798=>
         cond a2798
         (some true)
         ((some (decide (((j:Nat):Int)<2))).bind fun a2801=>
          cond a2801
          (some true)
          ((subO ((j:Nat):Int) 1).bind fun a2804=>
           (idxO x1 a2804).bind fun a2812=>
           (some (decide (a2812<1))).bind fun a2814=>
           some a2814))))=some true→n=none→n=none:=fun _ h=>h
    by_cases hu:u=.empty
    case neg=>
     have hn:mC S (k,v,u)=none:=by rw [hst,if_neg (fun h=>hu h.2)]
     exact .inr ⟨_,sqW (bnd hi (bnd hc (cFW rfl (bnd (hten true (stp (cTW (nF (dF hu)) rfl))) rfl)))) rfl,rfl,bad hn⟩
    by_cases hv:v=0
    case neg=>
     have hn:mC S (k,v,u)=none:=by rw [hst,if_neg (fun h=>hv h.1)]
     exact .inr ⟨_,sqW (bnd hi (bnd hc (cFW rfl (bnd (hten true (stp (cFW (nT (dT hu)) (stp (cTW (nF (dF hv)) rfl))))) rfl)))) rfl,rfl,bad hn⟩
    rw [if_pos ⟨hv,hu⟩] at hst
    match S,h2,hst,hS with
    | [],h2,hst,_=>
     obtain rfl:j=0:=h2
     exact .inr ⟨_,sqW (bnd hi (bnd hc (cFW rfl (bnd (hten true (stp (cFW (nT (dT hu)) (stp (cFW (nT (dT hv)) (stp (cTW (dT (by omega)) rfl))))))) rfl)))) rfl,rfl,bad hst⟩
    | [(b,y)],h2,hst,_=>
     obtain ⟨s1,s2,s3,s4,s5⟩:=h2
     have s5:j-(flat b).length=0:=s5
     refine .inr ⟨_,sqW (bnd hi (bnd hc (cFW rfl (bnd (hten true (stp (cFW (nT (dT hu)) (stp (cFW (nT (dT hv)) (stp ?_)))))) rfl)))) rfl,rfl,bad hst⟩
     by_cases h2:((j:Nat):Int)<2
     · exact cTW (dT h2) rfl
     ·
      refine cFW (dF h2) (bnd (wC (by omega) (by omega)) (bnd (a:=0) ?_ rfl))
      rw [s5] at s2
      have e:(j:Int)-1=((j-1:Nat):Int):=by omega
      rw [e];exact kA s2
    | (b,y)::(a,x)::S',h2,hst,hS=>
     have hx:=hS (a,x) (by simp)
     have hy:=hS (b,y) (by simp)
     obtain ⟨s1,s2,s3,s4,r1,r2,r3,r4,r5⟩:=h2
     dsimp only at s2 s3 s4 r2 r3 r4
     have hpa:=vG a
     have hpb:=vG b
     have hj2:2≤j:=by omega
     obtain ⟨a1,a2,a3,a4⟩:=hx
     obtain ⟨b1,b2,b3,b4⟩:=hy
     have e1:subO ((j:Nat):Int) 1=some ((j-1:Nat):Int):=by rw [wC (by omega) (by omega)];congr 1;omega
     have e2:subO ((j-(flat b).length:Nat):Int) 1=some ((j-(flat b).length-1:Nat):Int):=by rw [wC (by omega) (by omega)];congr 1;omega
     have hpass:=hten false (stp (cFW (nT (dT hu)) (stp (cFW (nT (dT hv)) (stp (cFW (dF (by omega)) (bnd e1 (bnd (kA s2) (stp (congrArg some (dF (by omega))))))))))))
     have hlenT:(flat (.node k a b)).length=(flat a).length+(flat b).length+1:=by simp [flat];omega
     have hidx:j+1-(flat (.node k a b)).length=j-(flat b).length-(flat a).length:=by rw [hlenT];omega
     dsimp only at a1 a2 a3 a4 b1 b2 b3 b4
     have hS1:jS S':=fun p hp=>hS p (by simp [hp])
     have bg:∀ w:Int×Int,jn k x y=some w→mG w∧(¬(12:Int)<w.1)∧¬(12:Int)<w.2:=fun w h=>by
      have:=jn_ok (x:=x) (y:=y) ⟨a1,a2,a3,a4⟩ ⟨b1,b2,b3,b4⟩ h
      obtain ⟨c1,c2,c3,c4⟩:=this
      exact ⟨⟨c1,c2,c3,c4⟩,by omega,by omega⟩
     have hgood:∀ w:Int×Int,jn k x y=some w→∃ S1,yC (t.take (j+1)) []=some S1∧(x1++[((j-(flat b).length-(flat a).length:Nat):Int)]).length=j+1∧(x2++[w.1]).length=j+1∧(x3++[w.2]).length=j+1 ∧
       ScR (x1++[((j-(flat b).length-(flat a).length:Nat):Int)],x2++[w.1],x3++[w.2]) (j+1) S1∧∀ i S0,i≤j+1→yC (t.take i) []=some S0→ScR (x1++[((j-(flat b).length-(flat a).length:Nat):Int)],x2++[w.1],x3++[w.2]) i S0:=fun w hw=>by
      have hn:mC ((b,y)::(a,x)::S') (k,v,u)=some ((.node k a b,w)::S'):=by rw [hst];simp only [hw,Option.map_some]
      have:=good (.node k a b) w S' (by rw [hstep,hn]) (by rw [hlenT];omega) (by rw [hidx];exact r5)
      rw [hidx] at this
      exact this
     have hbad:jn k x y=none→yC t []=none:=fun hw=>bad (by rw [hst];simp only [hw,Option.map_none])
     have ap:∀ (l:List Int) (z:Int),l.length=j→nA l [z]=some (l++[z]):=fun l z h=>iB (by simp;omega)
     have s1':=En_ a1 a2 b1 b2
     have s2':=En_ a3 a4 b3 b4
     by_cases h15:k=15
     ·
      by_cases hxy:x.2=y.1
      ·
       have hw:jn k x y=some (x.1,y.2):=by unfold jn;rw [if_pos h15,if_pos hxy]
       obtain ⟨_,w1,w2⟩:=bg _ hw
       refine .inl ⟨(x1++[((j-(flat b).length-(flat a).length:Nat):Int)],x2++[x.1],x3++[y.2]),sqW (r:=some (.inl (x1++[((j-(flat b).length-(flat a).length:Nat):Int)],x2++[x.1],x3++[y.2]))) ?_ rfl,hgood _ hw⟩
       refine bnd hi (bnd hc (cFW rfl (bnd hpass (cFW rfl ?_))))
       refine bnd e1 (bnd (kA s2) (bnd e2 (bnd (kA r3) (bnd (kA s3) (bnd s1' (bnd (kA r4) (bnd (kA s4) (bnd s2' ?_))))))))
       refine sqW (r:=some (.inl (x.1,y.2))) (bnd (congrArg some (dT h15)) (cTW rfl (bnd (kA r4) (bnd (kA s3) (stp (cFW (nT (dT hxy)) (bnd (kA r3) (bnd (kA s4) rfl)))))))) ?_
       rw [pH]
       refine bnd (a:=false) (bnd (congrArg some (dF w1)) (bnd (congrArg some (dF w2)) rfl)) (cFW rfl ?_)
       exact bnd (kA r2) (bnd (ap _ _ l1) (bnd (ap _ _ l2) (bnd (ap _ _ l3) rfl)))
      ·
       have hw:jn k x y=none:=by unfold jn;rw [if_pos h15,if_neg hxy]
       refine .inr ⟨((x1,x2,x3),false),sqW (r:=some (.inr (.inr ((x1,x2,x3),false)))) ?_ rfl,rfl,hbad hw⟩
       refine bnd hi (bnd hc (cFW rfl (bnd hpass (cFW rfl ?_))))
       refine bnd e1 (bnd (kA s2) (bnd e2 (bnd (kA r3) (bnd (kA s3) (bnd s1' (bnd (kA r4) (bnd (kA s4) (bnd s2' ?_))))))))
       exact sqW (r:=some (.inr (.inr (.inr ((x1,x2,x3),false))))) (bnd (congrArg some (dT h15)) (cTW rfl (bnd (kA r4) (bnd (kA s3) (stp (cTW (nF (dF hxy)) rfl)))))) rfl
     ·
      by_cases h1:x.1+y.1≤12
      ·
       by_cases h2:x.2+y.2≤12
       ·
        have hw:jn k x y=some (x.1+y.1,x.2+y.2):=by unfold jn;rw [if_neg h15,if_pos ⟨h1,h2⟩]
        obtain ⟨_,w1,w2⟩:=bg _ hw
        refine .inl ⟨(x1++[((j-(flat b).length-(flat a).length:Nat):Int)],x2++[x.1+y.1],x3++[x.2+y.2]),sqW (r:=some (.inl (x1++[((j-(flat b).length-(flat a).length:Nat):Int)],x2++[x.1+y.1],x3++[x.2+y.2]))) ?_ rfl,hgood _ hw⟩
        refine bnd hi (bnd hc (cFW rfl (bnd hpass (cFW rfl ?_))))
        refine bnd e1 (bnd (kA s2) (bnd e2 (bnd (kA r3) (bnd (kA s3) (bnd s1' (bnd (kA r4) (bnd (kA s4) (bnd s2' ?_))))))))
        refine sqW (r:=some (.inl (x.1+y.1,x.2+y.2))) (bnd (congrArg some (dF h15)) (cFW rfl rfl)) ?_
        rw [pH]
        refine bnd (a:=false) (bnd (congrArg some (dF w1)) (bnd (congrArg some (dF w2)) rfl)) (cFW rfl ?_)
        exact bnd (kA r2) (bnd (ap _ _ l1) (bnd (ap _ _ l2) (bnd (ap _ _ l3) rfl)))
       ·
        have hw:jn k x y=none:=by unfold jn;rw [if_neg h15,if_neg (fun h=>h2 h.2)]
        refine .inr ⟨((x1,x2,x3),false),sqW (r:=some (.inr (.inr ((x1,x2,x3),false)))) ?_ rfl,rfl,hbad hw⟩
        refine bnd hi (bnd hc (cFW rfl (bnd hpass (cFW rfl ?_))))
        refine bnd e1 (bnd (kA s2) (bnd e2 (bnd (kA r3) (bnd (kA s3) (bnd s1' (bnd (kA r4) (bnd (kA s4) (bnd s2' ?_))))))))
        refine sqW (r:=some (.inl (x.1+y.1,x.2+y.2))) (bnd (congrArg some (dF h15)) (cFW rfl rfl)) ?_
        rw [pH]
        exact bnd (a:=true) (bnd (congrArg some (dF (by dsimp only;omega))) (bnd (congrArg some (dT (by dsimp only;omega))) rfl)) (cTW rfl rfl)
      ·
       have hw:jn k x y=none:=by unfold jn;rw [if_neg h15,if_neg (fun h=>h1 h.1)]
       refine .inr ⟨((x1,x2,x3),false),sqW (r:=some (.inr (.inr ((x1,x2,x3),false)))) ?_ rfl,rfl,hbad hw⟩
       refine bnd hi (bnd hc (cFW rfl (bnd hpass (cFW rfl ?_))))
       refine bnd e1 (bnd (kA s2) (bnd e2 (bnd (kA r3) (bnd (kA s3) (bnd s1' (bnd (kA r4) (bnd (kA s4) (bnd s2' ?_))))))))
       refine sqW (r:=some (.inl (x.1+y.1,x.2+y.2))) (bnd (congrArg some (dF h15)) (cFW rfl rfl)) ?_
       rw [pH]
       exact bnd (a:=true) (bnd (congrArg some (dT (by dsimp only;omega))) rfl) (cTW rfl rfl)
   ·
    have ap:∀ (l:List Int) (z:Int),l.length=j→nA l [z]=some (l++[z]):=fun l z h=>iB (by simp;omega)
    cases hb:lfB (k,v,u) with
    | true=>
     have hr:rng k 1 14=true:=by
      unfold lfB at hb;simp only [Bool.and_eq_true] at hb;exact hb.2.1
     have hk17:¬k=17:=by have:=rng_true.1 hr;omega
     have hn:mC S (k,v,u)=some ((.leaf (k,v,u),lfT (k,v,u))::S):=by unfold mC;rw [if_neg hk,if_pos hb]
     have hc:((kH (k,v,u)).bind fun y2720=>cond y2720 (some true) ((some (decide (k=17))).bind fun a2724=>some a2724))=some true:=
      bnd (zV _) (by rw [hb];rfl)
     have:=good (.leaf (k,v,u)) (lfT (k,v,u)) S (by rw [hstep,hn]) (by simp [flat]) (by simpa [flat] using h2)
     rw [show j+1-(flat (.leaf (k,v,u))).length=j by simp [flat]] at this
     refine .inl ⟨(x1++[((j:Nat):Int)],x2++[(lfT (k,v,u)).1],x3++[(lfT (k,v,u)).2]),sqW (r:=some (.inl (x1++[((j:Nat):Int)],x2++[(lfT (k,v,u)).1],x3++[(lfT (k,v,u)).2]))) ?_ rfl,this⟩
     refine bnd hi (bnd hc (cTW rfl (bnd (DE_ _) ?_)))
     refine sqW (r:=some (.inl ((lfT (k,v,u)).2,(lfT (k,v,u)).1))) (bnd (congrArg some (dF hk17)) (cFW rfl rfl)) ?_
     rw [pH]
     exact bnd (ap _ _ l1) (bnd (ap _ _ l2) (bnd (ap _ _ l3) rfl))
    | false=>
     have hn:mC S (k,v,u)=none:=by unfold mC;rw [if_neg hk,if_neg (by rw [hb];simp)]
     by_cases h17:k=17
     ·
      have hc:((kH (k,v,u)).bind fun y2720=>cond y2720 (some true) ((some (decide (k=17))).bind fun a2724=>some a2724))=some true:=
       bnd (zV _) (by rw [hb];exact cFW rfl (stp (congrArg some (dT h17))))
      refine .inr ⟨((x1,x2,x3),false),sqW (r:=some (.inr (.inr ((x1,x2,x3),false)))) ?_ rfl,rfl,bad hn⟩
      refine bnd hi (bnd hc (cTW rfl (bnd (DE_ _) ?_)))
      exact sqW (r:=some (.inr (.inr (.inr ((x1,x2,x3),false))))) (bnd (congrArg some (dT h17)) (cTW rfl (bnd (HL_ _) (bnd (a:=true) rfl (cTW rfl rfl))))) rfl
     ·
      have hc:((kH (k,v,u)).bind fun y2720=>cond y2720 (some true) ((some (decide (k=17))).bind fun a2724=>some a2724))=some false:=
       bnd (zV _) (by rw [hb];exact cFW rfl (stp (congrArg some (dF h17))))
      have hk1:¬k=15:=fun h=>hk (.inl h)
      have hk2:¬k=16:=fun h=>hk (.inr h)
      exact .inr ⟨_,sqW (bnd hi (bnd hc (cFW rfl (bnd (a:=true) (stp (cTW (nF (dF hk1)) (stp (cTW (nF (dF hk2)) rfl)))) rfl)))) rfl,rfl,bad hn⟩)
  rcases loop with ⟨x,h1,S,h2,k1,k2,k3,h3,hall⟩ | ⟨⟨x,r⟩,h1,rfl,h2⟩
  ·
   rw [List.take_length] at h2
   have hne:S≠[]:=by
    rintro rfl
    have:t.length=0:=h3
    omega
   obtain ⟨⟨T,w⟩,S',rfl⟩:∃ p S',S=p::S':=by
    cases S with
    | nil=>exact (hne rfl).elim
    | cons p S'=>exact ⟨p,S',rfl⟩
   obtain ⟨s1,s2,s3,s4,s5⟩:=h3
   have hT:=vG T
   have ev:fD t=decide (((t.length-(flat T).length:Nat):Int)=0):=by
    unfold fD
    rw [hr,h2,Bool.true_and]
    match S',s5 with
    | [],s5=>
     have s5:t.length-(flat T).length=0:=s5
     rw [s5];rfl
    | (T',w')::S'',s5=>
     have:=vG T'
     exact (dF (by have:=s5.1;omega)).symm
   refine ⟨x,bnd (l1In _ _ _) (stp ?_),fun S0 hS0 _=>?_⟩
   ·
    rw [hr]
    refine cFW rfl (sqW h1 ?_)
    rw [pH]
    refine bnd (a:=((t.length-1:Nat):Int)) (by rw [wC (by omega) (by omega)];congr 1;omega) (bnd (kA s2) (stp ?_))
    rw [ev]
   ·
    rw [h2] at hS0
    obtain rfl:=Option.some.inj hS0
    refine ⟨k1,⟨s1,s2,s3,s4,s5⟩,fun S0 p q hpq hp=>?_⟩
    refine hall p.length S0 (by rw [hpq];simp) ?_
    rw [hpq,List.take_left];exact hp
  ·
   refine ⟨x,bnd (l1In _ _ _) (stp ?_),fun S hS=>by rw [h2] at hS;cases hS⟩
   rw [hr]
   refine cFW rfl (sqW h1 ?_)
   rw [uW]
   unfold fD
   rw [h2,hr];rfl
end Go.Proofs.YtemcakhocdchiaaGreatDoor
namespace Go.Proofs.YtemcakhocdchiaaGreatDoor
def xD:Tr→Option (Int×Int)
 | .leaf n=>if lfB n=true then some (lfT n) else none
 | .node k a b=>if k=15∨k=16 then (xD a).bind fun x=>(xD b).bind fun y=>jn k x y else none
def typS (S:Stk):Prop:=∀ p∈S,xD p.1=some p.2
theorem H6_ {S S':Stk}{n:Nod} (hS:typS S) (h:mC S n=some S'):typS S':=by
 unfold mC at h
 split at h
 ·
  rename_i hk
  split at h
  ·
   split at h
   ·
    rename_i b y a x S0
    obtain ⟨w,hw,rfl⟩:=Option.map_eq_some_iff.1 h
    intro p hp
    rcases List.mem_cons.1 hp with rfl | hp
    ·
     have h1:=hS (a,x) (by simp)
     have h2:=hS (b,y) (by simp)
     dsimp only at h1 h2
     show (if n.1=15∨n.1=16 then _ else none)=_
     rw [if_pos hk,h1,h2];exact hw
    · exact hS p (by simp [hp])
   · cases h
  · cases h
 ·
  split at h
  ·
   obtain rfl:=Option.some.inj h
   intro p hp
   rcases List.mem_cons.1 hp with rfl | hp
   ·
    show (if lfB n=true then _ else none)=_
    rw [if_pos ‹_›]
   · exact hS p hp
  · cases h
theorem DJ_:∀ (t:List Nod) (S S':Stk),typS S→yC t S=some S'→typS S'
 | [],S,S',hS,h=>by obtain rfl:=Option.some.inj h;exact hS
 | n::t,S,S',hS,h=>by
  obtain ⟨S1,h1,h2⟩:=eC h
  exact DJ_ t S1 S' (H6_ hS h1) h2
theorem cJ {k:Int}{a b:Tr}{w:Int×Int} (h:xD (.node k a b)=some w):(k=15∨k=16)∧∃ x y,xD a=some x∧xD b=some y∧jn k x y=some w:=by
 unfold xD at h
 split at h
 ·
  obtain ⟨x,h1,h2⟩:=eC h
  obtain ⟨y,h3,h4⟩:=eC h2
  exact ⟨‹_›,x,y,h1,h3,h4⟩
 · cases h
theorem fK {n:Nod}{w:Int×Int} (h:xD (.leaf n)=some w):lfB n=true∧w=lfT n:=by
 unfold xD at h
 split at h
 · exact ⟨‹_›,(Option.some.inj h).symm⟩
 · cases h
theorem cM {n:Nod} (h:lfB n=true):1≤n.1∧n.1≤14:=by
 unfold lfB at h;simp only [Bool.and_eq_true] at h
 exact rng_true.1 h.2.1
theorem gR:∀ {T:Tr}{w:Int×Int},xD T=some w→∀ S,yC (flat T) S=some ((T,w)::S)
 | .leaf n,w,h,S=>by
  obtain ⟨h1,rfl⟩:=fK h
  have hk:=cM h1
  show (mC S n).bind _=_
  unfold mC
  rw [if_neg (by omega),if_pos h1];rfl
 | .node k a b,w,h,S=>by
  obtain ⟨hk,x,y,h1,h2,h3⟩:=cJ h
  show yC (flat a++flat b++[(k,0,.empty)]) S=_
  rw [runT_app,runT_app,gR h1 S]
  show ((yC (flat b) ((a,x)::S)).bind _)=_
  rw [gR h2]
  show (mC ((b,y)::(a,x)::S) (k,0,.empty)).bind _=_
  unfold mC
  rw [if_pos hk,if_pos ⟨rfl,rfl⟩]
  show ((jn k x y).map _).bind _=_
  rw [h3];rfl
theorem fO {t:List Nod} (h:fD t=true):∃ T w,t=flat T∧xD T=some w∧t.length≤400:=by
 unfold fD at h
 rw [Bool.and_eq_true] at h
 have hl:=rng_true.1 h.1
 cases hr:yC t [] with
 | none=>rw [hr] at h;cases h.2
 | some S=>
  rw [hr] at h
  match S,hr,h.2 with
  | [(T,w)],hr,_=>
   have h1:=As_ _ _ _ hr
   have h2:=DJ_ _ _ _ (fun p hp=>by cases hp) hr
   refine ⟨T,w,?_,h2 (T,w) (by simp),by omega⟩
   unfold fM at h1
   simpa using h1.symm
theorem Dc_ {t:List Nod}{x:List Int×List Int×List Int}{b:Bool} (h:wT [] t=some (x,b)):rT t=some (x,b):=bnd h rfl
theorem Fe_ {t:List Nod} (h:t.length≤bB):gU t=some t:=bnd (iB (by simpa using h)) rfl
theorem IR_ {k:Int}{a b:Tr}{w:Int×Int} (h:xD (.node k a b)=some w) (hl:(flat (.node k a b)).length≤400):bZ (flat (.node k a b))=some (flat a,flat b):=by
 have hm:bB=1099511627776:=rfl
 obtain ⟨hk,x,y,h1,h2,h3⟩:=cJ h
 obtain ⟨X,hX,hs⟩:=EL_ (flat (.node k a b))
 have hpa:=vG a
 have hpb:=vG b
 have hlen:(flat (.node k a b)).length=(flat a).length+(flat b).length+1:=by simp [flat];omega
 obtain ⟨k1,_,hsc⟩:=hs _ (gR h []) (rng_true.2 (by omega))
 have hsc:=hsc [(b,y),(a,x)] (flat a++flat b) [(k,0,.empty)] rfl (by
  rw [runT_app,gR h1]
  show yC (flat b) [(a,x)]=_
  rw [gR h2])
 obtain ⟨_,s2,_⟩:=hsc
 rw [List.length_append,Nat.add_sub_cancel] at s2
 have sl1:dB (flat (.node k a b)) 0 (((flat a).length:Nat):Int)=some (flat a):=by
  unfold dB;rw [if_pos ⟨by omega,by omega,by omega⟩]
  simp [flat]
 have sl2:dB (flat (.node k a b)) (((flat a).length:Nat):Int) (((flat a).length+(flat b).length:Nat):Int)=some (flat b):=by
  unfold dB;rw [if_pos ⟨by omega,by omega,by omega⟩]
  have e:(((flat a).length:Int)+((flat b).length:Int)).toNat-(flat a).length=(flat b).length:=by omega
  simp [flat,e]
 refine bnd (Dc_ hX) (bnd (a:=(((flat a).length+(flat b).length:Nat):Int)) (by rw [hlen,wC (by omega) (by omega)];congr 1;omega)
  (bnd (a:=(((flat a).length+(flat b).length-1:Nat):Int)) (by rw [wC (by omega) (by omega)];congr 1;omega) (bnd (kA s2) (bnd sl1 (bnd sl2 (bnd (Fe_ (by omega)) (bnd (Fe_ (by omega)) rfl)))))))
def frL (a b:Nat):List Int:=(List.range b).map fun j:Nat=>((j:Int)+(a:Int))
theorem frL_len (a b:Nat):(frL a b).length=b:=by simp [frL]
def ugL (n:Nat):List Int:=(List.range n).map fun q:Nat=>(q:Int)
theorem ugL_len (n:Nat):(ugL n).length=n:=by simp [ugL]
theorem ugTo_ {n:Nat} (hn:n≤1048576):zJ (n:Int)=some (ugL n):=upT_ hn
theorem DB_ (n:Nat):ugL (n+1)=ugL n++[(n:Int)]:=by unfold ugL;rw [List.range_succ];simp
theorem frL_succ (a b:Nat):frL a (b+1)=frL a b++[(b:Int)+a]:=by unfold frL;rw [List.range_succ];simp
theorem IT_ (a b:Nat):(yA b fun k=>(k:Int)+a)=frL a b:=rfl
def xF (n:Nod):Gra:=if n.1=1 then (n.2.1,[],ugL n.2.1.toNat,ugL n.2.1.toNat) else if n.1=2 then (2,[],[0,1],[1,0]) else
 ((kd n.1).1+(kd n.1).2,[(n.1,n.2.1,ugL (kd n.1).1.toNat,frL (kd n.1).1.toNat (kd n.1).2.toNat)],ugL (kd n.1).1.toNat,frL (kd n.1).1.toNat (kd n.1).2.toNat)
theorem hgId_ {n:Nat} (hn:n≤1000):Ab_ (n:Int)=some ((n:Int),[],ugL n,ugL n):=by
 have hm:bB=1099511627776:=rfl
 have loop:=dK (f:=fun (s166:List Int×List Int×Int)=>
   (some (decide (s166.2.2<(n:Int)))).bind fun a179=>
   cond a179
   ((nA s166.1 [s166.2.2]).bind fun a187=>
    (nA s166.2.1 [s166.2.2]).bind fun a196=>
    (mA s166.2.2 1).bind fun a202=>
    some (.inl (a187,a196,a202)))
   (some (.inr (s166.1,s166.2.1)))) (fun j=>(ugL j,ugL j,(j:Int))) (t:=(ugL n,ugL n)) n (fun j hj=>by
  refine stp (cTW (dT (by dsimp only;omega)) ?_)
  have e:nA (ugL j) [(j:Int)]=some (ugL (j+1)):=by rw [DB_];exact iB (by rw [ugL_len];simp;omega)
  exact bnd e (bnd e (bnd (aB (by dsimp only;omega) (by dsimp only;omega)) rfl)))
  (stp (cFW (dF (by dsimp only;omega)) rfl))
 exact bnd loop rfl
theorem HP_ {a b:Nat} (ha:a≤1000) (hb:b≤1000):nB (fun (s328:List Int×List Int×List Int×List Int×Int)=>
     (mA (a:Int) (b:Int)).bind fun a345=>
     (some (decide (s328.2.2.2.2<a345))).bind fun a347=>
     cond a347
     ((some (decide (s328.2.2.2.2<(a:Int)))).bind fun a352=>
      cond a352
      ((nA s328.1 [s328.2.2.2.2]).bind fun a379=>
       (nA s328.2.2.1 [s328.2.2.2.2]).bind fun a388=>
       (mA s328.2.2.2.2 1).bind fun a394=>
       some (.inl (a379,s328.2.1,a388,s328.2.2.2.1,a394)))
      ((nA s328.2.1 [s328.2.2.2.2]).bind fun a358=>
       (nA s328.2.2.2.1 [s328.2.2.2.2]).bind fun a367=>
       (mA s328.2.2.2.2 1).bind fun a373=>
       some (.inl (s328.1,a358,s328.2.2.1,a367,a373))))
     (some (.inr (s328.1,s328.2.1,s328.2.2.1,s328.2.2.2.1)))) (([]:List Int),([]:List Int),([]:List Int),([]:List Int),(0:Int))=some (ugL a,frL a b,ugL a,frL a b):=by
 have hm:bB=1099511627776:=rfl
 have hs:mA (a:Int) (b:Int)=some ((a:Int)+b):=aB (by omega) (by omega)
 have loop:=dK (f:=fun (s328:List Int×List Int×List Int×List Int×Int)=>
     (mA (a:Int) (b:Int)).bind fun a345=>
     (some (decide (s328.2.2.2.2<a345))).bind fun a347=>
     cond a347
     ((some (decide (s328.2.2.2.2<(a:Int)))).bind fun a352=>
      cond a352
      ((nA s328.1 [s328.2.2.2.2]).bind fun a379=>
       (nA s328.2.2.1 [s328.2.2.2.2]).bind fun a388=>
       (mA s328.2.2.2.2 1).bind fun a394=>
       some (.inl (a379,s328.2.1,a388,s328.2.2.2.1,a394)))
      ((nA s328.2.1 [s328.2.2.2.2]).bind fun a358=>
       (nA s328.2.2.2.1 [s328.2.2.2.2]).bind fun a367=>
       (mA s328.2.2.2.2 1).bind fun a373=>
       some (.inl (s328.1,a358,s328.2.2.1,a367,a373))))
     (some (.inr (s328.1,s328.2.1,s328.2.2.1,s328.2.2.2.1)))) (fun j=>(ugL (min j a),frL a (j-a),ugL (min j a),frL a (j-a),(j:Int))) (t:=(ugL a,frL a b,ugL a,frL a b)) (a+b) (fun j hj=>by
  refine bnd hs (stp (cTW (dT (by dsimp only;omega)) ?_))
  have e1:mA ((j:Nat):Int) 1=some ((j+1:Nat):Int):=aB (by omega) (by omega)
  by_cases hja:j<a
  ·
   have e:nA (ugL (min j a)) [(j:Int)]=some (ugL (min (j+1) a)):=by
    rw [Nat.min_eq_left (by omega),Nat.min_eq_left (by omega),DB_];exact iB (by rw [ugL_len];simp;omega)
   refine stp (cTW (dT (by dsimp only;omega)) (bnd e (bnd e (bnd e1 ?_))))
   rw [show j+1-a=j-a by omega]
  ·
   have e:nA (frL a (j-a)) [(j:Int)]=some (frL a (j+1-a)):=by
    rw [show j+1-a=j-a+1 by omega,frL_succ,show ((j-a:Nat):Int)+a=j by omega];exact iB (by rw [frL_len];simp;omega)
   refine stp (cFW (dF (by dsimp only;omega)) (bnd e (bnd e (bnd e1 ?_))))
   rw [Nat.min_eq_right (by omega),Nat.min_eq_right (by omega)])
  (bnd hs (stp (cFW (dF (by dsimp only;omega)) (by rw [Nat.min_eq_right (by omega),Nat.add_sub_cancel_left]))))
 rw [Nat.zero_min,Nat.zero_sub] at loop
 exact loop
theorem bP (k:Int):∃ a b:Nat,kd k=((a:Int),(b:Int))∧a≤2∧b≤2:=by
 have h:=kd_le k
 refine ⟨(kd k).1.toNat,(kd k).2.toNat,Prod.ext (by dsimp only;omega) (by dsimp only;omega),by omega,by omega⟩
theorem yW {n:Nod} (h:lfB n=true) (h1:n.1=1):0≤n.2.1∧n.2.1≤12:=by
 unfold lfB at h
 simp only [Bool.and_eq_true] at h
 rw [if_pos h1] at h
 exact rng_true.1 h.2.2
theorem nW {n:Nod} (h:lfB n=true):nQ n=some (xF n):=by
 obtain ⟨k,v,s⟩:=n
 unfold nQ xF
 by_cases h1:k=1
 ·
  have hv:=yW h h1
  dsimp only at hv
  obtain ⟨m,rfl⟩:∃ m:Nat,v=(m:Int):=⟨v.toNat,by omega⟩
  simp [h1,hgId_ (n:=m) (by omega)]
 by_cases h2:k=2
 · simp [h2]
 obtain ⟨a,b,hk,ha,hb⟩:=bP k
 have hs:mA (a:Int) (b:Int)=some ((a:Int)+b):=aB (by omega) (by omega)
 rw [if_neg h1,if_neg h2]
 refine stp (cFW (dF h1) (stp (cFW (dF h2) (bnd (tmKind_ k) ?_))))
 simp only [hk,Int.toNat_natCast]
 exact bnd hs (bnd (HP_ (by omega) (by omega)) rfl)
theorem HK_ {n:Nod} (h:lfB n=true):yP n=some (xF n):=by
 have hm:bB=1099511627776:=rfl
 have hkk:=cM h
 obtain ⟨k,v,s⟩:=n
 dsimp only at hkk
 unfold yP xF
 by_cases h1:k=1
 ·
  have hv:=yW h h1
  dsimp only at hv
  obtain ⟨m,rfl⟩:∃ m:Nat,v=(m:Int):=⟨v.toNat,by omega⟩
  have:cY (m:Int)=some ((m:Int),[],ugL m,ugL m):=bnd (ugTo_ (by omega)) (bnd (ugTo_ (by omega)) rfl)
  simp [h1,this]
 by_cases h2:k=2
 · simp [h2]
 obtain ⟨a,b,hk,ha,hb⟩:=bP k
 have hs:mA (a:Int) (b:Int)=some ((a:Int)+b):=aB (by omega) (by omega)
 have hr:rng k 3 14=true:=rng_true.2 (by omega)
 have c1:mL (ugL a)=some (ugL a):=eX (by rw [ugL_len];omega)
 have c2:mL (frL a b)=some (frL a b):=eX (by rw [frL_len];omega)
 have f1:=uX (n:=b) (a:=a) (by omega) (by omega)
 rw [IT_] at f1
 simp only [h1,h2,zP hr,hk,decide_false,cond_false,Option.bind_some,hs,if_false,Int.toNat_natCast,ugTo_ (n:=a) (by omega),f1,c1,c2]
theorem rV {n:Nod} (h:lfB n=true):gOk (xF n)=true∧((xF n).2.2.1.length:Int)=(lfT n).1∧((xF n).2.2.2.length:Int)=(lfT n).2:=by
 have hkk:=cM h
 obtain ⟨k,v,s⟩:=n
 dsimp only at hkk
 unfold xF lfT
 by_cases h1:k=1
 ·
  have hv:=yW h h1
  dsimp only at hv
  obtain ⟨m,rfl⟩:∃ m:Nat,v=(m:Int):=⟨v.toNat,by omega⟩
  have key:∀ m:Nat,m<13→gOk ((m:Int),[],ugL m,ugL m)=true:=by decide
  simp only [h1,if_true,Int.toNat_natCast,ugL_len]
  exact ⟨key m (by omega),trivial,trivial⟩
 by_cases h2:k=2
 ·
  subst h2
  have e:gOk (2,[],[0,1],[1,0])=true:=by decide
  exact ⟨e,rfl,rfl⟩
 have hr:rng k 3 14=true:=rng_true.2 (by omega)
 have hg:tF k v=true:=by
  unfold lfB at h
  simp only [Bool.and_eq_true] at h
  rw [if_neg h1] at h
  unfold tF
  rw [hr,Bool.true_and];exact h.2.2
 obtain ⟨a,b,hk,ha,hb⟩:=bP k
 have h0:=hk
 simp only [h1,h2,if_false,hk,Int.toNat_natCast,ugL_len,frL_len,and_true]
 have hE:edW ((a:Int)+b) (k,v,ugL a,frL a b)=(wOk ((a:Int)+b) (ugL a)&&wOk ((a:Int)+b) (frL a b)):=by
  unfold edW arB edI edO
  simp only [hg,hk,ugL_len,frL_len,decide_true,Bool.true_and]
 have e1:((a:Int)+b)=((a+b:Nat):Int):=by omega
 unfold gOk eD
 simp only [List.all_cons,List.all_nil,hE,ugL_len,frL_len,List.map_cons,List.map_nil]
 have key:∀ a:Nat,a<3→∀ b:Nat,b<3→(rng ((a:Int)+b) 0 100&&(decide (1≤60)&&(decide (a≤12)&&(decide (b≤12)&&(wOk ((a:Int)+b) (ugL a)&&(wOk ((a:Int)+b) (frL a b)&&((wOk ((a:Int)+b) (ugL a)&&wOk ((a:Int)+b) (frL a b)&&true)&&(List.range ((a:Int)+b).toNat).all fun j:Nat=>decide ((j:Int)∈ugL a++frL a b++([ugL a++frL a b]).flatten))))))))=true:=by decide
 exact key a (by omega) b (by omega)
def aF (k:Int) (a b:Gra):Gra:=if k=15 then jM a.1.toNat b.1.toNat a b else vK a.1.toNat b.1.toNat a b
def made:Tr→Gra×Bool
 | .leaf n=>(xF n,true)
 | .node k a b=>if (made a).2=true∧(made b).2=true then ifG (aF k (made a).1 (made b).1) else (noG,false)
theorem Fu_ {g:Gra} (h:(ifG g).2=true):gOk g=true∧(ifG g).1=g:=by
 unfold ifG at h ⊢
 split at h
 ·
  rename_i hg
  rw [if_pos hg];exact ⟨hg,rfl⟩
 · cases h
theorem I2_ (n m:Nat) (a b:Gra):(jM n m a b).2.2.1.length=a.2.2.1.length∧(jM n m a b).2.2.2.length=b.2.2.2.length:=by
 unfold jM gluG mpG zK
 dsimp only
 rw [mp_len,mp_len,mp_len];exact ⟨rfl,rfl⟩
theorem I3_ (n m:Nat) (a b:Gra):(vK n m a b).2.2.1.length=a.2.2.1.length+b.2.2.1.length∧(vK n m a b).2.2.2.length=a.2.2.2.length+b.2.2.2.length:=by
 unfold vK
 dsimp only
 rw [List.length_append,List.length_append,mp_len,mp_len];exact ⟨rfl,rfl⟩
def lens (g:Gra) (w:Int×Int):Prop:=(g.2.2.1.length:Int)=w.1∧(g.2.2.2.length:Int)=w.2
theorem AB_ {k:Int}{a b:Gra}{x y w:Int×Int} (ha:lens a x) (hb:lens b y) (h:jn k x y=some w):lens (aF k a b) w∧(k=15→a.2.2.2.length=b.2.2.1.length):=by
 obtain ⟨a1,a2⟩:=ha
 obtain ⟨b1,b2⟩:=hb
 unfold aF
 unfold jn at h
 by_cases hk:k=15
 ·
  rw [if_pos hk] at h ⊢
  split at h
  ·
   obtain rfl:=Option.some.inj h
   have:=I2_ a.1.toNat b.1.toNat a b
   exact ⟨⟨by dsimp only;omega,by dsimp only;omega⟩,fun _=>by omega⟩
  · cases h
 ·
  rw [if_neg hk] at h ⊢
  split at h
  ·
   obtain rfl:=Option.some.inj h
   have:=I3_ a.1.toNat b.1.toNat a b
   exact ⟨⟨by dsimp only;omega,by dsimp only;omega⟩,fun h=>(hk h).elim⟩
  · cases h
theorem uL:∀ {T:Tr}{w:Int×Int},xD T=some w→(made T).2=true→gOk (made T).1=true∧lens (made T).1 w
 | .leaf n,w,h,_=>by
  obtain ⟨h1,rfl⟩:=fK h
  have:=rV h1
  exact ⟨this.1,this.2.1,this.2.2⟩
 | .node k a b,w,h,hm=>by
  obtain ⟨hk,x,y,h1,h2,h3⟩:=cJ h
  unfold made at hm ⊢
  split at hm
  ·
   rename_i hab
   rw [if_pos hab]
   obtain ⟨g1,g2⟩:=Fu_ hm
   rw [g2]
   exact ⟨g1,(AB_ (uL h1 hab.1).2 (uL h2 hab.2).2 h3).1⟩
  · cases hm
theorem Fv_ {k:Int}{a b:Gra} (ga:gOk a=true) (gb:gOk b=true) (hl:k=15→a.2.2.2.length=b.2.2.1.length):(k=15→hU a b=some (aF k a b)∧wP a b=some (aF k a b))∧(k≠15→yZ a b=some (aF k a b)∧xP a b=some (aF k a b)):=by
 obtain ⟨n,ha⟩:=Az_ ga
 obtain ⟨m,hb⟩:=Az_ gb
 have n1:=ha.n100;have m1:=hb.n100
 unfold aF
 rw [ha.w,hb.w,Int.toNat_natCast,Int.toNat_natCast]
 constructor
 · intro h;rw [if_pos h];exact ⟨hgSeq_ ha hb (hl h),HA_ ha hb (hl h)⟩
 · intro h;rw [if_neg h];exact ⟨bnd (Dp_ (by omega) (by omega) ha.w hb.w ha.rgd hb.rgd) rfl,HH_ (by omega) (by omega) ha.w hb.w ha.rgd hb.rgd⟩
theorem Hx_ (n:Nod):fU (flat (.leaf n))=some n.1:=rfl
theorem Hw_ (k:Int) (a b:Tr) (hl:(flat (.node k a b)).length≤400):fU (flat (.node k a b))=some k:=by
 have hlen:(flat (.node k a b)).length=(flat a).length+(flat b).length+1:=by simp [flat];omega
 refine bnd (a:=(((flat a).length+(flat b).length:Nat):Int)) (by rw [hlen,wC (by omega) (by omega)];congr 1;omega) (bnd (a:=(k,0,.empty)) (kA ?_) rfl)
 show (flat a++flat b++[_])[_]?=_
 rw [List.getElem?_append_right (by simp)];simp
theorem Bl_:∀ (fuel:Nat){T:Tr}{w:Int×Int},xD T=some w→(flat T).length≤400→(flat T).length≤fuel→cQ fuel (flat T)=some (made T)
 | 0,T,_,_,_,hf=>by have:=vG T;omega
 | fuel+1,.leaf n,w,h,hl,hf=>by
  obtain ⟨h1,rfl⟩:=fK h
  have hk:=cM h1
  exact bnd (Hx_ n) (stp (cTW (dT (by omega)) (bnd (a:=n) rfl (bnd (nW h1) rfl))))
 | fuel+1,.node k a b,w,h,hl,hf=>by
  obtain ⟨hk,x,y,h1,h2,h3⟩:=cJ h
  have hpa:=vG a
  have hpb:=vG b
  have hlen:(flat (.node k a b)).length=(flat a).length+(flat b).length+1:=by simp [flat];omega
  have ia:=Bl_ fuel h1 (by omega) (by omega)
  have ib:=Bl_ fuel h2 (by omega) (by omega)
  refine bnd (Hw_ k a b hl) (stp (cFW (dF (by omega)) (bnd (IR_ h hl) (bnd ia (bnd ib ?_)))))
  rw [made]
  cases ma:(made a).2 with
  | false=>
   rw [if_neg (fun h=>by cases h.1)]
   exact bnd (a:=true) rfl rfl
  | true=>
   cases mb:(made b).2 with
   | false=>
    rw [if_neg (fun h=>by cases h.2)]
    exact bnd (a:=true) rfl rfl
   | true=>
    rw [if_pos ⟨rfl,rfl⟩]
    obtain ⟨ga,la⟩:=uL h1 ma
    obtain ⟨gb,lb⟩:=uL h2 mb
    have hc:=Fv_ (k:=k) ga gb (AB_ la lb h3).2
    refine bnd (a:=false) rfl (cFW rfl ?_)
    by_cases h15:k=15
    · exact stp (cTW (dT h15) (bnd (hc.1 h15).1 (bnd (hgIf_ _) rfl)))
    · exact stp (cFW (dF h15) (bnd (hc.2 h15).1 (bnd (hgIf_ _) rfl)))
noncomputable def mS (t_:List Nod) (k11:Nat) (s383:List Gra):Option (List Gra⊕(Gra×Bool)):=
   (idxO t_ ((k11:Nat):Int)).bind fun a399=>
   (subO ((s383.length:Nat):Int) 1).bind fun a407=>
   (some (decide (a399.1=15))).bind fun a412=>
   cond a412
   ((subO a407 1).bind fun a522=>
    (idxO s383 a522).bind fun a530=>
    (idxO s383 a407).bind fun a542=>
    (wP (a530.1,a530.2.1,a530.2.2.1,a530.2.2.2) (a542.1,a542.2.1,a542.2.2.1,a542.2.2.2)).bind fun y548=>
    (subO a407 1).bind fun a558=>
    (dB s383 0 a558).bind fun a560=>
    (sJ (y548.1,y548.2.1,y548.2.2.1,y548.2.2.2)).bind fun y564=>
    (some (!y564)).bind fun a567=>
    cond a567
    (some (.inr ((0,[],[],[]),false)))
    ((nA a560 [(y548.1,y548.2.1,y548.2.2.1,y548.2.2.2)]).bind fun a577=>
     some (.inl a577)))
   ((some (decide (a399.1=16))).bind fun a415=>
    cond a415
    ((subO a407 1).bind fun a454=>
     (idxO s383 a454).bind fun a462=>
     (idxO s383 a407).bind fun a474=>
     (xP (a462.1,a462.2.1,a462.2.2.1,a462.2.2.2) (a474.1,a474.2.1,a474.2.2.1,a474.2.2.2)).bind fun y480=>
     (subO a407 1).bind fun a490=>
     (dB s383 0 a490).bind fun a492=>
     (sJ (y480.1,y480.2.1,y480.2.2.1,y480.2.2.2)).bind fun y496=>
     (some (!y496)).bind fun a499=>
     cond a499
     (some (.inr ((0,[],[],[]),false)))
     ((nA a492 [(y480.1,y480.2.1,y480.2.2.1,y480.2.2.2)]).bind fun a509=>
      some (.inl a509)))
    ((yP (a399.1,a399.2.1,a399.2.2)).bind fun y418=>
     (sJ (y418.1,y418.2.1,y418.2.2.1,y418.2.2.2)).bind fun y428=>
     (some (!y428)).bind fun a431=>
     cond a431
     (some (.inr ((0,[],[],[]),false)))
     ((nA s383 [(y418.1,y418.2.1,y418.2.2.1,y418.2.2.2)]).bind fun a441=>
      some (.inl a441))))
theorem HR_ {t:List Nod}{j:Nat}{n:Nod}{s:List Gra} (ht:t[j]?=some n) (hn:lfB n=true) (hs:s.length≤1000):mS t j s=some (.inl (s++[xF n])):=by
 have hm:bB=1099511627776:=rfl
 have hk:=cM hn
 refine bnd (kA ht) (bnd (wC (by omega) (by omega)) (stp (cFW (dF (by omega)) (stp (cFW (dF (by omega)) (bnd (HK_ hn) (bnd (AS_ _) (stp ?_))))))))
 rw [(rV hn).1]
 exact cFW rfl (bnd (iB (by simp;omega)) rfl)
theorem HQ_ {t:List Nod}{j:Nat}{k:Int}{s:List Gra}{a b:Gra} (ht:t[j]?=some (k,0,.empty)) (hk:k=15∨k=16) (hs:s.length≤1000) (ga:gOk a=true) (gb:gOk b=true) (hl:k=15→a.2.2.2.length=b.2.2.1.length) :
  mS t j (s++[a]++[b])=if gOk (aF k a b)=true then some (.inl (s++[aF k a b])) else some (.inr (noG,false)):=by
 have hm:bB=1099511627776:=rfl
 have hlen:(s++[a]++[b]).length=s.length+2:=by simp
 have e1:subO (((s++[a]++[b]).length:Nat):Int) 1=some ((s.length+1:Nat):Int):=by rw [hlen,wC (by omega) (by omega)];congr 1;omega
 have e2:subO ((s.length+1:Nat):Int) 1=some ((s.length:Nat):Int):=by rw [wC (by omega) (by omega)];congr 1;omega
 have i1:(s++[a]++[b])[s.length]?=some a:=by rw [List.append_assoc,List.getElem?_append_right (Nat.le_refl _),Nat.sub_self];rfl
 have i2:(s++[a]++[b])[s.length+1]?=some b:=by rw [List.append_assoc,List.getElem?_append_right (by omega),Nat.add_sub_cancel_left];rfl
 have sl:dB (s++[a]++[b]) 0 ((s.length:Nat):Int)=some s:=by
  unfold dB;rw [if_pos ⟨by omega,by omega,by rw [hlen];omega⟩,List.append_assoc]
  simp
 have hc:=Fv_ (k:=k) ga gb hl
 refine bnd (kA ht) (bnd e1 ?_)
 by_cases h15:k=15
 ·
  refine stp (cTW (dT h15) (bnd e2 (bnd (kA i1) (bnd (kA i2) (bnd (hc.1 h15).2 (bnd e2 (bnd sl (bnd (AS_ _) (stp ?_)))))))))
  cases hg:gOk (aF k a b) with
  | false=>rfl
  | true=>exact cFW rfl (bnd (iB (by simp;omega)) rfl)
 ·
  refine stp (cFW (dF h15) (stp (cTW (dT (by dsimp only;omega)) (bnd e2 (bnd (kA i1) (bnd (kA i2) (bnd (hc.2 h15).2 (bnd e2 (bnd sl (bnd (AS_ _) (stp ?_)))))))))))
  cases hg:gOk (aF k a b) with
  | false=>rfl
  | true=>exact cFW rfl (bnd (iB (by simp;omega)) rfl)
theorem tU {σ τ:Type}{f:Nat→σ→Option (σ⊕τ)}{n k:Nat}{s s':σ} (h:f k s=some (.inl s')):dC f (n+1) k s=dC f n (k+1) s':=by
 show (f k s).bind _=_
 rw [h];rfl
theorem C2_ {σ τ:Type}{f:Nat→σ→Option (σ⊕τ)}{n k:Nat}{s:σ}{r:τ} (h:f k s=some (.inr r)):dC f (n+1) k s=some (.inr r):=by
 show (f k s).bind _=_
 rw [h];rfl
theorem Ak_ {t:List Nod} (ht:t.length≤400):∀ {T:Tr}{w:Int×Int},xD T=some w→∀ (p q:List Nod) (r:List Gra),t=p++(flat T++q)→r.length≤p.length →
  dC (mS t) ((flat T).length+q.length) p.length r=if (made T).2=true then dC (mS t) q.length (p.length+(flat T).length) (r++[(made T).1]) else some (.inr (noG,false))
 | .leaf n,w,h,p,q,r,e,hr=>by
  obtain ⟨h1,rfl⟩:=fK h
  have hlt:p.length<t.length:=by rw [e];simp [flat]
  have hn:t[p.length]?=some n:=by rw [e,List.getElem?_append_right (Nat.le_refl _),Nat.sub_self];rfl
  rw [show (flat (.leaf n)).length+q.length=q.length+1 by simp [flat];omega,tU (HR_ hn h1 (by omega))]
  rfl
 | .node k a b,w,h,p,q,r,e,hr=>by
  obtain ⟨hk,x,y,h1,h2,h3⟩:=cJ h
  have hlen:(flat (.node k a b)).length=(flat a).length+(flat b).length+1:=by simp [flat];omega
  have htl:t.length=p.length+((flat a).length+(flat b).length+1+q.length):=by rw [e,List.length_append,List.length_append,hlen]
  have ea:t=p++(flat a++(flat b++([((k,(0:Int),ByteArray.empty):Nod)]++q))):=by rw [e];simp [flat]
  have eb:t=(p++flat a)++(flat b++([((k,(0:Int),ByteArray.empty):Nod)]++q)):=by rw [ea];simp
  have hpa:=vG a
  have la:=Ak_ ht h1 p (flat b++([((k,(0:Int),ByteArray.empty):Nod)]++q)) r ea hr
  rw [show (flat (.node k a b)).length+q.length=(flat a).length+(flat b++([((k,(0:Int),ByteArray.empty):Nod)]++q)).length by rw [hlen];simp;omega,la,made]
  cases ma:(made a).2 with
  | false=>simp
  | true=>
   rw [if_pos rfl]
   have lb:=Ak_ ht h2 (p++flat a) ([((k,(0:Int),ByteArray.empty):Nod)]++q) (r++[(made a).1]) eb (by simp;omega)
   rw [show (p++flat a).length=p.length+(flat a).length from List.length_append] at lb
   rw [show (flat b++([((k,(0:Int),ByteArray.empty):Nod)]++q)).length=(flat b).length+([((k,(0:Int),ByteArray.empty):Nod)]++q).length from List.length_append,lb]
   cases mb:(made b).2 with
   | false=>simp
   | true=>
    have e3:(if true=true∧true=true then ifG (aF k (made a).1 (made b).1) else (noG,false))=ifG (aF k (made a).1 (made b).1):=if_pos ⟨rfl,rfl⟩
    have e4:∀ {α:Type} (u v:α),(if true=true then u else v)=u:=fun u v=>if_pos rfl
    rw [e3,e4]
    obtain ⟨ga,la⟩:=uL h1 ma
    obtain ⟨gb,lb⟩:=uL h2 mb
    have hn:t[p.length+(flat a).length+(flat b).length]?=some (k,0,.empty):=by
     rw [show t=(p++flat a++flat b)++([((k,(0:Int),ByteArray.empty):Nod)]++q) by rw [ea];simp,List.getElem?_append_right (by simp;omega)]
     simp [Nat.add_assoc]
    have st:=HQ_ (s:=r) hn hk (by omega) ga gb (AB_ la lb h3).2
    rw [show ([((k,(0:Int),ByteArray.empty):Nod)]++q).length=q.length+1 by simp]
    by_cases hg:gOk (aF k (made a).1 (made b).1)=true
    ·
     rw [if_pos hg] at st
     have hi:ifG (aF k (made a).1 (made b).1)=(aF k (made a).1 (made b).1,true):=if_pos hg
     rw [tU st]
     simp only [hi,and_self,if_true]
     rw [hlen,show p.length+((flat a).length+(flat b).length+1)=p.length+(flat a).length+(flat b).length+1 by omega]
    ·
     rw [if_neg hg] at st
     have hi:ifG (aF k (made a).1 (made b).1)=(noG,false):=if_neg hg
     rw [C2_ st]
     simp [hi]
theorem Je_ {T:Tr}{w:Int×Int} (h:xD T=some w) (hl:(flat T).length≤400):kQ (flat T)=some (made T):=by
 have loop:=Ak_ hl h [] [] [] (by simp) (by simp)
 rw [List.length_nil,Nat.add_zero,Nat.zero_add,List.nil_append] at loop
 have e:kQ (flat T)=uB (dC (mS (flat T)) (flat T).length 0 []) fun s590=>(idxO s590 0).bind fun a599=>some ((a599.1,a599.2.1,a599.2.2.1,a599.2.2.2),true):=rfl
 rw [e,loop]
 cases hm:(made T).2 with
 | false=>
  have:made T=(noG,false):=by
   cases T with
   | leaf n=>cases hm
   | node k a b=>
    rw [made] at hm ⊢
    split
    ·
     rename_i hab
     rw [if_pos hab] at hm
     unfold ifG at hm ⊢
     split at hm
     · cases hm
     · rw [if_neg ‹_›]
    · rfl
  rw [if_neg (by simp),this];rfl
 | true=>
  rw [if_pos rfl]
  refine congrArg some (Prod.ext rfl hm.symm)
open Classical in
noncomputable def wGraphOf (t:List Nod):Gra×Bool:=if h:fD t=true then made (Classical.choose (fO h)) else (noG,false)
theorem CG_ {t:List Nod} (h:fD t=true):∃ T w,t=flat T∧xD T=some w∧t.length≤400∧wGraphOf t=made T:=by
 obtain ⟨w,h1,h2,h3⟩:=Classical.choose_spec (fO h)
 exact ⟨_,w,h1,h2,h3,by unfold wGraphOf;rw [dif_pos h]⟩
end Go.Proofs.YtemcakhocdchiaaGreatDoor
namespace Go.Proofs.YtemcakhocdchiaaGreatDoor
def selR (ends:List Nat) (v:List Int):List Int:=ends.map fun q=>el v q
theorem dP {ends:List Nat}{v:List Int}{j:Nat} (h:j<ends.length):el (selR ends v) j=el v (ends.getD j 0):=by
 unfold selR el
 rw [List.getD_eq_getElem?_getD,List.getElem?_map,List.getElem?_eq_getElem h,List.getD_eq_getElem?_getD (l:=ends),List.getElem?_eq_getElem h]
 rfl
theorem zW {f:List Int→List Int}{m:Rows}{i:Nat} (h:i<m.length):gr (m.map f) i=f (gr m i):=by
 unfold gr
 rw [List.getD_eq_getElem?_getD,List.getD_eq_getElem?_getD,List.getElem?_map,List.getElem?_eq_getElem h];rfl
theorem AK_ {p:Int}{W:Nat}{V:Rows}{ends:List Nat} (hlt:∀ q∈ends,q<W){x y:List Int} (hx:gE p W V x) (hy:∀ j,j<ends.length→el y j % p=el x (ends.getD j 0) % p):gE p ends.length (V.map (selR ends)) y:=by
 obtain ⟨c,hc⟩:=hx
 refine ⟨c,fun j hj=>?_⟩
 have hm:ends.getD j 0<W:=by
  rw [List.getD_eq_getElem?_getD,List.getElem?_eq_getElem hj]
  exact hlt _ (List.getElem_mem hj)
 rw [hy j hj,hc _ hm,List.length_map]
 congr 1
 exact oD fun i hi=>by rw [zW hi,dP hj]
theorem vW {p:Int}{W:Nat}{V:Rows}{ends:List Nat} (hlt:∀ q∈ends,q<W) (h:okM p W V):okM p ends.length (V.map (selR ends)):=by
 intro r hr
 obtain ⟨v,hv,rfl⟩:=List.mem_map.1 hr
 obtain ⟨h1,h2⟩:=h v hv
 refine ⟨by simp [selR],fun x hx=>?_⟩
 obtain ⟨q,hq,rfl⟩:=List.mem_map.1 hx
 exact h2 _ (sH (by rw [h1];exact hlt q hq))
theorem Bk_ {p:Int}{W:Nat}{eqs G:Rows}{ends:List Nat} (hf:fdB p=true) (hlt:∀ q∈ends,q<W) (he:okM p W eqs) (hG:okM p ends.length G)
  (f1:∀ v:List Int,vH p W eqs v→gE p ends.length G (selR ends v))
  (f2:∀ i,i<G.length→∃ x,vH p W eqs x∧∀ j,j<ends.length→el (gr G i) j % p=el x (ends.getD j 0) % p) :
  cC p ends.length ((oG p W eqs).map (selR ends))=cC p ends.length G:=by
 have hN:=AN_ (n:=W) (m:=eqs) hf
 refine CJ_ hf (vW hlt hN.ok) hG (fun i hi=>?_) (fun i hi=>?_)
 ·
  rw [List.length_map] at hi
  rw [zW hi]
  exact f1 _ ((lV hf he _).1 (vF hi))
 ·
  obtain ⟨x,h1,h2⟩:=f2 i hi
  exact AK_ hlt ((lV hf he x).2 h1) h2
def rX (p k v:Int):Rows:=
 if k=3 then [[p-1,1,0],[p-1,0,1]] else if k=5 then [[p-1,p-1,1]] else if k=6 then [[1]] else if k=7 then [[(p-v) % p,1]] else
 if k=9 then [[1,0,p-1],[0,1,p-1]] else if k=11 then [[1,p-1,p-1]] else if k=12 then [[1]] else if k=13 then [[1,(p-v) % p]] else []
def vL (k v:Int):Rows:=
 if k=3 then [[1,1,1]] else if k=4 then [[1]] else if k=5 then [[1,0,1],[0,1,1]] else if k=7 then [[1,v]] else
 if k=9 then [[1,1,1]] else if k=10 then [[1]] else if k=11 then [[1,1,0],[1,0,1]] else if k=13 then [[v,1]] else []
theorem Fy_ {p v:Int} (hp:2≤p∧p≤97) (hv:0≤v∧v<p):kU p 0 v=some v:=by
 refine bnd (aB (by omega) (by omega)) (bnd (wG (by omega)) ?_)
 rw [Int.tmod_eq_emod_of_nonneg (by omega),Int.zero_add,Int.emod_eq_of_lt hv.1 hv.2]
theorem FD_ {p:Int} (hp:2≤p∧p≤97){v w:Int} (hv:0≤v∧v<p) (hw:0≤w∧w<p) :
  tE p 1 [0] [v]=some [v]∧tE p 2 [1,0] [v,w]=some [w,v]∧tE p 2 [0,1] [v,w]=some [v,w] ∧
  tE p 3 [1,0] [v,w]=some [w,v,0]∧tE p 3 [2,0] [v,w]=some [w,0,v]∧tE p 3 [0,2] [v,w]=some [v,0,w]∧tE p 3 [1,2] [v,w]=some [0,v,w] ∧
  tE p 3 [2,0,1] [v,w,w]=some [w,w,v]∧tE p 3 [0,1,2] [v,w,w]=some [v,w,w]:=by
 have a1:=Fy_ hp hv
 have a2:=Fy_ hp hw
 have m1:aD (1:Int) (0:Int)=some [0]:=rfl
 have m2:aD (2:Int) (0:Int)=some [0,0]:=rfl
 have m3:aD (3:Int) (0:Int)=some [0,0,0]:=rfl
 refine ⟨?_,?_,?_,?_,?_,?_,?_,?_,?_⟩ <;> simp [tE,m1,m2,m3,forS,idxO,setO,a1,a2]
theorem hgSel_ {ends:List Nat}{v:List Int}{W:Nat} (hv:v.length=W) (hlt:∀ q∈ends,q<W) (hl:ends.length≤1000):wJ (ends.map fun q:Nat=>(q:Int)) v=some (selR ends v):=by
 have hm:bB=1099511627776:=rfl
 have loop:=eE (f:=fun (k3:Nat) (s58:List Int)=>
   (idxO (ends.map fun q:Nat=>(q:Int)) ((k3:Nat):Int)).bind fun a75=>
   (idxO v a75).bind fun a83=>
   (nA s58 [a83]).bind fun a88=>
   some a88) (fun a:Int=>el v a.toNat) (ends.map fun q:Nat=>(q:Int)) [] (by simp;omega) (fun j a s hj hs=>by
  have hjl:=(List.getElem?_eq_some_iff.1 hj).1
  rw [List.length_map] at hjl
  rw [List.getElem?_map,List.getElem?_eq_getElem hjl] at hj
  obtain rfl:=Option.some.inj hj
  have hq:=hlt _ (List.getElem_mem hjl)
  refine bnd (kA (by rw [List.getElem?_map,List.getElem?_eq_getElem hjl];rfl)) (bnd (oE (by omega)) (bnd (iB (by simp at hs ⊢;omega)) ?_))
  rw [Int.toNat_natCast])
 refine bnd loop (congrArg some ?_)
 rw [List.nil_append,List.map_map]
 unfold selR
 exact List.map_congr_left fun q _=>by show el v ((q:Int)).toNat=_;rw [Int.toNat_natCast]
theorem vU (k:Int):fL k=some (decide (k≠8∧k≠14)):=by
 unfold fL
 by_cases h1:k=8
 · simp [h1]
 · by_cases h2:k=14 <;> simp [h1,h2]
theorem asked_ {p:Int}{g:Gra} (hf:fdB p=true) (hg:gOk g=true) (he:∀ e∈g.2.1,e.2.1<p∧e.1≠8∧e.1≠14):jQ p g=some true:=by
 have h1:yT p g=some true:=by
  refine bnd (a:=false) (bnd (cX p) (stp (by rw [hf];exact cFW rfl (bnd (AU_ g) (stp (by rw [hg];rfl)))))) (cFW rfl (sqW (uG (fun e:Edg=>decide (¬p≤e.2.1)) g.2.1 0 (t:=false) (fun j e hj=>?_)) ?_))
  ·
   rw [Nat.zero_add]
   have:=(he e (oC hj)).1
   refine bnd (kA hj) (stp (cFW (dF (by omega)) ?_))
   rw [show decide (¬p≤e.2.1)=true from dT (by omega)];rfl
  · rw [List.all_eq_true.2 fun e h=>dT (by have:=(he e h).1;omega)];rfl
 refine bnd h1 (stp (cFW rfl (sqW (uG (fun e:Edg=>decide (e.1≠8∧e.1≠14)) g.2.1 0 (t:=false) (fun j e hj=>?_)) ?_)))
 ·
  rw [Nat.zero_add]
  have:=(he e (oC hj)).2
  refine bnd (kA hj) (bnd (vU e.1) (stp ?_))
  rw [dT this];rfl
 · rw [List.all_eq_true.2 fun e h=>dT (he e h).2];rfl
theorem A1_ {p:Int}{W a b:Nat}{E:List Edg}{I O:List Int}{ends:List Nat}{eqs:Rows} (hf:fdB p=true) (hg:gOk ((W:Int),E,I,O)=true) (he:∀ e∈E,e.2.1<p∧e.1≠8∧e.1≠14)
  (hI:I.length=a) (hO:O.length=b) (hends:I++O=ends.map fun q:Nat=>(q:Int)) (hlt:∀ q∈ends,q<W) (hq:okM p W eqs) (hql:eqs.length≤1000)
  (hrows:forS (fun (k7:Nat) (s70:List (List Int))=>
   (idxO E ((k7:Nat):Int)).bind fun a87=>
   (kL p (W:Int) (a87.1,a87.2.1,a87.2.2.1,a87.2.2.2)).bind fun y99=>
   (nA s70 y99).bind fun a104=>
   some a104) E.length 0 []=some eqs):dZ p ((W:Int),E,I,O)=some (((a:Int),(b:Int),cC p (a+b) ((oG p W eqs).map (selR ends))),true):=by
 have hm:bB=1099511627776:=rfl
 obtain ⟨n,hgk⟩:=Az_ hg
 have hW:W≤100:=by have:=hgk.w;have:=hgk.n100;dsimp only at *;omega
 have hi12:=hgk.i12;have ho12:=hgk.o12
 dsimp only at hi12 ho12
 have hel:ends.length=a+b:=by
  have:=congrArg List.length hends
  rw [List.length_append,List.length_map] at this;omega
 have hN:=AN_ (n:=W) (m:=eqs) hf
 have hNl:=sO hf hN
 have hV:uY p ((W:Int),E,I,O)=some (oG p W eqs):=bnd hrows (bnd (Ey_ hf (by omega) hq (by omega)) rfl)
 have hsel:=eE (f:=fun (k32:Nat) (s111:List (List Int))=>
    (idxO (oG p W eqs) ((k32:Nat):Int)).bind fun a128=>
    (wJ (I++O) a128).bind fun y132=>
    (nA s111 [y132]).bind fun a140=>
    some a140) (selR ends) (oG p W eqs) [] (by simp;omega) (fun j v s hj hs=>by
  have hv:=(hN.ok v (oC hj)).1
  have hjl:=(List.getElem?_eq_some_iff.1 hj).1
  have:=hgSel_ hv hlt (by omega)
  rw [←hends] at this
  exact bnd (kA hj) (bnd this (bnd (iB (by simp at hs ⊢;omega)) rfl)))
 have hok:=vW hlt hN.ok
 rw [hel] at hok
 have hred:=bR hf (Nat.le_refl (a+b)) (by omega) hok (by simp;omega)
 refine bnd (asked_ hf hg he) (stp (cFW rfl (bnd (own_ (by dsimp only;omega)) (bnd (iB (by dsimp only;omega)) (bnd hV (bnd hsel ?_))))))
 refine bnd (a:=((a:Int),(b:Int),cC p (a+b) ((oG p W eqs).map (selR ends)))) ?_ rfl
 dsimp only
 rw [hI,hO]
 refine bnd (a:=((a+b:Nat):Int)) (by rw [aB (by omega) (by omega)];congr 1) (bnd ?_ rfl)
 exact hred
end Go.Proofs.YtemcakhocdchiaaGreatDoor
namespace Go.Proofs.YtemcakhocdchiaaGreatDoor
theorem sg1 (f:Nat→Int):sg 1 f=f 0:=by simp [sg]
theorem sg2 (f:Nat→Int):sg 2 f=f 0+f 1:=by simp [sg]
theorem sg3 (f:Nat→Int):sg 3 f=f 0+f 1+f 2:=by simp [sg]
theorem cgr {p c d x y:Int} (h:(c+d) % p=0):(c*x+y) % p=0↔y % p=(d*x) % p:=by
 have e:c*x+y=(c+d)*x+(y-d*x):=by rw [Int.add_mul];omega
 rw [e,Int.add_emod,Int.mul_emod,h,Int.zero_mul,Int.zero_emod,Int.zero_add,Int.emod_emod_of_dvd _ (Int.dvd_refl p)]
 exact (Int.emod_eq_emod_iff_emod_sub_eq_zero).symm
theorem cg1 {p:Int}:(p-1+1) % p=0:=by rw [Int.sub_add_cancel,Int.emod_self]
theorem cgv {p v:Int}:((p-v) % p+v) % p=0:=by rw [Eo_,Int.sub_add_cancel,Int.emod_self]
structure Mate (p:Int) (N:Nat) (E G:Rows):Prop where
 e:okM p N E
 el:E.length≤1000
 g:okM p N G
 gl:G.length≤1000
 f1:∀ v:List Int,vH p N E v→∃ c:Nat→Int,∀ j,j<N→Go.Proofs.YtemcakhocdchiaaGreatDoor.el v j % p=sg G.length (fun i=>c i*Go.Proofs.YtemcakhocdchiaaGreatDoor.el (gr G i) j) % p
 f2:∀ i,i<G.length→vH p N E (gr G i)
theorem Mate.red {p:Int}{N:Nat}{E G:Rows} (hf:fdB p=true) (h:Mate p N E G):cC p N ((oG p N E).map (selR (List.range N)))=cC p N G:=by
 have:=Bk_ (p:=p) (W:=N) (eqs:=E) (G:=G) (ends:=List.range N) hf (fun q hq=>List.mem_range.1 hq) h.e (by rw [List.length_range];exact h.g) (fun v hv=>?_) (fun i hi=>⟨gr G i,h.f2 i hi,fun j hj=>?_⟩)
 · rwa [List.length_range] at this
 ·
  obtain ⟨c,hc⟩:=h.f1 v hv
  rw [List.length_range]
  refine ⟨c,fun j hj=>?_⟩
  rw [dP (by rw [List.length_range];exact hj),← hc j hj]
  congr 2
  rw [List.getD_eq_getElem?_getD,List.getElem?_range hj];rfl
 ·
  rw [List.length_range] at hj
  congr 2
  rw [List.getD_eq_getElem?_getD,List.getElem?_range hj];rfl
theorem xE {p:Int}{n:Nat}{r:List Int} (h:r.length=n) (h2:inP p r):okM p n [r]:=fun x hx=>by
 rw [List.mem_singleton.1 hx];exact ⟨h,h2⟩
theorem okM2 {p:Int}{n:Nat}{r s:List Int} (h:okM p n [r]) (h2:okM p n [s]):okM p n [r,s]:=fun x hx=>by
 rcases List.mem_cons.1 hx with rfl | hx
 · exact h x (by simp)
 · exact h2 x hx
theorem j1 {P:Nat→Prop} (h0:P 0):∀ j,j<1→P j:=fun j hj=>by
 obtain rfl:j=0:=by omega
 exact h0
theorem j2 {P:Nat→Prop} (h0:P 0) (h1:P 1):∀ j,j<2→P j:=fun j hj=>by
 match j,hj with
 | 0,_=>exact h0
 | 1,_=>exact h1
theorem j3 {P:Nat→Prop} (h0:P 0) (h1:P 1) (h2:P 2):∀ j,j<3→P j:=fun j hj=>by
 match j,hj with
 | 0,_=>exact h0
 | 1,_=>exact h1
 | 2,_=>exact h2
theorem zE {p a:Int} (h:0≤a∧a<p):inP p [a]:=fun x hx=>by rw [List.mem_singleton.1 hx];exact h
theorem uC {p a:Int}{l:List Int} (h:0≤a∧a<p) (hl:inP p l):inP p (a::l):=fun x hx=>by
 rcases List.mem_cons.1 hx with rfl | hx
 · exact h
 · exact hl x hx
section
variable {p v:Int} (hp:2≤p∧p≤97) (hv:0≤v∧v<p)
include hp
theorem mate3:Mate p 3 [[p-1,1,0],[p-1,0,1]] [[1,1,1]]:=by
 have b0:(0:Int)≤0∧(0:Int)<p:=⟨by omega,by omega⟩
 have b1:(0:Int)≤1∧(1:Int)<p:=⟨by omega,by omega⟩
 have bp:(0:Int)≤p-1∧p-1<p:=⟨by omega,by omega⟩
 refine ⟨okM2 (xE rfl (uC bp (uC b1 (zE b0)))) (xE rfl (uC bp (uC b0 (zE b1)))),by simp,xE rfl (uC b1 (uC b1 (zE b1))),by simp,fun x hx=>⟨fun _=>el x 0,?_⟩,j1 (j2 ?_ ?_)⟩
 ·
  have h0:((p-1)*el x 0+el x 1) % p=0:=by
   have:=hx 0 (by simp)
   rw [sg3] at this
   have h:((p-1)*el x 0+1*el x 1+0*el x 2) % p=0:=this
   rwa [Int.one_mul,Int.zero_mul,Int.add_zero] at h
  have h1:((p-1)*el x 0+el x 2) % p=0:=by
   have:=hx 1 (by simp)
   rw [sg3] at this
   have h:((p-1)*el x 0+0*el x 1+1*el x 2) % p=0:=this
   rwa [Int.one_mul,Int.zero_mul,Int.add_zero] at h
  have k0:=(cgr cg1).1 h0
  have k1:=(cgr cg1).1 h1
  rw [Int.one_mul] at k0 k1
  refine j3 ?_ ?_ ?_
  ·
   show _=sg 1 _ % p
   rw [sg1]
   show el x 0 % p=(el x 0*1) % p
   rw [Int.mul_one]
  ·
   show _=sg 1 _ % p
   rw [sg1]
   show el x 1 % p=(el x 0*1) % p
   rw [Int.mul_one,k0]
  ·
   show _=sg 1 _ % p
   rw [sg1]
   show el x 2 % p=(el x 0*1) % p
   rw [Int.mul_one,k1]
 ·
  rw [sg3]
  show ((p-1)*1+1*1+0*1) % p=0
  rw [show ((p-1)*1+1*1+0*1:Int)=p by omega,Int.emod_self]
 ·
  rw [sg3]
  show ((p-1)*1+0*1+1*1) % p=0
  rw [show ((p-1)*1+0*1+1*1:Int)=p by omega,Int.emod_self]
theorem mate4:Mate p 1 ([]:Rows) ([[1]]:Rows):=by
 have b0:(0:Int)≤0∧(0:Int)<p:=⟨by omega,by omega⟩
 have b1:(0:Int)≤1∧(1:Int)<p:=⟨by omega,by omega⟩
 have bp:(0:Int)≤p-1∧p-1<p:=⟨by omega,by omega⟩
 refine ⟨(fun x hx=>by cases hx),by simp,(xE rfl (zE b1)),by simp,fun x hx=>⟨fun _=>el x 0,?_⟩,?_⟩
 ·
  refine j1 ?_
  ·
   show _=sg 1 _ % p
   rw [sg1]
   show el x 0 % p=(el x 0*1) % p
   first | (simp;done) | (simp only [Int.mul_one,Int.mul_zero,Int.add_zero,Int.zero_add];assumption)
 · intro i hi k hk;simp at hk
theorem mate6:Mate p 1 ([[1]]:Rows) ([]:Rows):=by
 have b0:(0:Int)≤0∧(0:Int)<p:=⟨by omega,by omega⟩
 have b1:(0:Int)≤1∧(1:Int)<p:=⟨by omega,by omega⟩
 have bp:(0:Int)≤p-1∧p-1<p:=⟨by omega,by omega⟩
 refine ⟨(xE rfl (zE b1)),by simp,(fun x hx=>by cases hx),by simp,fun x hx=>⟨fun _=>0,?_⟩,?_⟩
 ·
  have q0:(1*el x 0) % p=0:=by
   have:=hx 0 (by simp)
   rw [sg1] at this
   exact this
  have k0:el x 0 % p=0:=by rwa [Int.one_mul] at q0
  refine j1 ?_
  ·
   show el x 0 % p=(0:Int) % p
   rw [k0,Int.zero_emod]
 · intro i hi;simp at hi
theorem mate5:Mate p 3 ([[p-1,p-1,1]]:Rows) ([[1,0,1],[0,1,1]]:Rows):=by
 have b0:(0:Int)≤0∧(0:Int)<p:=⟨by omega,by omega⟩
 have b1:(0:Int)≤1∧(1:Int)<p:=⟨by omega,by omega⟩
 have bp:(0:Int)≤p-1∧p-1<p:=⟨by omega,by omega⟩
 refine ⟨(xE rfl (uC bp (uC bp (zE b1)))),by simp,(okM2 (xE rfl (uC b1 (uC b0 (zE b1)))) (xE rfl (uC b0 (uC b1 (zE b1))))),by simp,fun x hx=>⟨fun i=>el x i,?_⟩,?_⟩
 ·
  have q0:((p-1)*el x 0+(p-1)*el x 1+1*el x 2) % p=0:=by
   have:=hx 0 (by simp)
   rw [sg3] at this
   exact this
  have k0:el x 2 % p=(el x 0+el x 1) % p:=by
   have:=(cgr (x:=el x 0+el x 1) (y:=el x 2) cg1).1 (by rw [←q0];congr 1;rw [Int.mul_add];omega)
   rwa [Int.one_mul] at this
  refine j3 ?_ ?_ ?_
  ·
   show _=sg 2 _ % p
   rw [sg2]
   show el x 0 % p=(el x 0*1+el x 1*0) % p
   first | (simp;done) | (simp only [Int.mul_one,Int.mul_zero,Int.add_zero,Int.zero_add];assumption)
  ·
   show _=sg 2 _ % p
   rw [sg2]
   show el x 1 % p=(el x 0*0+el x 1*1) % p
   first | (simp;done) | (simp only [Int.mul_one,Int.mul_zero,Int.add_zero,Int.zero_add];assumption)
  ·
   show _=sg 2 _ % p
   rw [sg2]
   show el x 2 % p=(el x 0*1+el x 1*1) % p
   first | (simp;done) | (simp only [Int.mul_one,Int.mul_zero,Int.add_zero,Int.zero_add];assumption)
 ·
  refine j2 ?_ ?_
  ·
   refine j1 ?_
   ·
    rw [sg3]
    show ((p-1)*1+(p-1)*0+1*1) % p=0
    first | (rw [show ((p-1)*1+(p-1)*0+1*1:Int)=p by omega,Int.emod_self]) | (rw [show ((p-1)*0+(p-1)*1+1*1:Int)=p by omega,Int.emod_self]) | (rw [show (1*1+0*1+(p-1)*1:Int)=p by omega,Int.emod_self]) | (rw [show (0*1+1*1+(p-1)*1:Int)=p by omega,Int.emod_self]) | (rw [show (1*1+(p-1)*1+(p-1)*0:Int)=p by omega,Int.emod_self]) | (rw [show (1*1+(p-1)*0+(p-1)*1:Int)=p by omega,Int.emod_self])
  ·
   refine j1 ?_
   ·
    rw [sg3]
    show ((p-1)*0+(p-1)*1+1*1) % p=0
    first | (rw [show ((p-1)*1+(p-1)*0+1*1:Int)=p by omega,Int.emod_self]) | (rw [show ((p-1)*0+(p-1)*1+1*1:Int)=p by omega,Int.emod_self]) | (rw [show (1*1+0*1+(p-1)*1:Int)=p by omega,Int.emod_self]) | (rw [show (0*1+1*1+(p-1)*1:Int)=p by omega,Int.emod_self]) | (rw [show (1*1+(p-1)*1+(p-1)*0:Int)=p by omega,Int.emod_self]) | (rw [show (1*1+(p-1)*0+(p-1)*1:Int)=p by omega,Int.emod_self])
theorem mate9:Mate p 3 ([[1,0,p-1],[0,1,p-1]]:Rows) ([[1,1,1]]:Rows):=by
 have b0:(0:Int)≤0∧(0:Int)<p:=⟨by omega,by omega⟩
 have b1:(0:Int)≤1∧(1:Int)<p:=⟨by omega,by omega⟩
 have bp:(0:Int)≤p-1∧p-1<p:=⟨by omega,by omega⟩
 refine ⟨(okM2 (xE rfl (uC b1 (uC b0 (zE bp)))) (xE rfl (uC b0 (uC b1 (zE bp))))),by simp,(xE rfl (uC b1 (uC b1 (zE b1)))),by simp,fun x hx=>⟨fun _=>el x 2,?_⟩,?_⟩
 ·
  have q0:(1*el x 0+0*el x 1+(p-1)*el x 2) % p=0:=by
   have:=hx 0 (by simp)
   rw [sg3] at this
   exact this
  have q1:(0*el x 0+1*el x 1+(p-1)*el x 2) % p=0:=by
   have:=hx 1 (by simp)
   rw [sg3] at this
   exact this
  have k0:el x 0 % p=el x 2 % p:=by
   have:=(cgr (x:=el x 2) (y:=el x 0) cg1).1 (by rw [←q0];congr 1;omega)
   rwa [Int.one_mul] at this
  have k1:el x 1 % p=el x 2 % p:=by
   have:=(cgr (x:=el x 2) (y:=el x 1) cg1).1 (by rw [←q1];congr 1;omega)
   rwa [Int.one_mul] at this
  refine j3 ?_ ?_ ?_
  ·
   show _=sg 1 _ % p
   rw [sg1]
   show el x 0 % p=(el x 2*1) % p
   first | (simp;done) | (simp only [Int.mul_one,Int.mul_zero,Int.add_zero,Int.zero_add];assumption)
  ·
   show _=sg 1 _ % p
   rw [sg1]
   show el x 1 % p=(el x 2*1) % p
   first | (simp;done) | (simp only [Int.mul_one,Int.mul_zero,Int.add_zero,Int.zero_add];assumption)
  ·
   show _=sg 1 _ % p
   rw [sg1]
   show el x 2 % p=(el x 2*1) % p
   first | (simp;done) | (simp only [Int.mul_one,Int.mul_zero,Int.add_zero,Int.zero_add];assumption)
 ·
  refine j1 ?_
  ·
   refine j2 ?_ ?_
   ·
    rw [sg3]
    show (1*1+0*1+(p-1)*1) % p=0
    first | (rw [show ((p-1)*1+(p-1)*0+1*1:Int)=p by omega,Int.emod_self]) | (rw [show ((p-1)*0+(p-1)*1+1*1:Int)=p by omega,Int.emod_self]) | (rw [show (1*1+0*1+(p-1)*1:Int)=p by omega,Int.emod_self]) | (rw [show (0*1+1*1+(p-1)*1:Int)=p by omega,Int.emod_self]) | (rw [show (1*1+(p-1)*1+(p-1)*0:Int)=p by omega,Int.emod_self]) | (rw [show (1*1+(p-1)*0+(p-1)*1:Int)=p by omega,Int.emod_self])
   ·
    rw [sg3]
    show (0*1+1*1+(p-1)*1) % p=0
    first | (rw [show ((p-1)*1+(p-1)*0+1*1:Int)=p by omega,Int.emod_self]) | (rw [show ((p-1)*0+(p-1)*1+1*1:Int)=p by omega,Int.emod_self]) | (rw [show (1*1+0*1+(p-1)*1:Int)=p by omega,Int.emod_self]) | (rw [show (0*1+1*1+(p-1)*1:Int)=p by omega,Int.emod_self]) | (rw [show (1*1+(p-1)*1+(p-1)*0:Int)=p by omega,Int.emod_self]) | (rw [show (1*1+(p-1)*0+(p-1)*1:Int)=p by omega,Int.emod_self])
theorem mate11:Mate p 3 ([[1,p-1,p-1]]:Rows) ([[1,1,0],[1,0,1]]:Rows):=by
 have b0:(0:Int)≤0∧(0:Int)<p:=⟨by omega,by omega⟩
 have b1:(0:Int)≤1∧(1:Int)<p:=⟨by omega,by omega⟩
 have bp:(0:Int)≤p-1∧p-1<p:=⟨by omega,by omega⟩
 refine ⟨(xE rfl (uC b1 (uC bp (zE bp)))),by simp,(okM2 (xE rfl (uC b1 (uC b1 (zE b0)))) (xE rfl (uC b1 (uC b0 (zE b1))))),by simp,fun x hx=>⟨fun i=>el x (i+1),?_⟩,?_⟩
 ·
  have q0:(1*el x 0+(p-1)*el x 1+(p-1)*el x 2) % p=0:=by
   have:=hx 0 (by simp)
   rw [sg3] at this
   exact this
  have k0:el x 0 % p=(el x 1+el x 2) % p:=by
   have:=(cgr (x:=el x 1+el x 2) (y:=el x 0) cg1).1 (by rw [←q0];congr 1;rw [Int.mul_add];omega)
   rwa [Int.one_mul] at this
  refine j3 ?_ ?_ ?_
  ·
   show _=sg 2 _ % p
   rw [sg2]
   show el x 0 % p=(el x 1*1+el x 2*1) % p
   first | (simp;done) | (simp only [Int.mul_one,Int.mul_zero,Int.add_zero,Int.zero_add];assumption)
  ·
   show _=sg 2 _ % p
   rw [sg2]
   show el x 1 % p=(el x 1*1+el x 2*0) % p
   first | (simp;done) | (simp only [Int.mul_one,Int.mul_zero,Int.add_zero,Int.zero_add];assumption)
  ·
   show _=sg 2 _ % p
   rw [sg2]
   show el x 2 % p=(el x 1*0+el x 2*1) % p
   first | (simp;done) | (simp only [Int.mul_one,Int.mul_zero,Int.add_zero,Int.zero_add];assumption)
 ·
  refine j2 ?_ ?_
  ·
   refine j1 ?_
   ·
    rw [sg3]
    show (1*1+(p-1)*1+(p-1)*0) % p=0
    first | (rw [show ((p-1)*1+(p-1)*0+1*1:Int)=p by omega,Int.emod_self]) | (rw [show ((p-1)*0+(p-1)*1+1*1:Int)=p by omega,Int.emod_self]) | (rw [show (1*1+0*1+(p-1)*1:Int)=p by omega,Int.emod_self]) | (rw [show (0*1+1*1+(p-1)*1:Int)=p by omega,Int.emod_self]) | (rw [show (1*1+(p-1)*1+(p-1)*0:Int)=p by omega,Int.emod_self]) | (rw [show (1*1+(p-1)*0+(p-1)*1:Int)=p by omega,Int.emod_self])
  ·
   refine j1 ?_
   ·
    rw [sg3]
    show (1*1+(p-1)*0+(p-1)*1) % p=0
    first | (rw [show ((p-1)*1+(p-1)*0+1*1:Int)=p by omega,Int.emod_self]) | (rw [show ((p-1)*0+(p-1)*1+1*1:Int)=p by omega,Int.emod_self]) | (rw [show (1*1+0*1+(p-1)*1:Int)=p by omega,Int.emod_self]) | (rw [show (0*1+1*1+(p-1)*1:Int)=p by omega,Int.emod_self]) | (rw [show (1*1+(p-1)*1+(p-1)*0:Int)=p by omega,Int.emod_self]) | (rw [show (1*1+(p-1)*0+(p-1)*1:Int)=p by omega,Int.emod_self])
include hv
theorem mate7:Mate p 2 ([[(p-v) % p,1]]:Rows) ([[1,v]]:Rows):=by
 have b0:(0:Int)≤0∧(0:Int)<p:=⟨by omega,by omega⟩
 have b1:(0:Int)≤1∧(1:Int)<p:=⟨by omega,by omega⟩
 have bp:(0:Int)≤p-1∧p-1<p:=⟨by omega,by omega⟩
 have bv:(0:Int)≤(p-v) % p∧(p-v) % p<p:=fJ hp.1
 refine ⟨(xE rfl (uC bv (zE b1))),by simp,(xE rfl (uC b1 (zE hv))),by simp,fun x hx=>⟨fun _=>el x 0,?_⟩,?_⟩
 ·
  have q0:(((p-v) % p)*el x 0+1*el x 1) % p=0:=by
   have:=hx 0 (by simp)
   rw [sg2] at this
   exact this
  have k0:el x 1 % p=(el x 0*v) % p:=by
   have:=(cgr (x:=el x 0) (y:=el x 1) (cgv (v:=v))).1 (by rw [←q0];congr 1;omega)
   rwa [Int.mul_comm] at this
  refine j2 ?_ ?_
  ·
   show _=sg 1 _ % p
   rw [sg1]
   show el x 0 % p=(el x 0*1) % p
   first | (simp;done) | (simp only [Int.mul_one,Int.mul_zero,Int.add_zero,Int.zero_add];assumption)
  ·
   show _=sg 1 _ % p
   rw [sg1]
   show el x 1 % p=(el x 0*v) % p
   exact k0
 ·
  refine j1 ?_
  ·
   refine j1 ?_
   ·
    rw [sg2]
    show (((p-v) % p)*1+1*v) % p=0
    rw [Int.mul_one,Int.one_mul];exact cgv
theorem mate13:Mate p 2 ([[1,(p-v) % p]]:Rows) ([[v,1]]:Rows):=by
 have b0:(0:Int)≤0∧(0:Int)<p:=⟨by omega,by omega⟩
 have b1:(0:Int)≤1∧(1:Int)<p:=⟨by omega,by omega⟩
 have bp:(0:Int)≤p-1∧p-1<p:=⟨by omega,by omega⟩
 have bv:(0:Int)≤(p-v) % p∧(p-v) % p<p:=fJ hp.1
 refine ⟨(xE rfl (uC b1 (zE bv))),by simp,(xE rfl (uC hv (zE b1))),by simp,fun x hx=>⟨fun _=>el x 1,?_⟩,?_⟩
 ·
  have q0:(1*el x 0+((p-v) % p)*el x 1) % p=0:=by
   have:=hx 0 (by simp)
   rw [sg2] at this
   exact this
  have k0:el x 0 % p=(el x 1*v) % p:=by
   have:=(cgr (x:=el x 1) (y:=el x 0) (cgv (v:=v))).1 (by rw [←q0];congr 1;omega)
   rwa [Int.mul_comm] at this
  refine j2 ?_ ?_
  ·
   show _=sg 1 _ % p
   rw [sg1]
   show el x 0 % p=(el x 1*v) % p
   exact k0
  ·
   show _=sg 1 _ % p
   rw [sg1]
   show el x 1 % p=(el x 1*1) % p
   first | (simp;done) | (simp only [Int.mul_one,Int.mul_zero,Int.add_zero,Int.zero_add];assumption)
 ·
  refine j1 ?_
  ·
   refine j1 ?_
   ·
    rw [sg2]
    show (1*v+((p-v) % p)*1) % p=0
    rw [Int.mul_one,Int.one_mul,Int.add_comm];exact cgv
end
theorem nV {p k v:Int} (hp:2≤p∧p≤97) (hk:rng k 3 14=true) (h8:k≠8) (h14:k≠14) (hv:0≤v∧v<p):Mate p ((kd k).1.toNat+(kd k).2.toNat) (rX p k v) (vL k v):=by
 have:=rng_true.1 hk
 have hc:k=3∨k=4∨k=5∨k=6∨k=7∨k=9∨k=10∨k=11∨k=12∨k=13:=by omega
 rcases hc with rfl | rfl | rfl | rfl | rfl | rfl | rfl | rfl | rfl | rfl
 · exact mate3 hp
 · exact mate4 hp
 · exact mate5 hp
 · exact mate6 hp
 · exact mate7 hp hv
 · exact mate9 hp
 · exact mate4 hp
 · exact mate11 hp
 · exact mate6 hp
 · exact mate13 hp hv
theorem dnRows_ {p k v:Int} (hp:2≤p∧p≤97) (hk:rng k 3 14=true) (h8:k≠8) (h14:k≠14) (hv:0≤v∧v<p) :
  kL p ((kd k).1+(kd k).2) (k,v,ugL (kd k).1.toNat,frL (kd k).1.toNat (kd k).2.toNat)=some (rX p k v):=by
 have:=rng_true.1 hk
 have b0:(0:Int)≤0∧(0:Int)<p:=⟨by omega,by omega⟩
 have b1:(0:Int)≤1∧(1:Int)<p:=⟨by omega,by omega⟩
 have bp:(0:Int)≤p-1∧p-1<p:=⟨by omega,by omega⟩
 have bv:(0:Int)≤(p-v) % p∧(p-v) % p<p:=fJ hp.1
 obtain ⟨r1,r2,r3,r4,r5,r6,r7,r8,r9⟩:=FD_ hp b1 bp
 obtain ⟨_,s2,s3,_⟩:=FD_ hp b1 bv
 have sp:subO p 1=some (p-1):=wC (by omega) (by omega)
 have ng:=bX hp hv
 have hc:k=3∨k=4∨k=5∨k=6∨k=7∨k=9∨k=10∨k=11∨k=12∨k=13:=by omega
 have u0:ugL 0=[]:=rfl
 have u1:ugL 1=[0]:=rfl
 have u2:ugL 2=[0,1]:=rfl
 have f01:frL 0 1=[0]:=rfl
 have f11:frL 1 1=[1]:=rfl
 have f12:frL 1 2=[1,2]:=rfl
 have f21:frL 2 1=[2]:=rfl
 have f10:frL 1 0=[]:=rfl
 have q3:subO 9 9=some 0:=rfl
 have q4:subO 10 9=some 1:=rfl
 have q5:subO 11 9=some 2:=rfl
 have q6:subO 12 9=some 3:=rfl
 have q7:subO 13 9=some 4:=rfl
 have t0:mA 0 3=some 3:=rfl
 have t1:mA 1 3=some 4:=rfl
 have t2:mA 2 3=some 5:=rfl
 have t3:mA 3 3=some 6:=rfl
 have t4:mA 4 3=some 7:=rfl
 unfold rX
 generalize (p-v) % p=q at ng s2 s3 ⊢
 rcases hc with rfl | rfl | rfl | rfl | rfl | rfl | rfl | rfl | rfl | rfl <;>
  simp [kL,kd,idxO,sp,ng,r1,r2,r3,r4,r5,r6,r7,r8,r9,s2,s3,u0,u1,u2,f01,f11,f12,f21,f10,q3,q4,q5,q6,q7,t0,t1,t2,t3,t4]
theorem HG_ (a b:Nat):ugL a++frL a b=(List.range (a+b)).map fun q:Nat=>(q:Int):=by
 unfold ugL frL
 rw [List.range_add,List.map_append,List.map_map]
 congr 1
 refine List.map_congr_left fun q _=>?_
 show (q:Int)+a=((a+q:Nat):Int)
 omega
theorem Bj_ {n:Nod} (h:lfB n=true) (h1:n.1≠1) (h2:n.1≠2):rng n.1 3 14=true∧0≤n.2.1:=by
 have hk:=cM h
 refine ⟨rng_true.2 (by omega),?_⟩
 unfold lfB at h
 simp only [Bool.and_eq_true] at h
 have h3:=h.2.2
 rw [if_neg h1] at h3
 split at h3
 · exact (rng_true.1 h3).1
 · have:=of_decide_eq_true h3;omega
theorem HT_ {p:Int}{n:Nod} (hf:fdB p=true) (h:lfB n=true) (h1:n.1≠1) (h2:n.1≠2) (h8:n.1≠8) (h14:n.1≠14) (hv:n.2.1<p) :
  uM p n=some ((kd n.1).1,(kd n.1).2,cC p ((kd n.1).1.toNat+(kd n.1).2.toNat) (vL n.1 n.2.1)):=by
 have hp:=aC hf
 obtain ⟨hr,h0⟩:=Bj_ h h1 h2
 obtain ⟨k,v,s⟩:=n
 dsimp only at *
 have hM:=nV hp hr h8 h14 ⟨h0,hv⟩
 have hR:=dnRows_ hp hr h8 h14 ⟨h0,hv⟩
 have hG:=rV h
 have hL:=nW h
 have eL:xF (k,v,s)=((kd k).1+(kd k).2,[(k,v,ugL (kd k).1.toNat,frL (kd k).1.toNat (kd k).2.toNat)],ugL (kd k).1.toNat,frL (kd k).1.toNat (kd k).2.toNat):=by
  unfold xF;dsimp only;rw [if_neg h1,if_neg h2]
 rw [eL] at hG hL
 obtain ⟨a,b,hk,ha,hb⟩:=bP k
 rw [hk] at hM hR hG hL ⊢
 dsimp only [Int.toNat_natCast] at hM hR hG hL ⊢
 have e1:((a:Int)+(b:Int))=((a+b:Nat):Int):=by omega
 rw [e1] at hR hG hL
 have hm:bB=1099511627776:=rfl
 have hD:=A1_ (W:=a+b) (a:=a) (b:=b) (ends:=List.range (a+b)) (eqs:=rX p k v) hf hG.1 (fun e he=>by
  rw [List.mem_singleton.1 he];exact ⟨hv,h8,h14⟩) (ugL_len a) (frL_len a b) (HG_ a b) (fun q hq=>List.mem_range.1 hq) hM.e hM.el
  (bnd (bnd (a:=(k,v,ugL a,frL a b)) rfl (bnd hR (bnd (iB (by have:=hM.el;simp;omega)) rfl))) (by rw [List.nil_append];rfl))
 rw [hM.red hf] at hD
 exact bnd hL (bnd hD rfl)
end Go.Proofs.YtemcakhocdchiaaGreatDoor
namespace Go.Proofs.YtemcakhocdchiaaGreatDoor
instance (s:ByteArray) (l:List ByteArray):Decidable (s∈l):=decidable_of_iff (l.any (fun a=>decide (a=s))=true) (by simp [List.any_eq_true])
theorem rng_false {x a b:Int}:rng x a b=false↔¬(a≤x∧x≤b):=by
 rw [←rng_true];simp
def ovN (p:Int) (n:Nod):Bool:=!(decide (n.1=7∨n.1=13)&&decide (p≤n.2.1))
def ovB (p:Int) (t:List Nod):Bool:=fD t&&(fdB p&&t.all (ovN p))
theorem IC_ (k:Int):wN k=some (decide (k=7∨k=13)):=by
 unfold wN
 by_cases h1:k=7
 · simp [h1]
 · by_cases h2:k=13 <;> simp [h1,h2]
theorem Eq_ (p:Int) (t:List Nod):sT p t=some (ovB p t):=by
 obtain ⟨x,h1,_⟩:=EL_ t
 unfold ovB
 refine bnd (Dc_ h1) ?_
 cases hv:fD t with
 | false=>rfl
 | true=>
  cases hf:fdB p with
  | false=>exact bnd (a:=true) (stp (cFW rfl (bnd (cX p) (stp (by rw [hf];rfl))))) rfl
  | true=>
   refine bnd (a:=false) (stp (cFW rfl (bnd (cX p) (stp (by rw [hf];rfl))))) (cFW rfl ?_)
   refine sqW (uG (ovN p) t 0 ?_ (t:=false)) ?_
   ·
    intro j n hj
    rw [Nat.zero_add]
    refine bnd (kA hj) ?_
    unfold ovN
    by_cases k7:n.1=7
    · by_cases hp:p≤n.2.1 <;> simp [k7,hp]
    ·
     by_cases k13:n.1=13
     · by_cases hp:p≤n.2.1 <;> simp [k13,hp]
     · simp [k7,k13]
   · cases t.all (ovN p) <;> rfl
theorem isOver_ (p:Int) (t:List Nod):jY t p=some (ovB p t):=by
 unfold ovB
 cases hf:fdB p with
 | false=>
  refine (bnd (a:=true) (bnd (AT_ p) (stp (by rw [hf];rfl))) rfl:_=some false).trans ?_
  cases fD t <;> rfl
 | true=>
  cases hv:fD t with
  | false=>exact bnd (a:=true) (bnd (AT_ p) (stp (by rw [hf];exact cFW rfl (bnd (D0_ t) (stp (by rw [hv];rfl)))))) rfl
  | true=>
   refine bnd (a:=false) (bnd (AT_ p) (stp (by rw [hf];exact cFW rfl (bnd (D0_ t) (stp (by rw [hv];rfl)))))) (cFW rfl ?_)
   refine sqW (uG (ovN p) t 0 ?_ (t:=false)) ?_
   ·
    intro j n hj
    rw [Nat.zero_add]
    refine bnd (kA hj) ?_
    have hh:=IC_ n.1
    unfold ovN
    by_cases k:n.1=7∨n.1=13
    · by_cases hp:p≤n.2.1 <;> simp [hh,k,hp]
    · simp [hh,k]
   · cases t.all (ovN p) <;> rfl
end Go.Proofs.YtemcakhocdchiaaGreatDoor
namespace Go.Proofs.YtemcakhocdchiaaGreatDoor
theorem wU {p:Int}{a b:Nat}{G:Rows} (hf:fdB p=true) (hN:a+b≤1000) (hG:okM p (a+b) G) (hl:G.length≤10000):gL p (a:Int) (b:Int) G=some ((a:Int),(b:Int),cC p (a+b) G):=by
 have hred:=jV hf (Nat.le_refl (a+b)) (by omega) hG (by omega)
 refine bnd (a:=((a+b:Nat):Int)) (by rw [aB (by omega) (by omega)];congr 1) (bnd hred rfl)
def nG (l:Nat) (x:List Int):List Int:=x.drop l++x.take l
def swpE (l r:Nat):List Nat:=(List.range r).map (fun q=>l+q)++List.range l
theorem DF_ (l r:Nat):(swpE l r).length=r+l:=by simp [swpE]
theorem aW {l r:Nat}:∀ q∈swpE l r,q<l+r:=by
 intro q hq
 rcases List.mem_append.1 hq with h | h
 ·
  obtain ⟨t,ht,rfl⟩:=List.mem_map.1 h
  have:=List.mem_range.1 ht;omega
 · have:=List.mem_range.1 h;omega
theorem Ev_ {l r:Nat}{x:List Int} (h:x.length=l+r):nG l x=selR (swpE l r) x:=by
 refine gS (by simp [nG,selR,swpE,h]) (fun j hj=>?_)
 have hj2:j<r+l:=by simp [nG] at hj;omega
 rw [dP (by rw [DF_];exact hj2)]
 unfold nG swpE
 have ld:(x.drop l).length=r:=by simp;omega
 rw [el_app2,ld,List.getD_eq_getElem?_getD]
 by_cases c:j<r
 · rw [if_pos c,el_drop2,List.getElem?_append_left (by simpa using c),List.getElem?_map,List.getElem?_range c];rfl
 · rw [if_neg c,AZ_ (by omega),List.getElem?_append_right (by simpa using c),List.length_map,List.length_range,List.getElem?_range (by omega)];rfl
theorem IH_ {p:Int}{l r:Nat}{B:Rows} (hf:fdB p=true) (hN:l+r≤1000) (hB:okM p (l+r) B) (hL:B.length≤1000):yY p ((l:Int),(r:Int),B)=some ((r:Int),(l:Int),cC p (r+l) (B.map (nG l))):=by
 have hm:bB=1099511627776:=rfl
 have e:wX ((l:Int),(r:Int),B) ((l:Int),(r:Int),B)=some (B.map (nG l)):=by
  refine bnd (eE (nG l) B [] (by simp;omega) (fun j x s hj hs=>?_)) rfl
  have hx:=(hB x (oC hj)).1
  have hjl:=(List.getElem?_eq_some_iff.1 hj).1
  have hjo:=vO (l:=[x.drop l,x.take l]) (by simp;omega)
  refine bnd (kA hj) (bnd (bnd (eW (l:=l) rfl (by omega)) (bnd (first_ (l:=l) rfl (by omega)) (bnd hjo rfl))) (bnd (iB (by simp at hs ⊢;omega)) ?_))
  simp [nG]
 have hok:okM p (r+l) (B.map (nG l)):=by
  intro y hy
  obtain ⟨x,hx,rfl⟩:=List.mem_map.1 hy
  obtain ⟨h1,h2⟩:=hB x hx
  refine ⟨by simp [nG];omega,fun z hz=>?_⟩
  rcases List.mem_append.1 hz with h | h
  · exact h2 z (List.mem_of_mem_drop h)
  · exact h2 z (List.mem_of_mem_take h)
 exact bnd e (bnd (wU hf (by omega) hok (by simp;omega)) rfl)
theorem swp_red {p:Int}{l r:Nat}{G:Rows} (hf:fdB p=true) (hG:okM p (l+r) G):cC p (r+l) ((cC p (l+r) G).map (nG l))=cC p (r+l) (G.map (nG l)):=by
 have hR:=tG hf hG
 obtain ⟨s1,s2⟩:=zM hf hG
 have m1:(cC p (l+r) G).map (nG l)=(cC p (l+r) G).map (selR (swpE l r)):=List.map_congr_left fun x hx=>Ev_ (hR.ok x hx).1
 have m2:G.map (nG l)=G.map (selR (swpE l r)):=List.map_congr_left fun x hx=>Ev_ (hG x hx).1
 rw [m1,m2,← DF_ l r]
 refine CJ_ hf (vW aW hR.ok) (vW aW hG) (fun i hi=>?_) (fun i hi=>?_)
 ·
  rw [List.length_map] at hi
  rw [zW hi]
  exact AK_ aW (s1 i hi) (fun j hj=>by rw [dP hj])
 ·
  rw [List.length_map] at hi
  rw [zW hi]
  exact AK_ aW (s2 i hi) (fun j hj=>by rw [dP hj])
theorem Cb_ {k v:Int} (h:k=3∨k=4∨k=5∨k=6∨k=7):xS k v=some (vL k v):=by
 rcases h with rfl | rfl | rfl | rfl | rfl <;> rfl
theorem CL_ {k:Int} (h:9≤k∧k≤13):rI k=some (k-6):=by
 refine bnd (within_ k 3 8) ?_
 rw [show rng k 3 8=false from rng_false.2 (by omega)]
 refine cFW rfl (bnd (within_ k 9 14) ?_)
 rw [show rng k 9 14=true from rng_true.2 (by omega)]
 refine cTW rfl (bnd (wC (by omega) (by omega)) (bnd (aB (by omega) (by omega)) ?_))
 congr 1;omega
theorem Hs_ {p:Int}{n:Nod} (hf:fdB p=true) (h:lfB n=true) (h1:n.1≠1) (h2:n.1≠2) (h8:n.1≠8) (h14:n.1≠14) (hv:n.2.1<p) :
  oM p n=some ((kd n.1).1,(kd n.1).2,cC p ((kd n.1).1.toNat+(kd n.1).2.toNat) (vL n.1 n.2.1)):=by
 have hp:=aC hf
 obtain ⟨hr,h0⟩:=Bj_ h h1 h2
 obtain ⟨k,v,s⟩:=n
 dsimp only at *
 have hb:=rng_true.1 hr
 have hM:=nV hp hr h8 h14 ⟨h0,hv⟩
 by_cases h9:9≤k
 ·
  have hc:k=9∨k=10∨k=11∨k=12∨k=13:=by omega
  have hr6:rng (k-6) 3 14=true:=rng_true.2 (by omega)
  have hM6:=nV (p:=p) (k:=k-6) (v:=v) hp hr6 (by omega) (by omega) ⟨h0,hv⟩
  have hsw:(kd (k-6)).1=(kd k).2∧(kd (k-6)).2=(kd k).1∧(vL (k-6) v).map (nG (kd k).2.toNat)=vL k v:=by
   rcases hc with rfl | rfl | rfl | rfl | rfl <;> exact ⟨rfl,rfl,rfl⟩
  obtain ⟨a,b,hk,ha,hbb⟩:=bP k
  obtain ⟨w1,w2,w3⟩:=hsw
  rw [hk] at w1 w2 w3 hM ⊢
  dsimp only [Int.toNat_natCast] at w1 w2 w3 hM ⊢
  rw [w1,w2] at hM6
  simp only [Int.toNat_natCast] at hM6
  have hgw:=zP hr6
  have e6:kd (k-6)=((b:Int),(a:Int)):=Prod.ext w1 w2
  rw [e6] at hgw
  have hrel:=wU (a:=b) (b:=a) hf (by omega) hM6.g (by have:=hM6.gl;omega)
  have hR:=tG hf hM6.g
  have hcv:=IH_ (l:=b) (r:=a) hf (by omega) hR.ok (by have:=sO hf hR;omega)
  rw [swp_red hf hM6.g,w3] at hcv
  refine stp (cFW (dF h1) (stp (cFW (dF h2) (stp (cTW (dT h9) (bnd (CL_ (by omega)) (bnd hgw (bnd (CL_ (by omega)) (bnd (Cb_ (by omega)) (bnd hrel (bnd hcv rfl)))))))))))
 ·
  obtain ⟨a,b,hk,ha,hbb⟩:=bP k
  have hgw:=zP hr
  rw [hk] at hM hgw ⊢
  dsimp only [Int.toNat_natCast] at hM ⊢
  have hrel:=wU (a:=a) (b:=b) hf (by omega) hM.g (by have:=hM.gl;omega)
  exact stp (cFW (dF h1) (stp (cFW (dF h2) (stp (cFW (dF h9) (bnd hgw (bnd (Cb_ (by omega)) (bnd hrel rfl))))))))
theorem AL_ (p:Int) (n:Nat) (x:List Int):vH p n [] x:=fun i hi=>by simp at hi
theorem gW (p:Int) (n:Nat):okM p n []:=fun x hx=>by cases hx
def swG:Rows:=[[1,0,0,1],[0,1,1,0]]
theorem By_ {p:Int} (hp:2≤p):okM p 4 swG:=by
 have b0:(0:Int)≤0∧(0:Int)<p:=⟨by omega,by omega⟩
 have b1:(0:Int)≤1∧(1:Int)<p:=⟨by omega,by omega⟩
 exact okM2 (xE rfl (uC b1 (uC b0 (uC b0 (zE b1))))) (xE rfl (uC b0 (uC b1 (uC b1 (zE b0)))))
theorem j4 {P:Nat→Prop} (h0:P 0) (h1:P 1) (h2:P 2) (h3:P 3):∀ j,j<4→P j:=fun j hj=>by
 match j,hj with
 | 0,_=>exact h0
 | 1,_=>exact h1
 | 2,_=>exact h2
 | 3,_=>exact h3
theorem swap_eq {p:Int} (hf:fdB p=true):cC p 4 ((oG p 2 []).map (selR [0,1,1,0]))=cC p 4 swG:=by
 have hp:=aC hf
 refine Bk_ (W:=2) (ends:=[0,1,1,0]) hf (by decide) (gW p 2) (By_ hp.1) (fun v _=>⟨fun i=>el v i,j4 ?_ ?_ ?_ ?_⟩) (j2 ⟨[1,0],AL_ _ _ _,j4 rfl rfl rfl rfl⟩ ⟨[0,1],AL_ _ _ _,j4 rfl rfl rfl rfl⟩)
 ·
  show _=sg 2 _ % p
  rw [sg2]
  show el v 0 % p=(el v 0*1+el v 1*0) % p
  simp
 ·
  show _=sg 2 _ % p
  rw [sg2]
  show el v 1 % p=(el v 0*0+el v 1*1) % p
  simp
 ·
  show _=sg 2 _ % p
  rw [sg2]
  show el v 1 % p=(el v 0*0+el v 1*1) % p
  simp
 ·
  show _=sg 2 _ % p
  rw [sg2]
  show el v 0 % p=(el v 0*1+el v 1*0) % p
  simp
theorem H4_ {p v:Int}{s:ByteArray} (hf:fdB p=true) (h:lfB (2,v,s)=true):uM p (2,v,s)=some (2,2,cC p 4 swG)∧oM p (2,v,s)=some (2,2,cC p 4 swG):=by
 have hp:=aC hf
 have hm:bB=1099511627776:=rfl
 have hD:=A1_ (p:=p) (W:=2) (a:=2) (b:=2) (E:=[]) (I:=[0,1]) (O:=[1,0]) (ends:=[0,1,1,0]) (eqs:=[]) hf (by decide) (fun e he=>by cases he) rfl rfl rfl (by decide) (gW p 2) (by simp) rfl
 rw [swap_eq hf] at hD
 have hL:=nW h
 have hrel:=wU (a:=2) (b:=2) (G:=swG) hf (by omega) (By_ hp.1) (by decide)
 exact ⟨bnd hL (bnd hD rfl),stp (cFW rfl (stp (cTW rfl (bnd hrel rfl))))⟩
def idP (n:Nat):Rows:=(List.range n).map fun i=>iE n i++iE n i
theorem idP_gr {n i:Nat} (h:i<n):gr (idP n) i=iE n i++iE n i:=by
 unfold gr idP
 rw [List.getD_eq_getElem?_getD,List.getElem?_map,List.getElem?_range h];rfl
theorem DA_ (n i:Nat):(iE n i).length=n:=by simp [iE]
theorem cP {n i j:Nat} (hi:i<n) (hj:j<n+n):el (gr (idP n) i) j=if i=(if j<n then j else j-n) then 1 else 0:=by
 rw [idP_gr hi,el_app2,DA_]
 by_cases c:j<n
 · rw [if_pos c,if_pos c,rL hi]
 · rw [if_neg c,if_neg c,rL hi]
theorem idP_len (n:Nat):(idP n).length=n:=by simp [idP]
theorem EN_ {p:Int} (hp:2≤p) (n:Nat):Red p (n+n) (idP n):=by
 have lead:∀ i,i<n→leadN (gr (idP n) i)=i:=fun i hi=>by
  refine AQ_ (fun j hj=>?_) ?_
  · rw [cP hi (by omega),show (if j<n then j else j-n)=j from if_pos (by omega)];exact if_neg (by omega)
  · rw [cP hi (by omega),if_pos hi,if_pos rfl];decide
 refine ⟨fun r hr=>?_,fun i hi=>?_,fun i hi=>?_,fun i j hi hj hne=>?_,fun i j hij hj=>?_⟩
 ·
  obtain ⟨i,hi,rfl⟩:=List.mem_map.1 hr
  exact Ba_ (dV hp n i) (dV hp n i)
 ·
  rw [idP_len] at hi
  rw [lead i hi];omega
 ·
  rw [idP_len] at hi
  rw [lead i hi,cP hi (by omega),if_pos hi,if_pos rfl]
 ·
  rw [idP_len] at hi hj
  rw [lead i hi,cP hj (by omega),if_pos hi,if_neg (fun e=>hne e.symm)]
 ·
  rw [idP_len] at hj
  rw [lead i (by omega),lead j hj];exact hij
def dblE (n:Nat):List Nat:=List.range n++List.range n
theorem Eg_ {n j:Nat} (h:j<n+n):(dblE n).getD j 0=if j<n then j else j-n:=by
 unfold dblE
 rw [List.getD_eq_getElem?_getD]
 by_cases c:j<n
 · rw [if_pos c,List.getElem?_append_left (by simpa using c),List.getElem?_range c];rfl
 · rw [if_neg c,List.getElem?_append_right (by simpa using c),List.length_range,List.getElem?_range (by omega)];rfl
theorem sg_unit (n:Nat) (f:Nat→Int){q:Nat} (h:q<n):sg n (fun i=>f i*(if i=q then 1 else 0))=f q:=by
 rw [jI h (fun i _ hne=>by rw [if_neg hne,Int.mul_zero]),if_pos rfl,Int.mul_one]
theorem id_eq {p:Int} (hf:fdB p=true) (n:Nat):cC p (n+n) ((oG p n []).map (selR (dblE n)))=idP n:=by
 have hp:=aC hf
 have hR:=EN_ hp.1 n
 have hl:(dblE n).length=n+n:=by simp [dblE]
 have hlt:∀ q∈dblE n,q<n:=fun q hq=>by
  rcases List.mem_append.1 hq with h | h <;> exact List.mem_range.1 h
 rw [←Dg_ hf hR,← hl]
 have hok:okM p (dblE n).length (idP n):=by rw [hl];exact hR.ok
 refine Bk_ hf hlt (gW p n) hok (fun v _=>⟨fun i=>el v i,fun j hj=>?_⟩) (fun i hi=>?_)
 ·
  rw [hl] at hj
  rw [dP (by rw [hl];exact hj),Eg_ hj,idP_len,oD (g:=fun i=>el v i*(if i=(if j<n then j else j-n) then 1 else 0)) (fun i hi=>by rw [cP hi hj]),sg_unit n (fun i=>el v i) (by split <;> omega)]
 ·
  rw [idP_len] at hi
  refine ⟨iE n i,AL_ _ _ _,fun j hj=>?_⟩
  rw [hl] at hj
  rw [Eg_ hj,cP hi hj,rL hi]
theorem id_both {p:Int}{s:ByteArray}{n:Nat} (hf:fdB p=true) (hn:n≤12) (h:lfB (1,(n:Int),s)=true):uM p (1,(n:Int),s)=some ((n:Int),(n:Int),idP n)∧oM p (1,(n:Int),s)=some ((n:Int),(n:Int),idP n):=by
 have hp:=aC hf
 have hm:bB=1099511627776:=rfl
 have hG:=(rV h).1
 have eG:xF (1,(n:Int),s)=((n:Int),[],ugL n,ugL n):=by unfold xF;dsimp only;rw [if_pos rfl,Int.toNat_natCast]
 have hL:=nW h
 rw [eG] at hL hG
 have hD:=A1_ (p:=p) (W:=n) (a:=n) (b:=n) (E:=[]) (I:=ugL n) (O:=ugL n) (ends:=dblE n) (eqs:=[]) hf hG (fun e he=>by cases he) (ugL_len n) (ugL_len n) (by unfold dblE ugL;rw [List.map_append]) (fun q hq=>by
  rcases List.mem_append.1 hq with h | h <;> exact List.mem_range.1 h) (gW p n) (by simp) rfl
 rw [id_eq hf] at hD
 refine ⟨bnd hL (bnd hD rfl),stp (cTW rfl (bnd (bnd (tK ⟨by dsimp only;omega,by dsimp only;omega⟩) (bnd (a:=idP n) ?_ rfl)) rfl))⟩
 rw [Int.toNat_natCast]
 have loop:=xC (f:=fun (k8:Nat) (s71:List (List Int))=>
   (bI (n:Int) ((k8:Nat):Int)).bind fun y85=>
   (bI (n:Int) ((k8:Nat):Int)).bind fun y90=>
   (eH [y85,y90]).bind fun y98=>
   (nA s71 [y98]).bind fun a106=>
   some a106) (n:=n) (fun j=>(List.range j).map fun i=>iE n i++iE n i) (fun j hj=>by
  have hjo:=vO (l:=[iE n j,iE n j]) (by simp [DA_];omega)
  refine bnd (unit_ hj (by omega)) (bnd (unit_ hj (by omega)) (bnd hjo (bnd (iB (by simp;omega)) ?_)))
  rw [List.range_succ,List.map_append];simp)
 exact loop
end Go.Proofs.YtemcakhocdchiaaGreatDoor
namespace Go.Proofs.YtemcakhocdchiaaGreatDoor
def mI (p:Int) (n:Nod):Rel:=
 if n.1=1 then (n.2.1,n.2.1,idP n.2.1.toNat) else if n.1=2 then (2,2,cC p 4 swG) else ((kd n.1).1,(kd n.1).2,cC p ((kd n.1).1.toNat+(kd n.1).2.toNat) (vL n.1 n.2.1))
def fF (n:Nod):Bool:=decide (n.1≠8∧n.1≠14)
structure RelOk (p:Int) (w:Int×Int) (R:Rel):Prop where
 l:R.1=w.1
 r:R.2.1=w.2
 red:Red p (w.1.toNat+w.2.toNat) R.2.2
theorem BB_ {p:Int}{n:Nod} (hf:fdB p=true) (h:lfB n=true) (ht:fF n=true) (ho:ovN p n=true):RelOk p (lfT n) (mI p n)∧uM p n=some (mI p n)∧oM p n=some (mI p n):=by
 have hp:=aC hf
 have ht:=of_decide_eq_true ht
 by_cases h1:n.1=1
 ·
  have hv:=yW h h1
  obtain ⟨k,v,s⟩:=n
  dsimp only at h1 hv
  subst h1
  obtain ⟨m,rfl⟩:∃ m:Nat,v=(m:Int):=⟨v.toNat,by omega⟩
  have e:mI p (1,(m:Int),s)=((m:Int),(m:Int),idP m):=by unfold mI;dsimp only;rw [if_pos rfl,Int.toNat_natCast]
  rw [e]
  have:=id_both (n:=m) hf (by omega) h
  exact ⟨⟨rfl,rfl,by show Red p ((m:Int).toNat+(m:Int).toNat) _;rw [Int.toNat_natCast];exact EN_ hp.1 m⟩,this.1,this.2⟩
 by_cases h2:n.1=2
 ·
  obtain ⟨k,v,s⟩:=n
  dsimp only at h2
  subst h2
  have:=H4_ hf h
  exact ⟨⟨rfl,rfl,tG (n:=4) hf (By_ hp.1)⟩,this.1,this.2⟩
 have hg:=Bj_ h h1 h2
 have hv:n.2.1<p:=by
  unfold ovN at ho
  by_cases hs:n.1=7∨n.1=13
  ·
   rw [dT hs,Bool.true_and] at ho
   by_cases hq:p≤n.2.1
   · rw [dT hq] at ho;cases ho
   · omega
  ·
   unfold lfB at h
   simp only [Bool.and_eq_true] at h
   have h3:=h.2.2
   rw [if_neg h1,if_neg hs] at h3
   have:=of_decide_eq_true h3
   omega
 have e:mI p n=((kd n.1).1,(kd n.1).2,cC p ((kd n.1).1.toNat+(kd n.1).2.toNat) (vL n.1 n.2.1)):=by unfold mI;rw [if_neg h1,if_neg h2]
 have eT:lfT n=kd n.1:=by unfold lfT;rw [if_neg h1]
 rw [e,eT]
 exact ⟨⟨rfl,rfl,tG hf (nV hp hg.1 ht.1 ht.2 ⟨hg.2,hv⟩).g⟩,HT_ hf h h1 h2 ht.1 ht.2 hv,Hs_ hf h h1 h2 ht.1 ht.2 hv⟩
def mJ (p k:Int) (x y:Rel):Rel:=
 if k=15 then (x.1,y.2.1,cmpR p x.1.toNat x.2.1.toNat y.2.1.toNat x.2.2 y.2.2) else (x.1+y.1,x.2.1+y.2.1,tenR p x.1.toNat x.2.1.toNat y.1.toNat y.2.1.toNat x.2.2 y.2.2)
theorem BF_ {p k:Int}{x y:Rel}{u v w:Int×Int} (hf:fdB p=true) (hu:mG u) (hv:mG v) (hx:RelOk p u x) (hy:RelOk p v y) (h:jn k u v=some w) :
  RelOk p w (mJ p k x y)∧(k=15→uP p x y=some (mJ p k x y)∧eQ p x y=some (mJ p k x y))∧(k≠15→bQ p x y=some (mJ p k x y)∧pQ p x y=some (mJ p k x y)):=by
 have hp:=aC hf
 obtain ⟨u1,u2⟩:=u
 obtain ⟨v1,v2⟩:=v
 obtain ⟨a1,a2,a3,a4⟩:=hu
 obtain ⟨b1,b2,b3,b4⟩:=hv
 obtain ⟨x1,x2,A⟩:=x
 obtain ⟨y1,y2,B⟩:=y
 obtain ⟨e1,e2,rA⟩:=hx
 obtain ⟨e3,e4,rB⟩:=hy
 dsimp only at a1 a2 a3 a4 b1 b2 b3 b4 e1 e2 e3 e4 rA rB
 subst e1 e2 e3 e4
 obtain ⟨l,rfl⟩:∃ l:Nat,x1=(l:Int):=⟨x1.toNat,by omega⟩
 obtain ⟨m,rfl⟩:∃ m:Nat,x2=(m:Int):=⟨x2.toNat,by omega⟩
 obtain ⟨q,rfl⟩:∃ q:Nat,y1=(q:Int):=⟨y1.toNat,by omega⟩
 obtain ⟨r,rfl⟩:∃ r:Nat,y2=(r:Int):=⟨y2.toNat,by omega⟩
 simp only [Int.toNat_natCast] at rA rB
 have lA:=sO hf rA
 have lB:=sO hf rB
 unfold jn at h
 unfold mJ
 simp only [Int.toNat_natCast]
 by_cases hk:k=15
 ·
  rw [if_pos hk] at h ⊢
  split at h
  ·
   rename_i hm
   obtain rfl:=Option.some.inj h
   have hm:(m:Int)=(q:Int):=hm
   obtain rfl:q=m:=by omega
   refine ⟨⟨rfl,rfl,?_⟩,fun _=>⟨HF_ hf (by omega) (by omega) (by omega) rA.ok rB.ok (by omega) (by omega),II_ hf (by omega) (by omega) (by omega) rA.ok rB.ok (by omega) (by omega)⟩,fun h=>(h hk).elim⟩
   show Red p ((l:Int).toNat+(r:Int).toNat) _
   rw [Int.toNat_natCast,Int.toNat_natCast]
   exact tG hf (Bs_ hf rA.ok rB.ok)
  · cases h
 ·
  rw [if_neg hk] at h ⊢
  split at h
  ·
   obtain rfl:=Option.some.inj h
   have t1:=Ig_ hf (l1:=l) (r1:=m) (l2:=q) (r2:=r) (by omega) (by omega) (by omega) (by omega) rA.ok rB.ok (by omega) (by omega)
   have t2:=tensor_ hf (l1:=l) (r1:=m) (l2:=q) (r2:=r) (by omega) (by omega) (by omega) (by omega) rA.ok rB.ok (by omega) (by omega)
   refine ⟨⟨rfl,rfl,?_⟩,fun h=>(hk h).elim,fun _=>⟨t1,t2⟩⟩
   show Red p (((l:Int)+(q:Int)).toNat+((m:Int)+(r:Int)).toNat) _
   rw [show ((l:Int)+(q:Int)).toNat=l+q by omega,show ((m:Int)+(r:Int)).toNat=m+r by omega]
   exact tG hf (A5_ hp.1 rA.ok rB.ok)
  · cases h
def wH (p:Int):Tr→Rel
 | .leaf n=>mI p n
 | .node k a b=>mJ p k (wH p a) (wH p b)
def okT (p:Int) (T:Tr):Prop:=∀ n∈flat T,fF n=true∧ovN p n=true
theorem kK:∀ {T:Tr}{w:Int×Int},xD T=some w→mG w
 | .leaf n,w,h=>by obtain ⟨h1,rfl⟩:=fK h;exact Fp_ h1
 | .node k a b,w,h=>by
  obtain ⟨_,x,y,h1,h2,h3⟩:=cJ h
  exact jn_ok (kK h1) (kK h2) h3
theorem xL {p:Int} (hf:fdB p=true):∀ {T:Tr}{w:Int×Int},xD T=some w→okT p T→RelOk p w (wH p T)
 | .leaf n,w,h,ho=>by
  obtain ⟨h1,rfl⟩:=fK h
  have:=ho n (by simp [flat])
  exact (BB_ hf h1 this.1 this.2).1
 | .node k a b,w,h,ho=>by
  obtain ⟨_,x,y,h1,h2,h3⟩:=cJ h
  exact (BF_ hf (kK h1) (kK h2) (xL hf h1 (fun n hn=>ho n (by simp [flat,hn]))) (xL hf h2 (fun n hn=>ho n (by simp [flat,hn]))) h3).1
end Go.Proofs.YtemcakhocdchiaaGreatDoor
