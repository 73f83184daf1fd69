/-
  Plain laws: lists whose product with rows is zero, by the steps of a reduction and by the leading indices. No program in sight. No condition.
-/
import Derived.Test.YtlggnmkelgplnaaGreatDoorZP22
import Derived.Test.YtlggnmkelgplnaaGreatDoorZFn
namespace Go.Proofs.YtlggnmkelgplnaaGreatDoor
set_option linter.unusedVariables false
theorem tQ (f:Nat→Int) (a:Nat):∀ b,sg (a+b) f=sg a f+sg b (fun t=>f (a+t))
 | 0=>by show sg a f=sg a f+0;omega
 | b+1=>by
  show sg (a+b) f+f (a+b)=sg a f+(sg b (fun t=>f (a+t))+f (a+b))
  rw [tQ f a b];omega
theorem fU {p:Int}{n:Nat}{m:Rows}{v:List Int} (f:Nat→Int) (h:∀ i,i<m.length→sg n (fun j=>f j*el (gr m i) j) % p=0) (hv:cE p n m v):sg n (fun j=>f j*el v j) % p=0:=by
 obtain ⟨x,hx⟩:=hv
 have e1:sg n (fun j=>f j*el v j) % p=sg n (fun j=>f j*sg m.length (fun i=>x i*el (gr m i) j)) % p:=
  lH fun j hj=>by rw [←mul_mod2,hx j hj,mul_mod2]
 rw [e1]
 have e2:sg n (fun j=>f j*sg m.length (fun i=>x i*el (gr m i) j))=sg m.length (fun i=>x i*sg n (fun j=>f j*el (gr m i) j)):=by
  rw [bD (g:=fun j=>sg m.length (fun i=>f j*(x i*el (gr m i) j))) (fun j _=>(sg_mul _ _ _).symm),lU]
  refine bD fun i _=>?_
  rw [←sg_mul]
  exact bD fun j _=>Int.mul_left_comm _ _ _
 rw [e2,lH (g:=fun _=>0) (fun i hi=>by rw [Fn_ (h i hi)];exact (Int.zero_emod p).symm),iK (fun _ _=>rfl)]
 exact Int.zero_emod p
def dH (p:Int) (n:Nat) (m:Rows) (x:List Int):Prop:=∀ i,i<m.length→sg n (fun j=>el (gr m i) j*el x j) % p=0
theorem GK_ {p:Int}{n:Nat}{m:Rows}{x v:List Int} (h:dH p n m x) (hv:cE p n m v):sg n (fun j=>el v j*el x j) % p=0:=by
 have:=fU (m:=m) (v:=v) (fun j=>el x j) (fun i hi=>by rw [←h i hi];exact congrArg (· % p) (bD fun j _=>Int.mul_comm _ _)) hv
 rw [←this];exact congrArg (· % p) (bD fun j _=>Int.mul_comm _ _)
theorem CG_ {p:Int}{n:Nat}{a b:Rows}{x:List Int} (h:dH p n b x) (hs:sD p n a b):dH p n a x:=fun i hi=>GK_ h (hs i hi)
def aR (p:Int) (n:Nat) (m:Rows) (x:List Int):Prop:=∀ c,c<n→sg m.length (fun t=>el x t*el (gr m t) c) % p=0
theorem F9_ {p:Int}{n:Nat}{m b:Rows}{v:List Int} (h:∀ i,i<b.length→aR p n m (gr b i)) (hv:cE p m.length b v):aR p n m v:=by
 intro c hc
 have:=fU (n:=m.length) (m:=b) (v:=v) (fun t=>el (gr m t) c) (fun i hi=>by rw [←h i hi c hc];exact congrArg (· % p) (bD fun j _=>Int.mul_comm _ _)) hv
 rw [←this];exact congrArg (· % p) (bD fun j _=>Int.mul_comm _ _)
theorem AS_ {n i:Nat} (hi:i<n):gr (idN n) i=dE n i:=by
 have h:=uE (m:=idN n) (i:=i) (by rw [kN];exact hi)
 unfold idN at h
 rw [List.getElem?_map,List.getElem?_range hi] at h
 exact (Option.some.inj h).symm
theorem eK {n i j:Nat} (hi:i<n):el (dE n i) j=if i=j then 1 else 0:=by
 unfold dE el
 rw [List.getD_eq_getElem?_getD,List.getElem?_set]
 by_cases h:i=j
 · subst h;rw [if_pos rfl,if_pos (by rw [List.length_replicate];exact hi),if_pos rfl];rfl
 · rw [if_neg h,if_neg h,← List.getD_eq_getElem?_getD];exact tN n j
theorem idN_all {p:Int}{n:Nat} (v:List Int):cE p n (idN n) v:=by
 refine ⟨fun i=>el v i,fun j hj=>?_⟩
 rw [kN,kH (i0:=j) hj (fun i hi hne=>by rw [AS_ hi,eK hi,if_neg hne,Int.mul_zero]),AS_ hj,eK hj,if_pos rfl,Int.mul_one]
theorem Hd_ {p:Int}{n:Nat}{m:Rows} (hf:fdB p=true) (h:okM p n m):∀ i,i<m.length→∀ c,c<n→el (gr (yB p n m).1 i) c % p=sg m.length (fun t=>el (gr (yB p n m).2.1 i) t*el (gr m t) c) % p:=by
 have hp:=cC hf
 obtain ⟨f1,f2,f3,f4,f5,f6⟩:=rP hf h
 have hl:(idN m.length).length=m.length:=kN _
 have h1:=rZ hf n 0 m (idN m.length) 0 (by omega) h (wQ hp.1 _) hl (Nat.zero_le _)
 have hC:=DJ_ hl h (wQ hp.1 m.length)
 have h2:=(xP hf n 0 (zC m (idN m.length)) (zC m (idN m.length)) 0 (by omega) hC hC rfl (Nat.zero_le _)).1
 rw [h1] at h2
 change sD p (n+m.length) (zC (yB p n m).1 (yB p n m).2.1) (zC m (idN m.length)) at h2
 intro i hi c hc
 have hv:=h2 i (by rw [bJ (by omega)];omega)
 rw [dJ (by omega)] at hv
 have key:∀ a b:List Int,a.length=n→sg (n+m.length) (fun j=>(if j<n then (if c=j then 1 else 0) else -(el (gr m (j-n)) c))*el (a++b) j)=el a c-sg m.length (fun t=>el b t*el (gr m t) c):=by
  intro a b ha
  rw [tQ,kH (i0:=c) hc (fun j hj hne=>by rw [if_pos hj,if_neg (fun hh=>hne hh.symm),Int.zero_mul]),if_pos hc,if_pos rfl,Int.one_mul,el_app,if_pos (by omega),Int.sub_eq_add_neg,← AN_]
  congr 1
  refine bD fun t _=>?_
  rw [if_neg (by omega),el_app,if_neg (by omega),show n+t-n=t by omega,show n+t-a.length=t by omega,Int.neg_mul,Int.mul_comm]
 have hd:=fU (n:=n+m.length) (m:=zC m (idN m.length)) _ (fun i hi=>by
  rw [bJ hl] at hi
  rw [dJ hl,key _ _ (h _ (zL hi)).1,AS_ hi,kH (i0:=i) hi (fun t _ hne=>by rw [eK hi,if_neg (fun hh=>hne hh.symm),Int.zero_mul]),eK hi,if_pos rfl,Int.one_mul,Int.sub_self]
  exact Int.zero_emod p) hv
 rw [key _ _ (f5 _ (zL (by omega))).1] at hd
 exact fT hd
theorem GG_ {p:Int}{n:Nat}{m:Rows} (hf:fdB p=true) (h:okM p n m):∀ i,(yB p n m).2.2≤i→i<m.length→∀ c,c<n→el (gr (yB p n m).1 i) c=0:=by
 have h1:=mP hf n 0 m 0 (by omega) h (RedI.start m)
 obtain ⟨e1,e2⟩:=nP p n 0 m m (idN m.length) 0
 have f2:=(rP hf h).2.1
 rw [e1,e2,Nat.zero_add] at h1
 intro i h2 h3 c hc
 exact h1.rest i h2 (by rw [←f2] at h3;exact h3) c hc
theorem He_ {p:Int}{n:Nat}{m:Rows} (hf:fdB p=true) (h:okM p n m) (v:List Int):cE p m.length (yB p n m).2.1 v:=by
 have hp:=cC hf
 exact rM (xP hf n 0 m (idN m.length) 0 (by omega) h (wQ hp.1 _) (kN _) (Nat.zero_le _)).2 (idN_all v)
theorem Dx_ (m:Rows) (k i:Nat):gr (m.drop k) i=gr m (k+i):=by
 unfold gr;rw [List.getD_eq_getElem?_getD,List.getD_eq_getElem?_getD,List.getElem?_drop]
def kerM (p:Int) (n:Nat) (m:Rows):Rows:=bC p m.length ((yB p n m).2.1.drop (yB p n m).2.2)
theorem AR_ {p:Int}{n:Nat}{m:Rows} (hf:fdB p=true) (h:okM p n m):okM p m.length ((yB p n m).2.1.drop (yB p n m).2.2):=
 fun r hr=>(rP hf h).2.2.2.1 r (List.mem_of_mem_drop hr)
theorem Ad_ {p:Int}{n:Nat}{m:Rows} (hf:fdB p=true) (h:okM p n m):Red p m.length (kerM p n m):=bG hf (AR_ hf h)
theorem CQ_ {p:Int}{n:Nat}{m:Rows} (hf:fdB p=true) (h:okM p n m) (x:List Int):cE p m.length (kerM p n m) x↔aR p n m x:=by
 have hp:=cC hf
 obtain ⟨f1,f2,f3,f4,f5,f6⟩:=rP hf h
 have hrel:=Hd_ hf h
 have hrest:=GG_ hf h
 have hsp:=oL hf (AR_ hf h)
 constructor
 ·
  intro hx
  refine F9_ (b:=(yB p n m).2.1.drop (yB p n m).2.2) (fun i hi c hc=>?_) (rM hsp.1 hx)
  rw [List.length_drop] at hi
  rw [Dx_,← hrel _ (by omega) c hc,hrest _ (by omega) (by omega) c hc]
  exact Int.zero_emod p
 ·
  intro hx
  refine rM hsp.2 ?_
  obtain ⟨y,hy⟩:=He_ hf h x
  rw [f3] at hy
  have hL:(yB p n m).2.2+(m.length-(yB p n m).2.2)=m.length:=by omega
  have hz:∀ i,i<(yB p n m).2.2→y i % p=0:=by
   have hi:=f6.indep y (fun c hc=>?_)
   · intro i h1;exact hi i (by rw [List.length_take];omega)
   ·
    have hlen:((yB p n m).1.take (yB p n m).2.2).length=(yB p n m).2.2:=by rw [List.length_take];omega
    rw [hlen,bD (g:=fun i=>y i*el (gr (yB p n m).1 i) c) (fun i h1=>by rw [cJ h1])]
    have e0:sg m.length (fun i=>y i*el (gr (yB p n m).1 i) c)=sg (yB p n m).2.2 (fun i=>y i*el (gr (yB p n m).1 i) c):=by
     conv=>lhs;rw [←hL]
     rw [tQ,iK (k:=m.length-(yB p n m).2.2) (fun t ht=>by rw [hrest _ (by omega) (by omega) c hc,Int.mul_zero])]
     omega
    rw [←e0,lH (g:=fun i=>y i*sg m.length (fun t=>el (gr (yB p n m).2.1 i) t*el (gr m t) c)) (fun i hi=>by rw [←mul_mod2,hrel i hi c hc,mul_mod2])]
    rw [←hx c hc]
    have e1:sg m.length (fun i=>y i*sg m.length (fun t=>el (gr (yB p n m).2.1 i) t*el (gr m t) c))=sg m.length (fun t=>sg m.length (fun i=>y i*el (gr (yB p n m).2.1 i) t)*el (gr m t) c):=by
     rw [bD (g:=fun i=>sg m.length (fun t=>y i*(el (gr (yB p n m).2.1 i) t*el (gr m t) c))) (fun i _=>(sg_mul _ _ _).symm),lU]
     refine bD fun t _=>?_
     rw [←Ap_]
     exact bD fun i _=>(Int.mul_assoc _ _ _).symm
    rw [e1]
    exact lH fun t ht=>by rw [←fQ,← hy t ht,fQ]
  refine ⟨fun t=>y ((yB p n m).2.2+t),fun j hj=>?_⟩
  rw [hy j hj,List.length_drop,f3]
  conv=>lhs;rw [←hL]
  rw [tQ,Int.add_emod,lH (k:=(yB p n m).2.2) (g:=fun _=>0) (fun i hi=>by rw [sS (hz i hi)];exact (Int.zero_emod p).symm),iK (k:=(yB p n m).2.2) (f:=fun _=>0) (fun _ _=>rfl),Int.zero_emod,Int.zero_add,mod_mod]
  exact congrArg (· % p) (bD fun t _=>by rw [Dx_])
end Go.Proofs.YtlggnmkelgplnaaGreatDoor
namespace Go.Proofs.YtlggnmkelgplnaaGreatDoor
set_option linter.unusedVariables false
theorem kernel_ {p:Int}{n:Nat}{m:Rows} (hf:fdB p=true) (hn:n≤1048576) (h:okM p n m) (hL:m.length≤1048576):fY p m (n:Int)=some (kerM p n m):=by
 have hm:iB=1099511627776:=rfl
 have hp:=cC hf
 obtain ⟨f1,f2,f3,f4,f5,f6⟩:=rP hf h
 refine bnd (DI_ (by omega) (GE_ h (by omega))) (bnd (FA_ hL) (bnd (B2_ hf (Nat.le_refl n) hn h (wQ hp.1 m.length) (by omega) (kN _)) ?_))
 change (fB (yB p n m).2.1 ((yB p n m).2.2:Int) (((yB p n m).2.1.length:Nat):Int)).bind _=_
 have e:fB (yB p n m).2.1 ((yB p n m).2.2:Int) (((yB p n m).2.1.length:Nat):Int)=some ((yB p n m).2.1.drop (yB p n m).2.2):=by
  unfold fB
  rw [if_pos ⟨by omega,by omega,by rw [Int.toNat_natCast];omega⟩,Int.toNat_natCast,Int.toNat_natCast,List.take_of_length_le (by rw [List.length_drop];omega)]
 refine bnd e (bnd (uT hf (Nat.le_refl m.length) hL (AR_ hf h) (by rw [List.length_drop];omega)) rfl)
def isL (b:Rows) (j:Nat):Bool:=b.any fun r=>decide (leadN r=j)
theorem isL_iff {b:Rows}{j:Nat}:isL b j=true↔∃ t,t<b.length∧leadN (gr b t)=j:=by
 unfold isL
 rw [List.any_eq_true]
 constructor
 ·
  rintro ⟨r,hr,h⟩
  obtain ⟨t,ht,rfl⟩:=List.mem_iff_getElem.1 hr
  refine ⟨t,ht,?_⟩
  have e:gr b t=b[t]:=by have:=uE ht;rw [List.getElem?_eq_getElem ht] at this;exact (Option.some.inj this).symm
  rw [e];exact of_decide_eq_true h
 ·
  rintro ⟨t,ht,h⟩
  exact ⟨gr b t,zL ht,decide_eq_true h⟩
def ldL (n:Nat) (b:Rows):Nat→List Int
 | 0=>rD (fun _ _=>-1) (List.replicate n 0)
 | i+1=>(ldL n b i).set (leadN (gr b i)) (i:Int)
theorem sU (n:Nat) (b:Rows):∀ i,(ldL n b i).length=n
 | 0=>by unfold ldL;rw [yT,List.length_replicate]
 | i+1=>by unfold ldL;rw [List.length_set];exact sU n b i
theorem AE_ {z:List Int}{i j:Nat}{v:Int} (h:i<z.length):el (z.set i v) j=if i=j then v else el z j:=by
 unfold el
 rw [List.getD_eq_getElem?_getD,List.getD_eq_getElem?_getD,List.getElem?_set]
 by_cases hij:i=j
 · rw [if_pos hij,if_pos hij,if_pos (by omega)];rfl
 · rw [if_neg hij,if_neg hij]
theorem D1_ {n:Nat}{b:Rows} (hlt:∀ i,i<b.length→leadN (gr b i)<n){j:Nat} (hj:j<n):∀ i,i≤b.length→(0≤el (ldL n b i) j↔∃ t,t<i∧leadN (gr b t)=j)
 | 0,_=>by
  unfold ldL
  rw [qQ (by rw [List.length_replicate];exact hj)]
  exact ⟨fun h=>by omega,fun ⟨t,ht,_⟩=>by omega⟩
 | i+1,hi=>by
  have ih:=D1_ hlt hj i (by omega)
  show 0≤el ((ldL n b i).set (leadN (gr b i)) (i:Int)) j↔_
  rw [AE_ (by rw [sU];exact hlt i (by omega))]
  by_cases h:leadN (gr b i)=j
  · rw [if_pos h];exact ⟨fun _=>⟨i,by omega,h⟩,fun _=>by omega⟩
  ·
   rw [if_neg h,ih]
   constructor
   · rintro ⟨t,ht,h2⟩;exact ⟨t,by omega,h2⟩
   ·
    rintro ⟨t,ht,h2⟩
    by_cases hti:t=i
    · rw [hti] at h2;exact absurd h2 h
    · exact ⟨t,by omega,h2⟩
def nvL (p:Int) (n:Nat) (b:Rows) (j:Nat):Nat→List Int
 | 0=>(List.replicate n 0).set j 1
 | i+1=>(nvL p n b j i).set (leadN (gr b i)) ((p-el (gr b i) j) % p)
theorem vQ {p:Int}{n:Nat}{b:Rows}{j:Nat} (hp:2≤p):∀ i,okR p n (nvL p n b j i)
 | 0=>pT hp n j
 | i+1=>by
  have ih:=vQ (n:=n) (b:=b) (j:=j) hp i
  unfold nvL
  refine ⟨by rw [List.length_set];exact ih.1,fun x hx=>?_⟩
  rcases List.mem_or_eq_of_mem_set hx with h | rfl
  · exact ih.2 x h
  · exact ⟨Int.emod_nonneg _ (by omega),Int.emod_lt_of_pos _ (by omega)⟩
theorem eQ {p:Int}{n:Nat}{b:Rows}{j:Nat} (hp:2≤p) (hlt:∀ i,i<b.length→leadN (gr b i)<n) (hj:j<n){c:Nat}:∀ i,i≤b.length→(∀ t,t<i→leadN (gr b t)≠c)→el (nvL p n b j i) c=if j=c then 1 else 0
 | 0,_,_=>eK hj
 | i+1,hi,h=>by
  unfold nvL
  rw [AE_ (by rw [(vQ hp i).1];exact hlt i (by omega)),if_neg (h i (by omega))]
  exact eQ hp hlt hj i (by omega) (fun t ht=>h t (by omega))
theorem Au_ {p:Int}{n:Nat}{b:Rows}{j:Nat} (hp:2≤p) (hb:Red p n b){t:Nat} (ht:t<b.length):∀ i,i≤b.length→t<i→el (nvL p n b j i) (leadN (gr b t))=(p-el (gr b t) j) % p
 | 0,_,h=>by omega
 | i+1,hi,h=>by
  unfold nvL
  rw [AE_ (by rw [(vQ hp i).1];exact hb.lt i (by omega))]
  by_cases hti:t=i
  · subst hti;rw [if_pos rfl]
  ·
   have:=hb.inc t i (by omega) (by omega)
   rw [if_neg (by omega)]
   exact Au_ hp hb ht i (by omega) (by omega)
def nuP (p:Int) (n:Nat) (b:Rows):Nat→Rows
 | 0=>[]
 | j+1=>if isL b j then nuP p n b j else nuP p n b j++[nvL p n b j b.length]
theorem oN {p:Int}{n:Nat}{b:Rows} (hp:2≤p):∀ j,okM p n (nuP p n b j)∧(nuP p n b j).length≤j
 | 0=>⟨(fun r hr=>nomatch hr),Nat.le_refl _⟩
 | j+1=>by
  obtain ⟨h1,h2⟩:=oN (n:=n) (b:=b) hp j
  unfold nuP
  split
  · exact ⟨h1,by omega⟩
  ·
   refine ⟨okM_app h1 (fun r hr=>?_),by rw [List.length_append];show _+1≤_;omega⟩
   rw [List.mem_singleton.1 hr];exact vQ hp _
theorem Av_ {p:Int}{n:Nat}{b:Rows}{v:List Int}:∀ k,v∈nuP p n b k→∃ j,j<k∧isL b j=false∧v=nvL p n b j b.length
 | 0,h=>nomatch h
 | k+1,h=>by
  unfold nuP at h
  split at h
  · obtain ⟨j,h1,h2⟩:=Av_ k h;exact ⟨j,by omega,h2⟩
  ·
   rename_i hn
   rcases List.mem_append.1 h with h | h
   · obtain ⟨j,h1,h2⟩:=Av_ k h;exact ⟨j,by omega,h2⟩
   · exact ⟨k,by omega,by cases hk:isL b k with | false=>rfl | true=>exact absurd hk hn,List.mem_singleton.1 h⟩
theorem Dr_ {p:Int}{n:Nat}{b:Rows} (x:Nat→Int):∀ k,∃ X:Nat→Int,∀ c,sg (nuP p n b k).length (fun i=>X i*el (gr (nuP p n b k) i) c)=sg k (fun j=>if isL b j=true then 0 else x j*el (nvL p n b j b.length) c)
 | 0=>⟨fun _=>0,fun c=>rfl⟩
 | k+1=>by
  obtain ⟨X,hX⟩:=Dr_ (p:=p) (n:=n) (b:=b) x k
  unfold nuP
  split
  ·
   rename_i h
   refine ⟨X,fun c=>?_⟩
   show _=sg k _+(if isL b k=true then 0 else _)
   rw [if_pos h,hX c];omega
  ·
   rename_i h
   refine ⟨fun i=>if i<(nuP p n b k).length then X i else x k,fun c=>?_⟩
   rw [List.length_append,show [nvL p n b k b.length].length=1 from rfl,tQ]
   show _=sg k _+(if isL b k=true then 0 else _)
   rw [if_neg h,← hX c]
   congr 1
   · exact bD fun i hi=>by dsimp only;rw [if_pos hi,gr_app1 hi]
   ·
    show 0+_=_
    dsimp only
    rw [if_neg (by omega),gr_app2,Int.zero_add]
    rfl
def vF (p:Int) (n:Nat) (m:Rows):Rows:=bC p n (nuP p n (bC p n m) n)
theorem Aa_ {p:Int}{n:Nat}{m:Rows} (hf:fdB p=true):Red p n (vF p n m):=bG hf (oN (cC hf).1 n).1
theorem wT {p:Int}{n:Nat}{m:Rows} (hf:fdB p=true) (h:okM p n m) (x:List Int):cE p n (vF p n m) x↔dH p n m x:=by
 have hp:=cC hf
 have hb:=bG hf h
 have hs:=oL hf h
 have hn:=oL hf (oN (n:=n) (b:=bC p n m) hp.1 n).1
 unfold vF
 generalize bC p n m=b at hb hs hn ⊢
 constructor
 ·
  intro hx
  refine CG_ ?_ hs.2
  intro i hi
  refine fU (m:=nuP p n b n) (fun c=>el (gr b i) c) (fun k hk=>?_) (rM hn.1 hx)
  obtain ⟨j,hj,hl,e⟩:=Av_ n (zL hk)
  have hnl:∀ t,t<b.length→leadN (gr b t)≠j:=fun t ht he=>by
   have:=isL_iff.2 ⟨t,ht,he⟩
   rw [this] at hl;cases hl
  rw [e,sg_split (hb.lt i hi),kH (i0:=j) hj (fun c hc hne=>by
   by_cases h1:c=leadN (gr b i)
   · rw [if_pos h1]
   ·
    rw [if_neg h1]
    by_cases h2:isL b c=true
    ·
     obtain ⟨t,ht,h3⟩:=isL_iff.1 h2
     rw [←h3,hb.zero t i ht hi (fun h4=>h1 (by rw [←h3,h4])),Int.zero_mul]
    · rw [eQ hp.1 hb.lt hj b.length (Nat.le_refl _) (fun t ht he=>h2 (isL_iff.2 ⟨t,ht,he⟩)),if_neg (fun h4=>hne h4.symm),Int.mul_zero])]
  rw [if_neg (fun h1=>hnl i hi h1.symm),eQ hp.1 hb.lt hj b.length (Nat.le_refl _) hnl,if_pos rfl,hb.one i hi,Au_ hp.1 hb hi b.length (Nat.le_refl _) hi,Int.mul_one,Int.one_mul,Int.add_emod,mod_mod,← Int.add_emod,show el (gr b i) j+(p-el (gr b i) j)=p by omega]
  exact Int.emod_self
 ·
  intro hx
  have hx':dH p n b x:=CG_ hx hs.1
  refine rM hn.2 ?_
  obtain ⟨X,hX⟩:=Dr_ (p:=p) (n:=n) (b:=b) (fun j=>el x j) n
  refine ⟨X,fun c hc=>?_⟩
  rw [hX c]
  by_cases h2:isL b c=true
  ·
   obtain ⟨t,ht,h3⟩:=isL_iff.1 h2
   have h4:=hx' t ht
   rw [sg_split (hb.lt t ht),hb.one t ht,Int.one_mul] at h4
   rw [←h3]
   have e1:sg n (fun j=>if isL b j=true then 0 else el x j*el (nvL p n b j b.length) (leadN (gr b t))) % p=sg n (fun j=>- (if j=leadN (gr b t) then 0 else el (gr b t) j*el x j)) % p:=by
    refine lH fun j hj=>?_
    by_cases h5:isL b j=true
    ·
     rw [if_pos h5]
     by_cases h6:j=leadN (gr b t)
     · rw [if_pos h6];rfl
     ·
      obtain ⟨t',ht',h7⟩:=isL_iff.1 h5
      rw [if_neg h6,← h7,hb.zero t' t ht' ht (fun h8=>h6 (by rw [←h7,h8])),Int.zero_mul];rfl
    ·
     have h6:j≠leadN (gr b t):=fun h7=>h5 (isL_iff.2 ⟨t,ht,h7.symm⟩)
     rw [if_neg h5,if_neg h6,Au_ hp.1 hb ht b.length (Nat.le_refl _) ht,mul_mod2]
     refine fT ?_
     rw [show el x j*(p-el (gr b t) j) - -(el (gr b t) j*el x j)=el x j*p from by rw [Int.mul_sub,Int.mul_comm (el (gr b t) j)];omega]
     exact Int.mul_emod_left _ _
   rw [e1,AN_]
   refine fT ?_
   rw [Int.sub_neg,Int.add_comm]
   exact h4
  ·
   rw [kH (i0:=c) hc (fun j hj hne=>by
    by_cases h3:isL b j=true
    · rw [if_pos h3]
    · rw [if_neg h3,eQ hp.1 hb.lt hj b.length (Nat.le_refl _) (fun t ht he=>h2 (isL_iff.2 ⟨t,ht,he⟩)),if_neg hne,Int.mul_zero]),if_neg h2,eQ hp.1 hb.lt hc b.length (Nat.le_refl _) (fun t ht he=>h2 (isL_iff.2 ⟨t,ht,he⟩)),if_pos rfl,Int.mul_one]
end Go.Proofs.YtlggnmkelgplnaaGreatDoor
namespace Go.Proofs.YtlggnmkelgplnaaGreatDoor
set_option linter.unusedVariables false
theorem Hj_ (p:Int) (n:Nat) (b:Rows) (j:Nat):nuP p n b (j+1)=if isL b j then nuP p n b j else nuP p n b j++[nvL p n b j b.length]:=rfl
theorem Dk_ {p:Int}{n:Nat}{m:Rows} (hf:fdB p=true) (hn:n≤1048576) (h:okM p n m) (hL:m.length≤1048576):bS p (n:Int) m=some (vF p n m):=by
 have hm:iB=1099511627776:=rfl
 have hp:=cC hf
 have hb:=bG hf h
 have hbl:=(Ar_ (n:=n) hp.1 h).2.2
 refine bnd (vP hf (Nat.le_refl n) hn h hL) ?_
 unfold vF
 generalize bC p n m=b at hb hbl ⊢
 refine bnd (bI 0 (by omega)) ?_
 have hlen:(List.replicate n (0:Int)).length=n:=List.length_replicate
 refine bnd (a:=ldL n b 0) ((gD (fun j=>part (fun _ _=>-1) (List.replicate n 0) j) ?_).trans (by rw [zQ];rfl)) ?_
 ·
  intro j hj
  refine bnd (oD _ (by rw [dQ];exact hj)) ?_
  exact congrArg some (cQ (fun _ _=>-1) (List.replicate n 0) hj)
 refine bnd (gD (fun i=>ldL n b i) ?_) ?_
 ·
  intro i hi
  have hw:=(kC hb.ok hi).1
  exact bnd (lD hi) (bnd (Dl_ (by omega)) (bnd (oD _ (by rw [sU];exact hb.lt i hi)) rfl))
 refine bnd (yM (fun j=>(nuP p n b j,(j:Int))) (t:=nuP p n b n) n ?_ ?_) ?_
 ·
  intro j hj
  dsimp only
  refine stp (cTW (dT (by omega)) (bnd (a:=nuP p n b (j+1)) ?_ (bnd (qB (by omega) (by omega)) rfl)))
  refine bnd (iE (by rw [sU];exact hj)) (stp ?_)
  have h1:=D1_ hb.lt hj b.length (Nat.le_refl _)
  rw [←isL_iff] at h1
  rw [Hj_]
  by_cases h2:isL b j=true
  · rw [if_pos h2];exact cTW (dT (h1.2 h2)) rfl
  ·
   rw [if_neg h2]
   refine cFW (dF (fun h3=>h2 (h1.1 h3))) (bnd (bI 0 (by omega)) (bnd (oD _ (by rw [hlen];exact hj)) (bnd (gD (fun i=>nvL p n b j i) ?_) (bnd (vB (by have:=(oN (n:=n) (b:=b) hp.1 j).2;show _+1≤_;omega)) rfl))))
   intro i hi
   have hw:=(kC hb.ok hi).1
   exact bnd (lD hi) (bnd (lD hi) (bnd (iE (by omega)) (bnd (Dl_ (by omega)) (bnd (AU_ hp (mH hb.ok hi hj)) (bnd (oD _ (by rw [(vQ hp.1 i).1];exact hb.lt i hi)) rfl)))))
 ·
  dsimp only
  exact stp (cFW (dF (by omega)) rfl)
 exact bnd (vP hf (Nat.le_refl n) hn (oN hp.1 n).1 (by have:=(oN (n:=n) (b:=b) hp.1 n).2;omega)) rfl
def cF (m:Rows) (j:Nat):List Int:=m.map fun r=>el r j
def trM (m:Rows) (cols:Nat):Rows:=(List.replicate cols ([]:List Int)).mapIdx fun j _=>cF m j
theorem mQ (m:Rows) (cols:Nat):(trM m cols).length=cols:=by simp [trM]
theorem DP_ {m:Rows}{cols j:Nat} (hj:j<cols):gr (trM m cols) j=cF m j:=by
 unfold trM gr
 rw [List.getD_eq_getElem?_getD,List.getElem?_mapIdx,List.getElem?_replicate,if_pos hj]
 rfl
theorem colM_el {m:Rows}{i j:Nat} (hi:i<m.length):el (cF m j) i=el (gr m i) j:=by
 have h1:=jJ (r:=cF m j) (c:=i) (by simp [cF];exact hi)
 unfold cF at h1
 rw [List.getElem?_map,uE hi] at h1
 exact (Option.some.inj h1).symm
theorem DO_ {p:Int}{w cols:Nat}{m:Rows} (h:okM p w m) (hc:cols≤w):okM p m.length (trM m cols):=by
 intro r hr
 obtain ⟨j,hj,rfl⟩:=List.mem_iff_getElem.1 hr
 rw [mQ] at hj
 have e:(trM m cols)[j]=cF m j:=by
  rw [←DP_ hj]
  have:=uE (m:=trM m cols) (i:=j) (by rw [mQ];exact hj)
  rw [List.getElem?_eq_getElem (by rw [mQ];exact hj)] at this;exact Option.some.inj this
 rw [e]
 refine ⟨by simp [cF],fun x hx=>?_⟩
 obtain ⟨r,hr,rfl⟩:=List.mem_map.1 hx
 have h1:=h r hr
 exact h1.2 _ (bH (by omega))
def cols (p:Int) (o:Nat) (A C:Rows):Nat→Rows
 | 0=>C
 | k+1=>mulM p o A (cols p o A C k)
section
variable {p:Int}{n o:Nat}{A C:Rows}
end
section
variable {p:Int}{n:Nat}{A B:Rows}
end
section
variable {p:Int}{n o:Nat}{A C:Rows}
end
theorem fN {p:Int}{n:Nat}{b:Rows} (hf:fdB p=true) (h:Red p n b):b.length≤n:=by
 have:=(Ar_ (n:=n) (cC hf).1 h.ok).2.2
 rw [Cl_ hf h] at this;exact this
end Go.Proofs.YtlggnmkelgplnaaGreatDoor
namespace Go.Proofs.YtlggnmkelgplnaaGreatDoor
def nD (l:Nat) (B:Rows):Rows:=B.map fun r=>r.take l
def sndL (l:Nat) (B:Rows):Rows:=B.map fun r=>r.drop l
theorem first_ {l:Nat}{R:Rel}{row:List Int} (h1:R.1=(l:Int)) (hl:l≤row.length):gM R row=some (row.take l):=by
 refine bnd (a:=row.take l) ?_ rfl
 unfold fB
 rw [if_pos ⟨by omega,by omega,by omega⟩,h1];simp
theorem mU {l:Nat}{R:Rel}{row:List Int} (h1:R.1=(l:Int)) (hl:l≤row.length):fM R row=some (row.drop l):=by
 refine bnd (a:=row.drop l) ?_ rfl
 unfold fB
 rw [if_pos ⟨by omega,by omega,by omega⟩,h1]
 simp only [Int.toNat_natCast]
 rw [List.take_of_length_le (by simp)]
theorem BW_ {l w:Nat}{R:Rel} (h1:R.1=(l:Int)) (hw:∀ r∈R.2.2,r.length=w) (hl:l≤w) (hL:R.2.2.length≤1000):gR R R=some (nD l R.2.2):=by
 have hm:iB=1099511627776:=rfl
 refine bnd (tE (fun r=>r.take l) R.2.2 [] (by simp;omega) (fun j r s hj hs=>?_)) rfl
 have hr:=hw r (aD hj)
 have hjl:=(List.getElem?_eq_some_iff.1 hj).1
 exact bnd (qA hj) (bnd (first_ (R:=R) h1 (by omega)) (bnd (vB (by simp at hs ⊢;omega)) rfl))
theorem BO_ {l w:Nat}{R:Rel} (h1:R.1=(l:Int)) (hw:∀ r∈R.2.2,r.length=w) (hl:l≤w) (hL:R.2.2.length≤1000):eR R R=some (sndL l R.2.2):=by
 have hm:iB=1099511627776:=rfl
 refine bnd (tE (fun r=>r.drop l) R.2.2 [] (by simp;omega) (fun j r s hj hs=>?_)) rfl
 have hr:=hw r (aD hj)
 have hjl:=(List.getElem?_eq_some_iff.1 hj).1
 exact bnd (qA hj) (bnd (mU (R:=R) h1 (by omega)) (bnd (vB (by simp at hs ⊢;omega)) rfl))
theorem wU {p:Int}{l w:Nat}{B:Rows} (h:okM p w B) (hl:l≤w):okM p l (nD l B):=by
 intro r hr
 obtain ⟨x,hx,rfl⟩:=List.mem_map.1 hr
 have:=h x hx
 exact ⟨by simp;omega,fun y hy=>this.2 y (List.mem_of_mem_take hy)⟩
theorem kU {p:Int}{l w:Nat}{B:Rows} (h:okM p w B):okM p (w-l) (sndL l B):=by
 intro r hr
 obtain ⟨x,hx,rfl⟩:=List.mem_map.1 hr
 have:=h x hx
 exact ⟨by simp;omega,fun y hy=>this.2 y (List.mem_of_mem_drop hy)⟩
def oJ (p:Int) (r:List Int):List Int:=r.map fun x=>(p-x) % p
theorem negR_ok {p:Int}{n:Nat}{r:List Int} (hp:2≤p) (h:r.length=n):okR p n (oJ p r):=by
 refine ⟨by simp [oJ,h],fun y hy=>?_⟩
 obtain ⟨x,_,rfl⟩:=List.mem_map.1 hy
 exact nK hp
theorem neg_eq (p x:Int):(0 + -1*x) % p=(p-x) % p:=by
 rw [show (0 + -1*x:Int)=(p-x)-p by omega,Int.sub_emod,Int.emod_self]
 simp
theorem negRow_ {p:Int}{n:Nat}{r:List Int} (hp:2≤p∧p≤97) (hr:okR p n r):xH p (List.replicate n 0) (-1) r=some (oJ p r):=by
 have:=sT (fun x=>x=0) (fun x=>0≤x∧x<p) (fun y x=>(x + -1*y) % p) r (f:=fun (k3:Nat) (s72:List Int)=>
   (idxO r ((k3:Nat):Int)).bind fun a87=>
   (idxO s72 ((k3:Nat):Int)).bind fun a95=>
   (mF (-1) a87).bind fun a97=>
   (sA a95 a97).bind fun a99=>
   (xM p a99).bind fun y101=>
   (setO s72 ((k3:Nat):Int) y101).bind fun a110=>
   some a110) (by
  intro j y x s hy hx hxp hyp hj
  have hx0:x=0:=hxp
  subst hx0
  exact bnd (qA hy) (bnd (qA hx) (bnd (jK (by omega) (by omega)) (bnd (qB (by omega) (by omega)) (bnd (modG hp (by omega)) (bnd (oD _ hj) rfl)))))) r [] [] (List.replicate n 0) rfl rfl (by rw [hr.1];simp) hr.2 (fun x hx=>List.eq_of_mem_replicate hx)
 refine (bnd this rfl:xH p (List.replicate n 0) (-1) r=_).trans ?_
 congr 1
 have hz:∀ (r:List Int),List.zipWith (fun y x=>(x + -1*y) % p) r (List.replicate r.length 0)=oJ p r:=by
  intro r
  induction r with
  | nil=>rfl
  | cons a r ih=>
   show (0 + -1*a) % p::_=_
   rw [neg_eq]
   exact congrArg (List.cons _) ih
 rw [←hr.1]
 simpa using hz r
def lE (p:Int) (l m:Nat) (A B:Rows):Rows:=sndL l A++(nD m B).map (oJ p)
theorem DH_ {p:Int}{l m r:Nat}{A B:Rows} (hp:2≤p) (hA:okM p (l+m) A) (hB:okM p (m+r) B):okM p m (lE p l m A B):=by
 intro x hx
 rcases List.mem_append.1 hx with hx | hx
 ·
  have:=kU hA (l:=l) x hx
  rwa [Nat.add_sub_cancel_left] at this
 ·
  obtain ⟨y,hy,rfl⟩:=List.mem_map.1 hx
  exact negR_ok hp (wU hB (l:=m) (by omega) y hy).1
theorem C7_ (p:Int) (l m:Nat) (A B:Rows):(lE p l m A B).length=A.length+B.length:=by simp [lE,sndL,nD]
theorem Cs_ {p:Int}{l:Nat}:∀ (B:Rows) (c:List Int) (acc:List Int),(wE (fun acc row c=>mE p c acc row) B c acc).take l=wE (fun acc row c=>mE p c acc row) (nD l B) c (acc.take l)
 | [],c,acc=>by simp [wE,nD]
 | r::B,[],acc=>by simp [wE,nD]
 | r::B,x::c,acc=>by
  show (wE _ B c (mE p x acc r)).take l=wE _ (nD l B) c (mE p x (acc.take l) (r.take l))
  rw [Cs_ B c]
  congr 1
  unfold mE
  rw [List.take_zipWith]
theorem Ct_ {p:Int}{l:Nat}:∀ (B:Rows) (c:List Int) (acc:List Int),(wE (fun acc row c=>mE p c acc row) B c acc).drop l=wE (fun acc row c=>mE p c acc row) (sndL l B) c (acc.drop l)
 | [],c,acc=>by simp [wE,sndL]
 | r::B,[],acc=>by simp [wE,sndL]
 | r::B,x::c,acc=>by
  show (wE _ B c (mE p x acc r)).drop l=wE _ (sndL l B) c (mE p x (acc.drop l) (r.drop l))
  rw [Ct_ B c]
  congr 1
  unfold mE
  rw [List.drop_zipWith]
theorem Go_ {p:Int}{l w:Nat} (B:Rows) (c:List Int) (h:l≤w):(iD p w B c).take l=iD p l (nD l B) c:=by
 unfold iD
 rw [Cs_,List.take_replicate,Nat.min_eq_left h]
theorem Gp_ {p:Int}{l w:Nat} (B:Rows) (c:List Int):(iD p w B c).drop l=iD p (w-l) (sndL l B) c:=by
 unfold iD
 rw [Ct_,List.drop_replicate]
theorem nul_ker {p:Int}{m:Nat}{M:Rows} (hf:fdB p=true) (h:okM p m M):vF p M.length (trM M m)=kerM p m M:=by
 have hT:okM p M.length (trM M m):=DO_ h (Nat.le_refl _)
 have key:∀ x,dH p M.length (trM M m) x↔aR p m M x:=by
  intro x
  unfold dH aR
  rw [mQ]
  refine forall_congr' fun i=>forall_congr' fun hi=>?_
  rw [DP_ hi,bD (g:=fun t=>el x t*el (gr M t) i) (fun t ht=>by rw [colM_el ht,Int.mul_comm])]
 refine xY (cC hf).1 (Aa_ hf) (Ad_ hf h) (fun i hi=>?_) (fun i hi=>?_)
 · exact (CQ_ hf h _).2 ((key _).1 ((wT hf hT _).1 (iF hi)))
 · exact (wT hf hT _).2 ((key _).2 ((CQ_ hf h _).1 (iF hi)))
def cmpP (p:Int) (l m r:Nat) (A B:Rows):Rows:=(kerM p m (lE p l m A B)).map fun k=>iD p l (nD l A) (k.take A.length)++iD p r (sndL m B) (k.drop A.length)
def cmpR (p:Int) (l m r:Nat) (A B:Rows):Rows:=bC p (l+r) (cmpP p l m r A B)
theorem AG_ {p:Int}{l m r:Nat}{A B:Rows} (hf:fdB p=true) (hA:okM p (l+m) A) (hB:okM p (m+r) B):okM p (l+r) (cmpP p l m r A B):=by
 have hp:=(cC hf).1
 intro x hx
 obtain ⟨k,hk,rfl⟩:=List.mem_map.1 hx
 have h1:=gU (p:=p) (n:=l) hp (rows:=nD l A) (cs:=k.take A.length) (wU hA (by omega))
 have h2:okR p r (iD p r (sndL m B) (k.drop A.length)):=gU hp (by have:=kU hB (l:=m);rwa [Nat.add_sub_cancel_left] at this)
 exact As_ h1 h2
theorem CP_ {p:Int}{m:Nat}{M:Rows} (hf:fdB p=true) (h:okM p m M):∀ k∈kerM p m M,k.length=M.length∧inP p k:=fun k hk=>(Ad_ hf h).ok k hk
theorem Du_ {p:Int}{m:Nat}{M:Rows} (hf:fdB p=true) (h:okM p m M):(kerM p m M).length≤M.length:=fN hf (Ad_ hf h)
theorem Hk_ {p:Int}{m:Nat} (hp:2≤p∧p≤97) (hm:m≤1000) (Y acc:Rows) (hY:okM p m Y) (hl:acc.length+Y.length≤10000):forS (fun (k22:Nat) (s80:List (List Int))=>
   (idxO Y ((k22:Nat):Int)).bind fun a96=>
   (nG ((a96.length:Nat):Int)).bind fun y100=>
   (xH p y100 (-1) a96).bind fun y105=>
   (tA s80 [y105]).bind fun a111=>
   some a111) Y.length 0 acc=some (acc++Y.map (oJ p)):=by
 have hmx:iB=1099511627776:=rfl
 refine tE (oJ p) Y acc (by omega) (fun j y s hj hs=>?_)
 have hy:=hY y (aD hj)
 have hjl:=(List.getElem?_eq_some_iff.1 hj).1
 refine bnd (qA hj) (bnd (eJ (by omega)) ?_)
 rw [hy.1]
 exact bnd (negRow_ hp hy) (bnd (vB (by simp;omega)) rfl)
theorem GY_ {p:Int}{l m r:Nat}{A B:Rows} (hf:fdB p=true) (hl:l≤100) (hm:m≤100) (hr:r≤100) (hA:okM p (l+m) A) (hB:okM p (m+r) B) (lA:A.length≤1000) (lB:B.length≤1000) :
  rO p ((l:Int),(m:Int),A) ((m:Int),(r:Int),B)=some ((l:Int),(r:Int),cmpR p l m r A B):=by
 have hmx:iB=1099511627776:=rfl
 have hp:=cC hf
 have wA:∀ x∈A,x.length=l+m:=fun x hx=>(hA x hx).1
 have wB:∀ x∈B,x.length=m+r:=fun x hx=>(hB x hx).1
 have e1:=BO_ (R:=((l:Int),(m:Int),A)) rfl wA (by omega) lA
 have e2:=BW_ (R:=((m:Int),(r:Int),B)) rfl wB (by omega) lB
 have e3:=BW_ (R:=((l:Int),(m:Int),A)) rfl wA (by omega) lA
 have e4:=BO_ (R:=((m:Int),(r:Int),B)) rfl wB (by omega) lB
 have hM:=DH_ (p:=p) (l:=l) (m:=m) (r:=r) hp.1 hA hB
 have lM:=C7_ p l m A B
 have lf:(nD l A).length=A.length:=by simp [nD]
 have n1:=Hk_ hp (by omega) (nD m B) (sndL l A) (wU hB (by omega)) (by simp [nD,sndL];omega)
 have hK:=kernel_ hf (by omega:m≤1048576) hM (by omega)
 have lK:=Du_ hf hM
 have rK:=CP_ hf hM
 have fA:sK p l (nD l A):=wU hA (by omega)
 have sB:sK p r (sndL m B):=by have:=kU hB (l:=m);rwa [Nat.add_sub_cancel_left] at this
 have ls:(sndL m B).length=B.length:=by simp [sndL]
 have hloop:=tE (f:=fun (k249:Nat) (s401:List (List Int))=>
   (idxO (kerM p m (lE p l m A B)) ((k249:Nat):Int)).bind fun a417=>
   (fB a417 0 (((nD l A).length:Nat):Int)).bind fun a422=>
   (oM p a422 (nD l A) (l:Int)).bind fun y426=>
   (fB a417 (((nD l A).length:Nat):Int) ((a417.length:Nat):Int)).bind fun a432=>
   (oM p a432 (sndL m B) (r:Int)).bind fun y436=>
   (vG [y426,y436]).bind fun y446=>
   (tA s401 [y446]).bind fun a454=>
   some a454) (fun k=>iD p l (nD l A) (k.take A.length)++iD p r (sndL m B) (k.drop A.length)) (kerM p m (lE p l m A B)) [] (by simp;omega) (fun j k s hj hs=>by
  have hk:=rK k (aD hj)
  have hjl:=(List.getElem?_eq_some_iff.1 hj).1
  have s1:fB k 0 (((nD l A).length:Nat):Int)=some (k.take A.length):=by
   unfold fB;rw [if_pos ⟨by omega,by omega,by omega⟩,lf];simp
  have s2:fB k (((nD l A).length:Nat):Int) ((k.length:Nat):Int)=some (k.drop A.length):=by
   unfold fB;rw [if_pos ⟨by omega,by omega,by omega⟩,lf]
   simp only [Int.toNat_natCast]
   rw [List.take_of_length_le (by simp)]
  have c1:=C6_ hp (by omega:l≤iB) fA (cs:=k.take A.length) (fun x hx=>hk.2 x (List.mem_of_mem_take hx)) (by rw [lf];simp;omega)
  have c2:=C6_ hp (by omega:r≤iB) sB (cs:=k.drop A.length) (fun x hx=>hk.2 x (List.mem_of_mem_drop hx)) (by rw [ls];simp;omega)
  have hj2:=pQ (l:=[iD p l (nD l A) (k.take A.length),iD p r (sndL m B) (k.drop A.length)]) (by simp [c1.2.1,c2.2.1];omega)
  refine bnd (qA hj) (bnd s1 (bnd c1.1 (bnd s2 (bnd c2.1 (bnd hj2 (bnd (vB (by simp at hs ⊢;omega)) ?_))))))
  simp)
 have hred:=uT hf (Nat.le_refl (l+r)) (by omega) (AG_ hf hA hB) (m:=cmpP p l m r A B) (by simp [cmpP];omega)
 refine bnd e1 (bnd e2 (bnd n1 (bnd (bnd e3 (bnd e4 rfl)) (bnd hK (bnd hloop ?_)))))
 refine bnd (bnd (qB (by dsimp only;omega) (by dsimp only;omega)) (bnd ?_ rfl)) rfl
 dsimp only
 rw [show ((l:Int)+(r:Int))=((l+r:Nat):Int) by omega]
 exact hred
theorem Hw_ {p:Int}{l m r:Nat}{A B:Rows} (hA:okM p (l+m) A) (hB:okM p (m+r) B){j:Nat} (hj:j<m):cF (lE p l m A B) j=A.map (fun x=>el x (l+j))++B.map (fun x=>(p-el x j) % p):=by
 unfold cF lE sndL nD
 rw [List.map_append,List.map_map,List.map_map,List.map_map]
 congr 1
 ·
  refine List.map_congr_left fun x hx=>?_
  show el (x.drop l) j=el x (l+j)
  unfold el
  rw [List.getD_eq_getElem?_getD,List.getD_eq_getElem?_getD,List.getElem?_drop]
 ·
  refine List.map_congr_left fun x hx=>?_
  have hx:=(hB x hx).1
  show el (oJ p (x.take m)) j=(p-el x j) % p
  unfold oJ el
  rw [List.getD_eq_getElem?_getD,List.getD_eq_getElem?_getD,List.getElem?_map,List.getElem?_take,if_pos hj,List.getElem?_eq_getElem (by omega)]
  rfl
theorem F6_ {p:Int}{l m r:Nat}{A B:Rows} (hf:fdB p=true) (hl:l≤100) (hm:m≤100) (hr:r≤100) (hA:okM p (l+m) A) (hB:okM p (m+r) B) (lA:A.length≤1000) (lB:B.length≤1000) :
  jO p ((l:Int),(m:Int),A) ((m:Int),(r:Int),B)=some ((l:Int),(r:Int),cmpR p l m r A B):=by
 have hmx:iB=1099511627776:=rfl
 have hp:=cC hf
 have hM:=DH_ (p:=p) (l:=l) (m:=m) (r:=r) hp.1 hA hB
 have lM:=C7_ p l m A B
 have hlen:(List.replicate m ([]:List Int)).length=m:=List.length_replicate
 have hrows:forS (fun (k17:Nat) (s676:List (List Int))=>
   (forS (fun (k685:Nat) (s786:List (List Int))=>
     (idxO A ((k685:Nat):Int)).bind fun a801=>
     (idxO s786 ((k17:Nat):Int)).bind fun a812=>
     (sA (l:Int) ((k17:Nat):Int)).bind fun a815=>
     (idxO a801 a815).bind fun a823=>
     (tA a812 [a823]).bind fun a829=>
     (setO s786 ((k17:Nat):Int) a829).bind fun a841=>
     some a841) A.length 0 s676).bind fun (s845:List (List Int))=>
   (forS (fun (k847:Nat) (s950:List (List Int))=>
     (idxO B ((k847:Nat):Int)).bind fun a965=>
     (idxO s950 ((k17:Nat):Int)).bind fun a976=>
     (idxO a965 ((k17:Nat):Int)).bind fun a985=>
     (tM p a985).bind fun y987=>
     (tA a976 [y987]).bind fun a994=>
     (setO s950 ((k17:Nat):Int) a994).bind fun a1006=>
     some a1006) B.length 0 s845).bind fun (s1010:List (List Int))=>
   some s1010) (List.replicate m ([]:List Int)).length 0 (List.replicate m ([]:List Int))=some (trM (lE p l m A B) m):=by
  refine (gD (fun j=>gC (fun j _=>cF (lE p l m A B) j) (List.replicate m ([]:List Int)) j) ?_).trans (by rw [uQ];rfl)
  intro j hj
  have hj':j<m:=by rw [hlen] at hj;exact hj
  have hpl:j<(gC (fun j _=>cF (lE p l m A B) j) (List.replicate m ([]:List Int)) j).length:=by rw [iH];exact hj
  have hg:gr (gC (fun j _=>cF (lE p l m A B) j) (List.replicate m ([]:List Int)) j) j=[]:=by
   rw [mK hj,if_neg (by omega)]
   unfold gr;rw [List.getD_eq_getElem?_getD,List.getElem?_replicate,if_pos hj'];rfl
  have e1:gC (fun j _=>cF (lE p l m A B) j) (List.replicate m ([]:List Int)) j=(gC (fun j _=>cF (lE p l m A B) j) (List.replicate m ([]:List Int)) j).set j ((A.take 0).map fun x=>el x (l+j)):=by
   conv=>lhs;rw [←wL hpl,hg]
   rfl
  have e2:=lT (g:=fun j _=>cF (lE p l m A B) j) (m:=List.replicate m ([]:List Int)) hj
  have e3:=Hw_ (p:=p) (l:=l) (r:=r) hA hB hj'
  rw [e3] at e2
  rw [←e2]
  generalize gC (fun j _=>cF (lE p l m A B) j) (List.replicate m ([]:List Int)) j=Z at hpl hg e1 ⊢
  rw [e1]
  refine bnd (a:=Z.set j (A.map fun x=>el x (l+j))) ?_ (bnd (a:=Z.set j (A.map (fun x=>el x (l+j))++B.map fun x=>(p-el x j) % p)) ?_ ?_)
  ·
   refine (gD (fun k=>Z.set j ((A.take k).map fun x=>el x (l+j))) ?_).trans (by rw [List.take_length])
   intro k hk
   have hset:j<(Z.set j ((A.take k).map fun x=>el x (l+j))).length:=by rw [List.length_set];exact hpl
   have hw:=(hA _ (zL hk)).1
   refine bnd (lD hk) (bnd (lD hset) (bnd (a:=((l+j:Nat):Int)) (by rw [qB (by omega) (by omega)];congr 1) (bnd (iE (by omega)) ?_)))
   rw [gI hpl,if_pos rfl]
   refine bnd (vB (by simp;omega)) (bnd (oD _ hset) ?_)
   rw [List.set_set,List.take_add_one,uE hk,List.map_append]
   rfl
  ·
   have e4:Z.set j (A.map fun x=>el x (l+j))=Z.set j (A.map (fun x=>el x (l+j))++(B.take 0).map fun x=>(p-el x j) % p):=by simp
   rw [e4]
   refine (gD (fun k=>Z.set j (A.map (fun x=>el x (l+j))++(B.take k).map fun x=>(p-el x j) % p)) ?_).trans (by rw [List.take_length])
   intro k hk
   have hset:j<(Z.set j (A.map (fun x=>el x (l+j))++(B.take k).map fun x=>(p-el x j) % p)).length:=by rw [List.length_set];exact hpl
   have hw:=hB _ (zL hk)
   have hel:=mH hB hk (c:=j) (by omega)
   refine bnd (lD hk) (bnd (lD hset) (bnd (iE (by omega)) (bnd (AU_ hp hel) ?_)))
   rw [gI hpl,if_pos rfl]
   refine bnd (vB (by simp;omega)) (bnd (oD _ hset) ?_)
   rw [List.set_set,List.take_add_one,uE hk,List.map_append,← List.append_assoc]
   rfl
  · rw [List.set_set]
 have hT:okM p (lE p l m A B).length (trM (lE p l m A B) m):=DO_ hM (Nat.le_refl _)
 have hN:=Dk_ (n:=(lE p l m A B).length) hf (by omega) hT (by rw [mQ];omega)
 rw [nul_ker hf hM,lM] at hN
 have lK:=Du_ hf hM
 have rK:=CP_ hf hM
 have sB:okM p (m+r-m) (sndL m B):=kU hB
 have hloop:=tE (f:=fun (k1023:Nat) (s1216:List (List Int))=>
   (idxO (kerM p m (lE p l m A B)) ((k1023:Nat):Int)).bind fun a1233=>
   (sA (l:Int) (m:Int)).bind fun a1238=>
   (fB a1233 0 ((A.length:Nat):Int)).bind fun a1240=>
   (sM p a1238 A a1240).bind fun y1244=>
   (sA (m:Int) (r:Int)).bind fun a1250=>
   (fB a1233 ((A.length:Nat):Int) ((a1233.length:Nat):Int)).bind fun a1252=>
   (sM p a1250 B a1252).bind fun y1256=>
   (fB y1256 (m:Int) ((y1256.length:Nat):Int)).bind fun a1262=>
   (fB y1244 0 (l:Int)).bind fun a1266=>
   (vI a1266).bind fun y1270=>
   (tA y1270 a1262).bind fun a1275=>
   (tA s1216 [a1275]).bind fun a1283=>
   some a1283) (fun k=>iD p l (nD l A) (k.take A.length)++iD p r (sndL m B) (k.drop A.length)) (kerM p m (lE p l m A B)) [] (by simp;omega) (fun j k s hj hs=>by
  have hk:=rK k (aD hj)
  have hjl:=(List.getElem?_eq_some_iff.1 hj).1
  have s1:fB k 0 ((A.length:Nat):Int)=some (k.take A.length):=by
   unfold fB;rw [if_pos ⟨by omega,by omega,by omega⟩];simp
  have s2:fB k ((A.length:Nat):Int) ((k.length:Nat):Int)=some (k.drop A.length):=by
   unfold fB;rw [if_pos ⟨by omega,by omega,by omega⟩]
   simp only [Int.toNat_natCast]
   rw [List.take_of_length_le (by simp)]
  have c1:=DU_ hp (by omega:l+m≤iB) hA (cs:=k.take A.length) (fun x hx=>hk.2 x (List.mem_of_mem_take hx)) (by simp;omega)
  have c2:=DU_ hp (by omega:m+r≤iB) hB (cs:=k.drop A.length) (fun x hx=>hk.2 x (List.mem_of_mem_drop hx)) (by simp;omega)
  have o1:=gU (p:=p) (n:=l+m) hp.1 (rows:=A) (cs:=k.take A.length) hA
  have o2:=gU (p:=p) (n:=m+r) hp.1 (rows:=B) (cs:=k.drop A.length) hB
  have t1:=Go_ (p:=p) A (k.take A.length) (show l≤l+m by omega)
  have t2:=Gp_ (p:=p) (l:=m) (w:=m+r) B (k.drop A.length)
  rw [Nat.add_sub_cancel_left] at t2
  have s3:fB (iD p (m+r) B (k.drop A.length)) (m:Int) (((iD p (m+r) B (k.drop A.length)).length:Nat):Int)=some (iD p r (sndL m B) (k.drop A.length)):=by
   unfold fB;rw [if_pos ⟨by omega,by rw [o2.1];omega,by omega⟩]
   simp only [Int.toNat_natCast]
   rw [List.take_of_length_le (by simp),t2]
  have s4:fB (iD p (l+m) A (k.take A.length)) 0 (l:Int)=some (iD p l (nD l A) (k.take A.length)):=by
   unfold fB;rw [if_pos ⟨by omega,by omega,by rw [o1.1];omega⟩]
   simp [t1]
  have lx:(iD p l (nD l A) (k.take A.length)).length=l:=by rw [←t1];simp [o1.1]
  have lz:(iD p r (sndL m B) (k.drop A.length)).length=r:=by rw [←t2];simp [o2.1]
  have a1:sA (l:Int) (m:Int)=some ((l+m:Nat):Int):=by rw [qB (by omega) (by omega)];congr 1
  have a2:sA (m:Int) (r:Int)=some ((m+r:Nat):Int):=by rw [qB (by omega) (by omega)];congr 1
  refine bnd (qA hj) (bnd a1 (bnd s1 (bnd c1 (bnd a2 (bnd s2 (bnd c2 (bnd s3 (bnd s4 (bnd (own_ (by omega)) (bnd (vB (by omega)) (bnd (vB (by simp at hs ⊢;omega)) rfl))))))))))))
 have hred:=vP hf (Nat.le_refl (l+r)) (by omega) (AG_ hf hA hB) (m:=cmpP p l m r A B) (by simp [cmpP];omega)
 refine bnd (bI [] (by omega)) (bnd hrows (bnd (a:=((A.length+B.length:Nat):Int)) (by rw [qB (by dsimp only;omega) (by dsimp only;omega)];congr 1) (bnd hN (bnd hloop ?_))))
 refine bnd (bnd (qB (by dsimp only;omega) (by dsimp only;omega)) (bnd ?_ rfl)) rfl
 dsimp only
 rw [show ((l:Int)+(r:Int))=((l+r:Nat):Int) by omega]
 exact hred
end Go.Proofs.YtlggnmkelgplnaaGreatDoor
namespace Go.Proofs.YtlggnmkelgplnaaGreatDoor
abbrev Edg:=Int×Int×List Int×List Int
abbrev Gra:=Int×List Edg×List Int×List Int
def cB {α:Type} (n:Nat) (f:Nat→α):List α:=(List.range n).map f
theorem zE {α:Type} (n:Nat) (f:Nat→α):(cB n f).length=n:=by simp [cB]
theorem rT {α:Type}{n k:Nat} (f:Nat→α) (h:k<n):(cB n f)[k]?=some (f k):=by
 unfold cB;rw [List.getElem?_map,List.getElem?_range h];rfl
theorem aE {α:Type}{n k:Nat} (f:Nat→α) (h:k<n):idxO (cB n f) (k:Int)=some (f k):=qA (rT f h)
theorem bE {α:Type}{n:Nat}{f g:Nat→α} (h:∀ k,k<n→f k=g k):cB n f=cB n g:=by
 unfold cB;exact List.map_congr_left fun k hk=>h k (List.mem_range.1 hk)
theorem G6_ {α:Type}{n m:Nat} (f:Nat→α) (v:α):(cB n f).set m v=cB n (fun k=>if k=m then v else f k):=by
 apply List.ext_getElem?
 intro j
 rw [List.getElem?_set]
 by_cases hj:j<n
 ·
  rw [rT _ hj,rT _ hj]
  by_cases hm:m=j
  · rw [if_pos hm,if_pos hm.symm,if_pos (by rw [zE];omega)]
  · rw [if_neg hm,if_neg (fun h=>hm h.symm)]
 ·
  rw [List.getElem?_eq_none (by rw [zE];omega),List.getElem?_eq_none (by rw [zE];omega)]
  split <;> simp [zE] <;> omega
theorem yE {α:Type}{n m:Nat} (f:Nat→α) (v:α) (h:m<n):setO (cB n f) (m:Int) v=some (cB n (fun k=>if k=m then v else f k)):=by
 rw [oD _ (by rw [zE];exact h),G6_]
theorem uZ {α:Type} (n:Nat) (z:α):List.replicate n z=cB n (fun _=>z):=by
 apply List.ext_getElem?
 intro j
 by_cases hj:j<n
 · rw [rT _ hj,List.getElem?_replicate,if_pos hj]
 · rw [List.getElem?_replicate,if_neg hj,List.getElem?_eq_none (by rw [zE];omega)]
theorem zI {α:Type}{n:Nat} (z:α) (h:n≤iB):mD (n:Int) z=some (cB n fun _=>z):=by rw [bI z h,uZ]
def xF (k v:Int):Bool:=rng k 3 14&&(if k=7∨k=13 then rng v 0 96 else decide (v=0))
def kd (k:Int):Int×Int:=if k=2 then (2,2) else if k=3∨k=11 then (1,2) else if k=4∨k=12 then (1,0) else if k=5∨k=9 then (2,1) else if k=6∨k=10 then (0,1) else (1,1)
def arB (e:Edg):Bool:=xF e.1 e.2.1&&(decide ((e.2.2.1.length:Int)=(kd e.1).1)&&decide ((e.2.2.2.length:Int)=(kd e.1).2))
def wOk (n:Int) (l:List Int):Bool:=l.all fun x=>rng x 0 (n-1)
theorem tmKind_ (k:Int):pM k=some (kd k):=by
 unfold pM kd
 by_cases h2:k=2
 · simp [h2]
 by_cases h3:k=3∨k=11
 · rcases h3 with h3 | h3 <;> simp [h3]
 by_cases h4:k=4∨k=12
 · rcases h4 with h3 | h3 <;> simp [h3]
 by_cases h5:k=5∨k=9
 · rcases h5 with h3 | h3 <;> simp [h3]
 by_cases h6:k=6∨k=10
 · rcases h6 with h3 | h3 <;> simp [h3]
 rw [if_neg h2,if_neg h3,if_neg h4,if_neg h5,if_neg h6]
 simp only [not_or] at *
 simp [*]
theorem qP {k v:Int} (hk:rng k 3 14=true):uG (k,v,.empty)=some (xF k v):=by
 have hr:=rng_true.1 hk
 unfold uG xF
 have h1:rng k 1 14=true:=rng_true.2 (by omega)
 by_cases h7:k=7
 · subst h7;simp [l1In,h1,hk]
 by_cases h13:k=13
 · subst h13;simp [l1In,h1,hk]
 have h0:¬k=1:=by omega
 simp [l1In,h1,hk,h7,h13,h0]
theorem hgEdge_ (e:Edg){n:Int} (h0:0≤n) (h1:n≤100):gS e n=some (arB e&&(wOk n e.2.2.1&&wOk n e.2.2.2)):=by
 obtain ⟨k,v,a,b⟩:=e
 unfold gS arB
 have hs:subO n 1=some (n-1):=cD (by omega) (by omega)
 cases hk:rng k 3 14 with
 | false=>
  have:xF k v=false:=by unfold xF;rw [hk];rfl
  simp [l1In,hk,this]
 | true=>
  cases hg:xF k v with
  | false=>simp [l1In,hk,qP hk,hg]
  | true=>
   by_cases ha:(a.length:Int)=(kd k).1
   ·
    by_cases hb:(b.length:Int)=(kd k).2
    ·
     cases hw:wOk n a with
     | false=>unfold wOk at hw;simp [l1In,hk,qP hk,hg,tmKind_,ha,hb,hs,l1All,hw]
     | true=>unfold wOk at hw;simp [l1In,hk,qP hk,hg,tmKind_,ha,hb,hs,l1All,hw,wOk]
    · simp [l1In,hk,qP hk,hg,tmKind_,ha,hb]
   · simp [l1In,hk,qP hk,hg,tmKind_,ha]
theorem qW {k v:Int} (hk:rng k 3 14=true):dO k v=some (xF k v):=by
 unfold dO kM xF
 by_cases h7:k=7
 · subst h7;simp [within_,hk]
 by_cases h13:k=13
 · subst h13;simp [within_,hk]
 simp [hk,h7,h13]
theorem nO {k:Int} (hk:rng k 3 14=true):bL k=some (kd k):=by
 have hr:=rng_true.1 hk
 have:k=3∨k=4∨k=5∨k=6∨k=7∨k=8∨k=9∨k=10∨k=11∨k=12∨k=13∨k=14:=by omega
 rcases this with rfl | rfl | rfl | rfl | rfl | rfl | rfl | rfl | rfl | rfl | rfl | rfl <;> rfl
theorem isEdge_ (e:Edg):sR e=some (arB e):=by
 obtain ⟨k,v,a,b⟩:=e
 unfold sR arB iM
 cases hk:rng k 3 14 with
 | false=>
  have:xF k v=false:=by unfold xF;rw [hk];rfl
  simp [within_,hk,this]
 | true=>
  cases hg:xF k v with
  | false=>simp [within_,hk,qW hk,hg]
  | true=>
   simp only [within_,hk,qW hk,hg,nO hk,Option.bind_some,Bool.not_true,cond_false,Bool.true_and]
   congr 1
   rw [←Bool.decide_and]
   refine decide_eq_decide.2 ?_
   simp only [List.cons.injEq,and_true]
   exact ⟨fun ⟨x,y⟩=>⟨x.symm,y.symm⟩,fun ⟨x,y⟩=>⟨x.symm,y.symm⟩⟩
def edI (e:Edg):List Int:=e.2.2.1
def edO (e:Edg):List Int:=e.2.2.2
theorem hU {n:Nat} (l:List Int) (f:Nat→Int) (hl:∀ x∈l,0≤x∧x<(n:Int)) (B:Int) (hf:∀ k,k<n→0≤f k∧f k+l.length≤B) (hB:B≤4611686018427387904){g:Nat→List Int→Option (List Int)}
  (hg:∀ k s,g k s=((idxO l (k:Int)).bind fun a=>(idxO s a).bind fun b=>(sA b 1).bind fun c=>(setO s a c).bind fun t=>some t)) :
  forS g l.length 0 (cB n f)=some (cB n fun k=>f k+(l.count (k:Int):Nat)):=by
 have:=gD (f:=g) (n:=l.length) (fun j=>cB n fun k=>f k+((l.take j).count (k:Int):Nat)) (fun j hj=>by
  rw [hg]
  have hm:=hl l[j] (List.getElem_mem hj)
  obtain ⟨m,hme⟩:∃ m:Nat,l[j]=(m:Int):=⟨l[j].toNat,by omega⟩
  have hmn:m<n:=by omega
  refine bnd (qA (List.getElem?_eq_getElem hj)) ?_
  rw [hme]
  have hb:=hf m hmn
  have hc:((l.take j).count (m:Int))≤j:=Nat.le_trans List.count_le_length (by simp;omega)
  refine bnd (aE _ hmn) (bnd (qB (by omega) (by omega)) (bnd (yE _ _ hmn) (congrArg some (bE fun k hk=>?_))))
  rw [List.take_add_one,List.getElem?_eq_getElem hj,List.count_append,hme]
  by_cases h:k=m
  · subst h;simp;omega
  ·
   rw [if_neg h]
   have:¬(m:Int)=(k:Int):=by omega
   simp [this])
 have e0:(fun k=>f k+(((l.take 0).count ((k:Nat):Int):Nat):Int))=f:=by funext k;simp
 rw [List.take_length] at this
 rw [←this]
 congr 2
 exact e0.symm
def gE (E:List Edg) (s:Edg→List Int) (k:Nat):Nat:=((E.map s).flatten).count (k:Int)
def eD (E:List Edg) (s:Edg→List Int):Nat:=((E.map s).flatten).length
theorem jN {n:Nat}{l:List Int} (h:wOk n l=true):∀ x∈l,0≤x∧x<(n:Int):=by
 intro x hx
 have:=rng_true.1 (List.all_eq_true.1 h x hx)
 omega
def kD (g:Gra):List Int:=g.2.2.1++g.2.2.2++(g.2.1.map fun e=>edI e++edO e).flatten
def edW (n:Int) (e:Edg):Bool:=arB e&&(wOk n (edI e)&&wOk n (edO e))
def gOk (g:Gra):Bool:=rng g.1 0 100&&(decide (g.2.1.length≤60)&&(decide (g.2.2.1.length≤12)&&(decide (g.2.2.2.length≤12)&&(wOk g.1 g.2.2.1&&(wOk g.1 g.2.2.2&&(g.2.1.all (edW g.1)&&(List.range g.1.toNat).all fun k:Nat=>decide ((k:Int)∈kD g)))))))
theorem kd_le (k:Int):0≤(kd k).1∧(kd k).1≤2∧0≤(kd k).2∧(kd k).2≤2:=by
 unfold kd
 split <;> first | (refine ⟨?_,?_,?_,?_⟩ <;> decide) | skip
 split <;> first | (refine ⟨?_,?_,?_,?_⟩ <;> decide) | skip
 split <;> first | (refine ⟨?_,?_,?_,?_⟩ <;> decide) | skip
 split <;> first | (refine ⟨?_,?_,?_,?_⟩ <;> decide) | skip
 split <;> (refine ⟨?_,?_,?_,?_⟩ <;> decide)
theorem arB_len {e:Edg} (h:arB e=true):(edI e).length≤2∧(edO e).length≤2:=by
 unfold arB at h
 simp only [Bool.and_eq_true,decide_eq_true_eq] at h
 have:=kd_le e.1
 unfold edI edO
 omega
theorem Cq_ {n:Nat}{E:List Edg}{I O:List Int} (hn:n≤1048576) (hI:∀ x∈I,0≤x∧x<(n:Int)) (hO:∀ x∈O,0≤x∧x<(n:Int)) (hE:∀ e∈E,(∀ x∈edI e,0≤x∧x<(n:Int))∧(∀ x∈edO e,0≤x∧x<(n:Int)))
  (hB:I.length+O.length+eD E edI+eD E edO≤1099511627776) :
  vR ((n:Int),E,I,O)=some (cB n (fun k=>((I.count (k:Int)+gE E edO k:Nat):Int)),cB n (fun k=>((O.count (k:Int)+gE E edI k:Nat):Int))):=by
 have hm:iB=1099511627776:=rfl
 refine bnd (zI _ (by omega)) (bnd (zI _ (by omega)) ?_)
 have hc:∀ (l:List Int) (k:Nat),l.count (k:Int)≤l.length:=fun l k=>List.count_le_length
 refine bnd (hU I (fun _=>0) hI 1099511627776 (fun k _=>by omega) (by omega) (fun _ _=>rfl)) ?_
 refine bnd (hU O (fun _=>0) hO 1099511627776 (fun k _=>by omega) (by omega) (fun _ _=>rfl)) ?_
 have key:=gD (n:=E.length) (fun j=>(cB n (fun k=>((I.count (k:Int)+gE (E.take j) edO k:Nat):Int)),cB n (fun k=>((O.count (k:Int)+gE (E.take j) edI k:Nat):Int)))) (f:=fun (k215:Nat) (s652:List Int×List Int)=>
   (idxO E ((k215:Nat):Int)).bind fun a667=>
   (forS (fun (k679:Nat) (s738:List Int)=>
     (idxO a667.2.2.2 ((k679:Nat):Int)).bind fun a753=>
     (idxO s738 a753).bind fun a761=>
     (sA a761 1).bind fun a763=>
     (setO s738 a753 a763).bind fun a771=>
     some a771) a667.2.2.2.length 0 s652.1).bind fun (s776:List Int)=>
   (forS (fun (k778:Nat) (s837:List Int)=>
     (idxO a667.2.2.1 ((k778:Nat):Int)).bind fun a852=>
     (idxO s837 a852).bind fun a860=>
     (sA a860 1).bind fun a862=>
     (setO s837 a852 a862).bind fun a870=>
     some a870) a667.2.2.1.length 0 s652.2).bind fun (s875:List Int)=>
   some (s776,s875)) (fun j hj=>by
  have he:=hE _ (List.getElem_mem hj)
  have hsum:∀ s:Edg→List Int,eD (E.take (j+1)) s=eD (E.take j) s+(s E[j]).length:=fun s=>by
   unfold eD;rw [List.take_add_one,List.getElem?_eq_getElem hj,List.map_append,List.flatten_append,List.length_append];simp only [Option.toList_some,List.map_cons,List.map_nil,List.flatten_cons,List.flatten_nil,List.append_nil]
  have hle:∀ s:Edg→List Int,eD (E.take (j+1)) s≤eD E s:=fun s=>by
   unfold eD
   have:E=E.take (j+1)++E.drop (j+1):=(List.take_append_drop _ _).symm
   conv=>rhs;rw [this]
   rw [List.map_append,List.flatten_append,List.length_append];omega
  have hct:∀ (s:Edg→List Int) (k:Nat),gE (E.take j) s k≤eD (E.take j) s:=fun s k=>List.count_le_length
  have hcs:∀ (s:Edg→List Int) (k:Nat),gE (E.take (j+1)) s k=gE (E.take j) s k+(s E[j]).count (k:Int):=fun s k=>by
   unfold gE;rw [List.take_add_one,List.getElem?_eq_getElem hj,List.map_append,List.flatten_append,List.count_append];simp only [Option.toList_some,List.map_cons,List.map_nil,List.flatten_cons,List.flatten_nil,List.append_nil]
  have h1:=hsum edI;have h2:=hsum edO;have h3:=hle edI;have h4:=hle edO
  refine bnd (qA (List.getElem?_eq_getElem hj)) ?_
  refine bnd (hU (edO E[j]) _ he.2 1099511627776 (fun k _=>by have:=hct edO k;have:=hc I k;omega) (by omega) (fun _ _=>rfl)) ?_
  refine bnd (hU (edI E[j]) _ he.1 1099511627776 (fun k _=>by have:=hct edI k;have:=hc O k;omega) (by omega) (fun _ _=>rfl)) ?_
  refine congrArg some (Prod.ext (bE fun k hk=>?_) (bE fun k hk=>?_))
  · rw [hcs];push_cast;omega
  · rw [hcs];push_cast;omega)
 have e1:∀ (l:List Int) (s:Edg→List Int),cB n (fun k=>(0:Int)+(l.count (k:Int):Nat))=cB n (fun k=>((l.count (k:Int)+gE (E.take 0) s k:Nat):Int)):=fun l s=>bE fun k hk=>by
  unfold gE;simp
 rw [e1 I edO,e1 O edI]
 refine bnd key ?_
 rw [List.take_length]
theorem all_app (n:Int) (a b:List Int):wOk n (a++b)=(wOk n a&&wOk n b):=by unfold wOk;rw [List.all_append]
theorem xU {n:Int}{E:List Edg} (h:E.all (edW n)=true):E.all arB=true:=by
 rw [List.all_eq_true] at h ⊢
 intro e he
 have:=h e he
 unfold edW at this
 simp only [Bool.and_eq_true] at this
 exact this.1
theorem Dc_ {E:List Edg} (h:E.all arB=true):eD E edI≤2*E.length∧eD E edO≤2*E.length:=by
 induction E with
 | nil=>exact ⟨Nat.le_refl _,Nat.le_refl _⟩
 | cons e E ih=>
  simp only [List.all_cons,Bool.and_eq_true] at h
  have h1:=arB_len h.1
  have h2:=ih h.2
  unfold eD at h2 ⊢
  simp only [List.map_cons,List.flatten_cons,List.length_append,List.length_cons]
  omega
theorem pU {E:List Edg}{s:Edg→List Int}{k:Nat}:gE E s k=0↔¬∃ e∈E,(k:Int)∈s e:=by
 unfold gE
 rw [List.count_eq_zero,List.mem_flatten]
 constructor
 · rintro h ⟨e,he,hk⟩;exact h ⟨s e,List.mem_map.2 ⟨e,he,rfl⟩,hk⟩
 ·
  rintro h ⟨l,hl,hk⟩
  obtain ⟨e,he,rfl⟩:=List.mem_map.1 hl
  exact h ⟨e,he,hk⟩
theorem CL_ {g:Gra}{k:Int}:k∈kD g↔k∈g.2.2.1∨k∈g.2.2.2∨∃ e∈g.2.1,k∈edI e∨k∈edO e:=by
 unfold kD
 rw [List.mem_append,List.mem_append,List.mem_flatten]
 constructor
 ·
  rintro ((h | h) | ⟨l,hl,h⟩)
  · exact .inl h
  · exact .inr (.inl h)
  ·
   obtain ⟨e,he,rfl⟩:=List.mem_map.1 hl
   exact .inr (.inr ⟨e,he,List.mem_append.1 h⟩)
 ·
  rintro (h | h | ⟨e,he,h⟩)
  · exact .inl (.inl h)
  · exact .inl (.inr h)
  · exact .inr ⟨_,List.mem_map.2 ⟨e,he,rfl⟩,List.mem_append.2 h⟩
theorem DE_ {n:Nat}{E:List Edg} (h:E.all (edW n)=true):∀ e∈E,(∀ x∈edI e,0≤x∧x<(n:Int))∧(∀ x∈edO e,0≤x∧x<(n:Int)):=by
 intro e he
 have:=List.all_eq_true.1 h e he
 unfold edW at this
 simp only [Bool.and_eq_true] at this
 exact ⟨jN this.2.1,jN this.2.2⟩
theorem CT_ (g:Gra):uO g=some (gOk g):=by
 obtain ⟨n,E,I,O⟩:=g
 unfold uO gOk
 cases hr:rng n 0 100 with
 | false=>simp [l1In,hr]
 | true=>
  have hn:=rng_true.1 hr
  have hs:subO n 1=some (n-1):=cD (by omega) (by omega)
  by_cases hE:E.length≤60
  case neg=>
   have:(60:Int)<(E.length:Int):=by omega
   simp [l1In,hr,hE,this]
  have hE':¬(60:Int)<(E.length:Int):=by omega
  by_cases hI:I.length≤12
  case neg=>
   have:(12:Int)<(I.length:Int):=by omega
   simp [l1In,hr,hE,hE',hI,this]
  have hI':¬(12:Int)<(I.length:Int):=by omega
  by_cases hO:O.length≤12
  case neg=>
   have:(12:Int)<(O.length:Int):=by omega
   simp [l1In,hr,hE,hE',hI,hI',hO,this]
  have hO':¬(12:Int)<(O.length:Int):=by omega
  cases hwI:wOk n I with
  | false=>unfold wOk at hwI;simp [l1In,hr,hE,hE',hI,hI',hO,hO',hs,l1All,hwI]
  | true=>
  cases hwO:wOk n O with
  | false=>unfold wOk at hwI hwO;simp [l1In,hr,hE,hE',hI,hI',hO,hO',hs,l1All,hwO]
  | true=>
  have hl1:xJ I 0 (n-1)=some true:=by rw [l1All];exact congrArg some hwI
  have hl2:xJ O 0 (n-1)=some true:=by rw [l1All];exact congrArg some hwO
  simp only [l1In,hr,dF hE',dF hI',dF hO',dT hE,dT hI,dT hO,hs,hl1,hl2,Option.bind_some,Bool.not_true,cond_false,Bool.true_and]
  refine sqW (zG (edW n) E 0 ?_ (t:=false)) ?_
  ·
   intro j e hj
   rw [Nat.zero_add]
   refine bnd (qA hj) (bnd (hgEdge_ e hn.1 hn.2) (stp ?_))
   have:(arB e&&(wOk n e.2.2.1&&wOk n e.2.2.2))=edW n e:=rfl
   rw [this]
   cases edW n e <;> rfl
  ·
   cases hall:E.all (edW n) with
   | false=>rfl
   | true=>
    rw [if_pos rfl,fI]
    obtain ⟨m,rfl⟩:∃ m:Nat,n=(m:Int):=⟨n.toNat,by omega⟩
    have h2:=Dc_ (xU hall)
    refine bnd (Cq_ (by omega) (jN hwI) (jN hwO) (DE_ hall) (by omega)) ?_
    dsimp only
    have hlen:∀ f:Nat→Int,(cB m f).length=(List.range m).length:=fun f=>by rw [zE,List.length_range]
    rw [hlen]
    refine sqW (zG (fun k:Nat=>decide ((k:Int)∈kD ((m:Int),E,I,O))) (List.range m) 0 ?_ (t:=false)) ?_
    ·
     intro j k hj
     obtain ⟨hjm,hje⟩:=List.getElem?_eq_some_iff.1 hj
     rw [List.getElem_range] at hje
     subst hje
     rw [List.length_range] at hjm
     rw [Nat.zero_add]
     have c1:I.count (j:Int)≤I.length:=List.count_le_length
     have c2:O.count (j:Int)≤O.length:=List.count_le_length
     have c3:gE E edI j≤eD E edI:=List.count_le_length
     have c4:gE E edO j≤eD E edO:=List.count_le_length
     refine bnd (aE _ hjm) (bnd (aE _ hjm) (bnd (qB (by omega) (by omega)) (stp ?_)))
     have hiff:(j:Int)∈kD ((m:Int),E,I,O)↔¬(((I.count (j:Int)+gE E edO j:Nat):Int)+((O.count (j:Int)+gE E edI j:Nat):Int)=0):=by
      rw [CL_]
      dsimp only
      have z1:I.count (j:Int)=0↔¬(j:Int)∈I:=List.count_eq_zero
      have z2:O.count (j:Int)=0↔¬(j:Int)∈O:=List.count_eq_zero
      have z3:=pU (E:=E) (s:=edI) (k:=j)
      have z4:=pU (E:=E) (s:=edO) (k:=j)
      constructor
      ·
       intro h h0
       have y1:=z1.1 (by omega);have y2:=z2.1 (by omega);have y3:=z3.1 (by omega);have y4:=z4.1 (by omega)
       rcases h with h | h | ⟨e,he,h | h⟩
       · exact y1 h
       · exact y2 h
       · exact y3 ⟨e,he,h⟩
       · exact y4 ⟨e,he,h⟩
      ·
       intro h
       refine Decidable.byContradiction fun hc=>h ?_
       simp only [not_or] at hc
       have y1:=z1.2 hc.1;have y2:=z2.2 hc.2.1
       have y3:=z3.2 (fun ⟨e,he,hk⟩=>hc.2.2 ⟨e,he,.inl hk⟩)
       have y4:=z4.2 (fun ⟨e,he,hk⟩=>hc.2.2 ⟨e,he,.inr hk⟩)
       omega
     by_cases hk:(j:Int)∈kD ((m:Int),E,I,O)
     · rw [dT hk,dF (hiff.1 hk)];rfl
     · rw [dF hk,dT (Decidable.byContradiction fun hc=>hk (hiff.2 hc))];rfl
    ·
     rw [Int.toNat_natCast]
     cases (List.range m).all fun k:Nat=>decide ((k:Int)∈kD ((m:Int),E,I,O)) <;> rfl
def jI (n:Nat) (d:List Int):List Bool:=cB n fun k=>decide ((k:Int)∈d)
def seenN (n:Nat) (d:List Int):Nat:=(List.range n).countP fun k:Nat=>decide ((k:Int)∈d)
theorem Ha_ (n:Nat) (d:List Int):seenN n d≤n:=by
 have:=List.countP_le_length (p:=fun k:Nat=>decide ((k:Int)∈d)) (l:=List.range n)
 rwa [List.length_range] at this
theorem Gn_ {n m:Nat} (h:m<n) (P:Nat→Bool) (hP:P m=false):(List.range n).countP (fun k=>decide (k=m)||P k)=(List.range n).countP P+1:=by
 induction n with
 | zero=>omega
 | succ n ih=>
  rw [List.range_succ,List.countP_append,List.countP_append]
  by_cases hm:m=n
  ·
   subst hm
   have:(List.range m).countP (fun k=>decide (k=m)||P k)=(List.range m).countP P:=by
    refine List.countP_congr fun k hk=>?_
    have:¬k=m:=by have:=List.mem_range.1 hk;omega
    simp [this]
   rw [this]
   simp [hP]
  ·
   rw [ih (by omega)]
   have:¬n=m:=by omega
   simp [this];omega
theorem GB_ (n:Nat) (d:List Int) (m:Nat) (hm:m<n) (h:¬(m:Int)∈d):seenN n (d++[(m:Int)])=seenN n d+1∧(cB n fun k=>if k=m then true else decide ((k:Int)∈d))=jI n (d++[(m:Int)]):=by
 constructor
 ·
  unfold seenN
  rw [←Gn_ hm (fun k:Nat=>decide ((k:Int)∈d)) (dF h)]
  refine List.countP_congr fun k _=>?_
  simp only [List.mem_append,List.mem_singleton,decide_eq_true_eq,Bool.or_eq_true]
  constructor
  ·
   rintro (h | h)
   · exact .inr h
   · exact .inl (by omega)
  ·
   rintro (h | h)
   · exact .inr (by omega)
   · exact .inl h
 ·
  refine bE fun k _=>?_
  by_cases hk:k=m
  · rw [if_pos hk,dT];simp [hk]
  ·
   rw [if_neg hk,decide_eq_decide]
   have:¬(k:Int)=(m:Int):=by omega
   simp [this]
theorem Ci_ (n:Nat) (d:List Int) (x:Int) (h:x∈d∨rng x 0 ((n:Int)-1)=false):seenN n (d++[x])=seenN n d∧jI n (d++[x])=jI n d:=by
 have:∀ k,k<n→decide ((k:Int)∈d++[x])=decide ((k:Int)∈d):=fun k hk=>by
  rw [decide_eq_decide,List.mem_append,List.mem_singleton]
  constructor
  ·
   rintro (h1 | h1)
   · exact h1
   ·
    rcases h with h | h
    · rw [h1];exact h
    ·
     have:rng x 0 ((n:Int)-1)=true:=rng_true.2 (by omega)
     rw [this] at h;cases h
  · exact .inl
 exact ⟨List.countP_congr fun k hk=>by rw [this k (List.mem_range.1 hk)],bE this⟩
theorem oT {n:Nat} (hn:n≤100) (E:List Edg) (I O l d:List Int):nI l ((n:Int),E,I,O) (wOk n d) (jI n d) ((seenN n d:Nat):Int)=some (wOk n (d++l),jI n (d++l),((seenN n (d++l):Nat):Int)):=by
 unfold nI
 have:=gD (n:=l.length) (fun j=>(wOk n (d++l.take j),((seenN n (d++l.take j):Nat):Int),jI n (d++l.take j))) (f:=fun (k10:Nat) (s199:Bool×Int×List Bool)=>
   ((idxO l ((k10:Nat):Int)).bind fun a262=>
    (subO (n:Int) 1).bind fun a264=>
    (mG a262 0 a264).bind fun y266=>
    (some (!y266)).bind fun a269=>
    cond a269
    (some (false,s199.2.1,s199.2.2))
    ((idxO s199.2.2 a262).bind fun a278=>
     (some (!a278)).bind fun a280=>
     cond a280
     ((setO s199.2.2 a262 true).bind fun a290=>
      (sA s199.2.1 1).bind fun a293=>
      some (s199.1,a293,a290))
     (some (s199.1,s199.2.1,s199.2.2)))).bind fun (s250:Bool×Int×List Bool)=>
   some (s250.1,s250.2.1,s250.2.2)) (fun j hj=>by
  have hlen:=Ha_ n (d++l.take j)
  have e1:d++l.take (j+1)=(d++l.take j)++[l[j]]:=by rw [List.take_add_one,List.getElem?_eq_getElem hj];simp
  have e2:wOk n (d++l.take (j+1))=(wOk n (d++l.take j)&&rng l[j] 0 (n-1)):=by rw [e1,all_app];congr 1;unfold wOk;simp
  refine bndW (bnd (qA (List.getElem?_eq_getElem hj)) (bnd (cD (by omega) (by omega)) (bnd (within_ _ _ _) (stp rfl)))) ?_
  cases hr:rng l[j] 0 ((n:Int)-1) with
  | false=>
   have h3:=Ci_ n (d++l.take j) l[j] (.inr hr)
   rw [←e1] at h3
   rw [e2,hr,h3.1,h3.2,Bool.and_false];rfl
  | true=>
   have hx:=rng_true.1 hr
   obtain ⟨m,hme⟩:∃ m:Nat,l[j]=(m:Int):=⟨l[j].toNat,by omega⟩
   rw [e2,hr,Bool.and_true,hme]
   refine bndW (bnd (aE _ (by omega)) (stp rfl)) ?_
   by_cases hm:(m:Int)∈d++l.take j
   ·
    have h3:=Ci_ n (d++l.take j) l[j] (.inl (by rw [hme];exact hm))
    rw [←e1] at h3
    rw [dT hm,h3.1,h3.2];rfl
   ·
    have h3:=GB_ n (d++l.take j) m (by omega) hm
    rw [←hme,← e1] at h3
    rw [dF hm]
    refine bndW (bnd (yE _ _ (by omega)) (bnd (qB (by dsimp only;omega) (by dsimp only;omega)) rfl)) ?_
    rw [h3.1]
    show some _=some _
    refine congrArg some (Prod.ext rfl (Prod.ext ?_ ?_))
    · dsimp only;push_cast;rfl
    · dsimp only;rw [←h3.2])
 simp only [List.take_zero,List.append_nil,List.take_length] at this
 rw [this];rfl
theorem GQ_ {n:Nat} (hn:n≤100) (E:List Edg) (I O:List Int):iR ((n:Int),E,I,O) ((n:Int),E,I,O) true (cB n fun _=>false) 0=some (wOk n (kD ((n:Int),E,I,O)),jI n (kD ((n:Int),E,I,O)),((seenN n (kD ((n:Int),E,I,O)):Nat):Int)):=by
 unfold iR
 have h0:(cB n fun _=>false)=jI n []:=by unfold jI;simp
 have h1:(0:Int)=((seenN n []:Nat):Int):=by unfold seenN;simp
 have h2:true=wOk n []:=rfl
 rw [h0,h1,h2]
 refine bnd (oT hn E I O I []) (bnd (oT hn E I O O ([]++I)) ?_)
 have:=gD (n:=E.length) (fun j=>(((seenN n ([]++I++O++((E.take j).map fun e=>edI e++edO e).flatten):Nat):Int),wOk n ([]++I++O++((E.take j).map fun e=>edI e++edO e).flatten),jI n ([]++I++O++((E.take j).map fun e=>edI e++edO e).flatten))) (f:=fun (k21:Nat) (s74:Int×Bool×List Bool)=>
   (idxO E ((k21:Nat):Int)).bind fun a89=>
   (nI a89.2.2.1 ((n:Int),E,I,O) s74.2.1 s74.2.2 s74.1).bind fun y101=>
   (nI a89.2.2.2 ((n:Int),E,I,O) y101.1 y101.2.1 y101.2.2).bind fun y104=>
   some (y104.2.2,y104.1,y104.2.1)) (fun j hj=>by
  have e1:[]++I++O++((E.take (j+1)).map fun e=>edI e++edO e).flatten=[]++I++O++((E.take j).map fun e=>edI e++edO e).flatten++edI E[j]++edO E[j]:=by
   rw [List.take_add_one,List.getElem?_eq_getElem hj,List.map_append,List.flatten_append]
   simp only [Option.toList_some,List.map_cons,List.map_nil,List.flatten_cons,List.flatten_nil,List.append_nil,List.append_assoc]
  rw [e1]
  exact bnd (qA (List.getElem?_eq_getElem hj)) (bnd (oT hn E I O (edI E[j]) _) (bnd (oT hn E I O (edO E[j]) _) rfl)))
 simp only [List.take_zero,List.take_length,List.map_nil,List.flatten_nil,List.append_nil] at this
 refine bnd this ?_
 unfold kD
 simp only [List.nil_append]
theorem G3_ {n:Int}{E:List Edg}{I O:List Int} (h:E.all arB=true):wOk n (kD (n,E,I,O))=(wOk n I&&(wOk n O&&E.all (edW n))):=by
 unfold kD
 rw [all_app,all_app,Bool.and_assoc]
 congr 2
 show wOk n (E.map fun e=>edI e++edO e).flatten=E.all (edW n)
 clear I O
 induction E with
 | nil=>rfl
 | cons e E ih=>
  simp only [List.all_cons,Bool.and_eq_true] at h
  rw [List.map_cons,List.flatten_cons,all_app,all_app,List.all_cons]
  rw [ih h.2]
  unfold edW
  rw [h.1,Bool.true_and]
theorem Ae_ (g:Gra):oI g=some (gOk g):=by
 obtain ⟨n,E,I,O⟩:=g
 unfold oI gOk
 cases hr:rng n 0 100 with
 | false=>simp [within_,hr]
 | true=>
  have hn:=rng_true.1 hr
  by_cases hE:E.length≤60
  case neg=>
   have:(60:Int)<(E.length:Int):=by omega
   simp [within_,hr,hE,this]
  have hE':¬(60:Int)<(E.length:Int):=by omega
  by_cases hI:I.length≤12
  case neg=>
   have:(12:Int)<(I.length:Int):=by omega
   simp [within_,hr,hE,hE',hI,this]
  have hI':¬(12:Int)<(I.length:Int):=by omega
  by_cases hO:O.length≤12
  case neg=>
   have:(12:Int)<(O.length:Int):=by omega
   simp [within_,hr,hE,hE',hI,hI',hO,this]
  have hO':¬(12:Int)<(O.length:Int):=by omega
  simp only [within_,hr,dF hE',dF hI',dF hO',dT hE,dT hI,dT hO,Option.bind_some,Bool.not_true,cond_false,Bool.true_and]
  obtain ⟨m,rfl⟩:∃ m:Nat,n=(m:Int):=⟨n.toNat,by omega⟩
  refine sqW (zG arB E 0 ?_ (t:=false)) ?_
  ·
   intro j e hj
   rw [Nat.zero_add]
   refine bnd (qA hj) (bnd (isEdge_ e) (stp ?_))
   cases arB e <;> rfl
  ·
   cases hall:E.all arB with
   | false=>
    have:E.all (edW (m:Int))=false:=by
     cases h:E.all (edW (m:Int)) with
     | false=>rfl
     | true=>rw [xU h] at hall;cases hall
    rw [this]
    simp [eC]
   | true=>
    rw [if_pos rfl,fI]
    refine bnd (zI _ (by unfold iB;omega)) (bnd (GQ_ (by omega) E I O) ?_)
    dsimp only
    rw [G3_ hall]
    have hcov:decide (((seenN m (kD ((m:Int),E,I,O)):Nat):Int)=(m:Int))=(List.range m).all fun k:Nat=>decide ((k:Int)∈kD ((m:Int),E,I,O)):=by
     rw [Bool.eq_iff_iff,decide_eq_true_eq,List.all_eq_true]
     have:seenN m (kD ((m:Int),E,I,O))=(List.range m).length↔_:=List.countP_eq_length
     rw [List.length_range] at this
     rw [←this];omega
    rw [hcov,Int.toNat_natCast]
    cases wOk (m:Int) I <;> cases wOk (m:Int) O <;> cases E.all (edW (m:Int)) <;> rfl
end Go.Proofs.YtlggnmkelgplnaaGreatDoor
namespace Go.Proofs.YtlggnmkelgplnaaGreatDoor
theorem BY_ {σ τ:Type}{f:σ→Option (σ⊕τ)} (I:σ→Prop) (Q:τ→Prop) (μ:σ→Nat) (h:∀ s,I s→(∃ s',f s=some (.inl s')∧I s'∧μ s'<μ s)∨(∃ t,f s=some (.inr t)∧Q t)){s:σ} (hs:I s):∃ t,mC f s=some t∧Q t:=by
 have key:∀ n s,μ s≤n→I s→∃ t,mC f s=some t∧Q t:=by
  intro n
  induction n with
  | zero=>
   intro s hn hs
   rcases h s hs with ⟨s',_,_,hl⟩ | ⟨t,ht,hq⟩
   · omega
   · exact ⟨t,xG ht,hq⟩
  | succ n ih=>
   intro s hn hs
   rcases h s hs with ⟨s',h1,h2,hl⟩ | ⟨t,ht,hq⟩
   ·
    obtain ⟨t,h3,h4⟩:=ih s' (by omega) h2
    exact ⟨t,by rw [wI h1];exact h3,h4⟩
   · exact ⟨t,xG ht,hq⟩
 exact key _ s (Nat.le_refl _) hs
theorem CW_ {σ:Type}{f:Nat→σ→Option σ} (I:Nat→σ→Prop):∀ (n k:Nat) (s:σ),I k s→(∀ j s,k≤j→j<k+n→I j s→∃ s',f j s=some s'∧I (j+1) s')→∃ r,forS f n k s=some r∧I (k+n) r
 | 0,k,s,h0,_=>⟨s,rfl,h0⟩
 | n+1,k,s,h0,h=>by
  obtain ⟨s',h1,h2⟩:=h k s (Nat.le_refl _) (by omega) h0
  obtain ⟨r,h3,h4⟩:=CW_ I n (k+1) s' h2 (fun j s hj hl hi=>h j s (by omega) (by omega) hi)
  refine ⟨r,?_,by rwa [show k+1+n=k+(n+1) by omega] at h4⟩
  show (f k s).bind _=_
  rw [h1];exact h3
theorem CV_ {σ:Type}{f:Nat→σ→Option σ}{n:Nat}{s:σ} (I:Nat→σ→Prop) (h0:I 0 s) (h:∀ j s,j<n→I j s→∃ s',f j s=some s'∧I (j+1) s'):∃ r,forS f n 0 s=some r∧I n r:=by
 obtain ⟨r,h1,h2⟩:=CW_ (f:=f) I n 0 s h0 (fun j s _ hl hi=>h j s (by omega) hi)
 exact ⟨r,h1,by rwa [Nat.zero_add] at h2⟩
theorem CX_ {σ τ:Type}{f:Nat→σ→Option (σ⊕τ)} (I:Nat→σ→Prop) (Q:τ→Prop):∀ (n k:Nat) (s:σ),I k s→(∀ j s,k≤j→j<k+n→I j s→(∃ s',f j s=some (.inl s')∧I (j+1) s')∨(∃ t,f j s=some (.inr t)∧Q t))→(∃ r,lC f n k s=some (.inl r)∧I (k+n) r)∨(∃ t,lC f n k s=some (.inr t)∧Q t)
 | 0,k,s,h0,_=>.inl ⟨s,rfl,h0⟩
 | n+1,k,s,h0,h=>by
  rcases h k s (Nat.le_refl _) (by omega) h0 with ⟨s',h1,h2⟩ | ⟨t,h1,h2⟩
  ·
   rcases CX_ I Q n (k+1) s' h2 (fun j s hj hl hi=>h j s (by omega) (by omega) hi) with ⟨r,h3,h4⟩ | ⟨t,h3,h4⟩
   ·
    refine .inl ⟨r,?_,by rwa [show k+1+n=k+(n+1) by omega] at h4⟩
    show (f k s).bind _=_
    rw [h1];exact h3
   ·
    refine .inr ⟨t,?_,h4⟩
    show (f k s).bind _=_
    rw [h1];exact h3
  ·
   refine .inr ⟨t,?_,h2⟩
   show (f k s).bind _=_
   rw [h1];rfl
theorem dU {σ τ:Type}{f:Nat→σ→Option (σ⊕τ)}{n:Nat}{s:σ} (I:Nat→σ→Prop) (Q:τ→Prop) (h0:I 0 s) (h:∀ j s,j<n→I j s→(∃ s',f j s=some (.inl s')∧I (j+1) s')∨(∃ t,f j s=some (.inr t)∧Q t)):(∃ r,lC f n 0 s=some (.inl r)∧I n r)∨(∃ t,lC f n 0 s=some (.inr t)∧Q t):=by
 rcases CX_ (f:=f) I Q n 0 s h0 (fun j s _ hl hi=>h j s (by omega) hi) with ⟨r,h1,h2⟩ | h
 · exact .inl ⟨r,h1,by rwa [Nat.zero_add] at h2⟩
 · exact .inr h
def M (s:List Bool) (x:Int):Prop:=idxO s x=some true
instance (s:List Bool) (x:Int):Decidable (M s x):=by unfold M;infer_instance
def left (s:List Bool):Nat:=s.count false
inductive Rch (E:List Edg) (S:Int→Prop):Int→Prop
 | base {x:Int}:S x→Rch E S x
 | step {e:Edg} {w v:Int}:e∈E→w∈edI e→Rch E S w→v∈edO e→Rch E S v
theorem Rch.mono {E:List Edg}{S S':Int→Prop} (h:∀ x,S x→Rch E S' x){x:Int} (hx:Rch E S x):Rch E S' x:=by
 induction hx with
 | base hs=>exact h _ hs
 | step he hw _ hv ih=>exact .step he hw ih hv
theorem Rch.sub {E:List Edg}{S T:Int→Prop} (h0:∀ x,S x→T x) (h1:∀ e∈E,∀ w∈edI e,T w→∀ v∈edO e,T v){x:Int} (hx:Rch E S x):T x:=by
 induction hx with
 | base hs=>exact h0 _ hs
 | step he hw _ hv ih=>exact h1 _ he _ hw ih _ hv
def kE (n:Nat) (l:List Int):Prop:=∀ x∈l,0≤x∧x<(n:Int)
def edRg (n:Nat) (E:List Edg):Prop:=∀ e∈E,kE n (edI e)∧kE n (edO e)
end Go.Proofs.YtlggnmkelgplnaaGreatDoor
namespace Go.Proofs.YtlggnmkelgplnaaGreatDoor
theorem el_app2 (a b:List Int) (q:Nat):el (a++b) q=if q<a.length then el a q else el b (q-a.length):=by
 unfold el
 rw [List.getD_eq_getElem?_getD]
 split
 · rw [List.getElem?_append_left ‹_›,List.getD_eq_getElem?_getD]
 · rw [List.getElem?_append_right (by omega),List.getD_eq_getElem?_getD]
theorem Aj_ {a:List Int}{k q:Nat} (h:q<k):el (a.take k) q=el a q:=by
 unfold el
 rw [List.getD_eq_getElem?_getD,List.getD_eq_getElem?_getD,List.getElem?_take,if_pos h]
theorem el_drop2 (a:List Int) (k q:Nat):el (a.drop k) q=el a (k+q):=by
 unfold el
 rw [List.getD_eq_getElem?_getD,List.getD_eq_getElem?_getD,List.getElem?_drop]
theorem DD_ {z:List Int}{i j:Nat}{v:Int} (h:i<z.length):el (z.set i v) j=if i=j then v else el z j:=by
 unfold el
 rw [List.getD_eq_getElem?_getD,List.getD_eq_getElem?_getD,List.getElem?_set]
 by_cases e:i=j
 · subst e;simp [h]
 · rw [if_neg e,if_neg e]
theorem B5_ {row:List Int}{W:Nat} (pos:Nat→Nat) (hinj:∀ i j,i<row.length→j<row.length→pos i=pos j→i=j) (hlt:∀ j,j<row.length→pos j<W){f:Nat→List Int→Option (List Int)}
  (hf:∀ j s,j<row.length→s.length=W→f j s=some (s.set (pos j) (el row j))):∃ r,forS f row.length 0 (List.replicate W 0)=some r∧r.length=W∧(∀ j,j<row.length→el r (pos j)=el row j)∧∀ q,(∀ j,j<row.length→pos j≠q)→el r q=0:=
 CV_ (fun k s=>s.length=W∧(∀ j,j<k→el s (pos j)=el row j)∧∀ q,(∀ j,j<k→pos j≠q)→el s q=0) ⟨by simp,fun j hj=>by omega,fun q _=>tN W q⟩ (fun j s hj ⟨h1,h2,h3⟩=>by
  have hp:=hlt j hj
  refine ⟨_,hf j s hj h1,by simpa using h1,fun i hi=>?_,fun q hq=>?_⟩
  ·
   rw [DD_ (by omega)]
   by_cases hij:i=j
   · subst hij;rw [if_pos rfl]
   ·
    rw [if_neg (fun e=>hij (hinj j i hj (by omega) e).symm)]
    exact h2 i (by omega)
  ·
   rw [DD_ (by omega),if_neg (hq j (by omega))]
   exact h3 q (fun i hi=>hq i (by omega)))
def rH (l1 l2 r2:Nat) (row:List Int):List Int:=row.take l1++(List.replicate l2 0++(row.drop l1++List.replicate r2 0))
def nJ (l1 l2 r1:Nat) (row:List Int):List Int:=List.replicate l1 0++(row.take l2++(List.replicate r1 0++row.drop l2))
def tenP (l1 r1 l2 r2:Nat) (A B:Rows):Rows:=A.map (rH l1 l2 r2)++B.map (nJ l1 l2 r1)
def tenR (p:Int) (l1 r1 l2 r2:Nat) (A B:Rows):Rows:=bC p (l1+l2+(r1+r2)) (tenP l1 r1 l2 r2 A B)
theorem Dg_ {p:Int}{l1 r1 l2 r2:Nat}{row:List Int} (hp:2≤p) (h:okR p (l1+r1) row):okR p (l1+l2+(r1+r2)) (rH l1 l2 r2 row):=by
 obtain ⟨h1,h2⟩:=h
 refine ⟨by simp [rH];omega,fun x hx=>?_⟩
 have z:(0:Int)≤0∧(0:Int)<p:=⟨by omega,by omega⟩
 rcases List.mem_append.1 hx with hx | hx
 · exact h2 x (List.mem_of_mem_take hx)
 ·
  rcases List.mem_append.1 hx with hx | hx
  · rw [List.eq_of_mem_replicate hx];exact z
  ·
   rcases List.mem_append.1 hx with hx | hx
   · exact h2 x (List.mem_of_mem_drop hx)
   · rw [List.eq_of_mem_replicate hx];exact z
theorem Df_ {p:Int}{l1 r1 l2 r2:Nat}{row:List Int} (hp:2≤p) (h:okR p (l2+r2) row):okR p (l1+l2+(r1+r2)) (nJ l1 l2 r1 row):=by
 obtain ⟨h1,h2⟩:=h
 refine ⟨by simp [nJ];omega,fun x hx=>?_⟩
 have z:(0:Int)≤0∧(0:Int)<p:=⟨by omega,by omega⟩
 rcases List.mem_append.1 hx with hx | hx
 · rw [List.eq_of_mem_replicate hx];exact z
 ·
  rcases List.mem_append.1 hx with hx | hx
  · exact h2 x (List.mem_of_mem_take hx)
  ·
   rcases List.mem_append.1 hx with hx | hx
   · rw [List.eq_of_mem_replicate hx];exact z
   · exact h2 x (List.mem_of_mem_drop hx)
theorem Ao_ {p:Int}{l1 r1 l2 r2:Nat}{A B:Rows} (hp:2≤p) (hA:okM p (l1+r1) A) (hB:okM p (l2+r2) B):okM p (l1+l2+(r1+r2)) (tenP l1 r1 l2 r2 A B):=by
 intro x hx
 rcases List.mem_append.1 hx with hx | hx
 ·
  obtain ⟨y,hy,rfl⟩:=List.mem_map.1 hx
  exact Dg_ hp (hA y hy)
 ·
  obtain ⟨y,hy,rfl⟩:=List.mem_map.1 hx
  exact Df_ hp (hB y hy)
theorem tensor_ {p:Int}{l1 r1 l2 r2:Nat}{A B:Rows} (hf:fdB p=true) (hl:l1≤100) (hr:r1≤100) (hl2:l2≤100) (hr2:r2≤100) (hA:okM p (l1+r1) A) (hB:okM p (l2+r2) B) (lA:A.length≤1000) (lB:B.length≤1000) :
  dP p ((l1:Int),(r1:Int),A) ((l2:Int),(r2:Int),B)=some (((l1+l2:Nat):Int),((r1+r2:Nat):Int),tenR p l1 r1 l2 r2 A B):=by
 have hmx:iB=1099511627776:=rfl
 have hp:=cC hf
 have e1:fW ((l1:Int),(r1:Int),A) ((l1:Int),(r1:Int),A) ((l2:Int),(r2:Int),B)=some (A.map (rH l1 l2 r2)):=by
  refine bnd (tE (rH l1 l2 r2) A [] (by simp;omega) (fun j x s hj hs=>?_)) rfl
  have hx:=(hA x (aD hj)).1
  have hjl:=(List.getElem?_eq_some_iff.1 hj).1
  have hjo:=pQ (l:=[x.take l1,List.replicate l2 0,x.drop l1,List.replicate r2 0]) (by simp;omega)
  refine bnd (qA hj) (bnd (bnd (first_ (l:=l1) rfl (by omega)) (bnd (eJ (by omega)) (bnd (mU (l:=l1) rfl (by omega)) (bnd (eJ (by omega)) (bnd hjo rfl))))) (bnd (vB (by simp at hs ⊢;omega)) ?_))
  simp [rH]
 have e2:eW ((l2:Int),(r2:Int),B) ((l1:Int),(r1:Int),A) ((l2:Int),(r2:Int),B)=some (B.map (nJ l1 l2 r1)):=by
  refine bnd (tE (nJ l1 l2 r1) B [] (by simp;omega) (fun j x s hj hs=>?_)) rfl
  have hx:=(hB x (aD hj)).1
  have hjl:=(List.getElem?_eq_some_iff.1 hj).1
  have hjo:=pQ (l:=[List.replicate l1 0,x.take l2,List.replicate r1 0,x.drop l2]) (by simp;omega)
  refine bnd (qA hj) (bnd (bnd (eJ (by omega)) (bnd (first_ (l:=l2) rfl (by omega)) (bnd (eJ (by omega)) (bnd (mU (l:=l2) rfl (by omega)) (bnd hjo rfl))))) (bnd (vB (by simp at hs ⊢;omega)) ?_))
  simp [nJ]
 have hred:=uT hf (Nat.le_refl (l1+l2+(r1+r2))) (by omega) (Ao_ hp.1 hA hB) (by simp [tenP];omega)
 refine bnd e1 (bnd e2 (bnd (vB (by simp;omega)) (bnd (a:=((l1+l2:Nat):Int)) (by rw [qB (by dsimp only;omega) (by dsimp only;omega)];congr 1) (bnd (a:=((r1+r2:Nat):Int)) (by rw [qB (by dsimp only;omega) (by dsimp only;omega)];congr 1) (bnd (bnd (a:=((l1+l2+(r1+r2):Nat):Int)) (by rw [qB (by omega) (by omega)];congr 1) (bnd hred rfl)) rfl)))))
theorem GF_ {p:Int}{l1 r1 l2 r2:Nat}{A B:Rows} (hf:fdB p=true) (hl:l1≤100) (hr:r1≤100) (hl2:l2≤100) (hr2:r2≤100) (hA:okM p (l1+r1) A) (hB:okM p (l2+r2) B) (lA:A.length≤1000) (lB:B.length≤1000) :
  pO p ((l1:Int),(r1:Int),A) ((l2:Int),(r2:Int),B)=some (((l1+l2:Nat):Int),((r1+r2:Nat):Int),tenR p l1 r1 l2 r2 A B):=by
 have hmx:iB=1099511627776:=rfl
 have hp:=cC hf
 have n1:sA ((l1+l2:Nat):Int) ((r1+r2:Nat):Int)=some ((l1+l2+(r1+r2):Nat):Int):=by rw [qB (by omega) (by omega)];congr 1
 have hred:=vP hf (Nat.le_refl (l1+l2+(r1+r2))) (by omega) (Ao_ hp.1 hA hB) (by simp [tenP];omega)
 refine bnd (a:=((l1+l2:Nat):Int)) (by rw [qB (by dsimp only;omega) (by dsimp only;omega)];congr 1) (bnd (a:=((r1+r2:Nat):Int)) (by rw [qB (by dsimp only;omega) (by dsimp only;omega)];congr 1) (bnd (a:=A.map (rH l1 l2 r2)) ?_ (bnd (a:=tenP l1 r1 l2 r2 A B) ?_ (bnd (bnd n1 (bnd hred rfl)) rfl))))
 ·
  refine (tE (rH l1 l2 r2) A [] (by simp;omega) (fun j x s hj hs=>?_)).trans (by simp)
  have hx:=(hA x (aD hj)).1
  have hjl:=(List.getElem?_eq_some_iff.1 hj).1
  refine bnd (qA hj) (bnd n1 (bnd (bI _ (by omega)) (bnd (a:=rH l1 l2 r2 x) ?_ (bnd (vB (by simp at hs ⊢;omega)) rfl))))
  obtain ⟨r,q1,q2,q3,q4⟩:=B5_ (row:=x) (W:=l1+l2+(r1+r2)) (fun j=>if j<l1 then j else l1+l2+(j-l1)) (fun i j hi hj h=>by
   skip
   split at h <;> split at h <;> omega) (fun j hj=>by split <;> omega) (f:=fun (k342:Nat) (s415:List Int)=>
     (idxO x ((k342:Nat):Int)).bind fun a430=>
     (some (decide (((k342:Nat):Int)<(l1:Int)))).bind fun a432=>
     cond a432
     ((setO s415 ((k342:Nat):Int) a430).bind fun a455=>
      some a455)
     ((sA ((l1+l2:Nat):Int) ((k342:Nat):Int)).bind fun a435=>
      (subO a435 (l1:Int)).bind fun a437=>
      (setO s415 a437 a430).bind fun a445=>
      some a445)) (fun i t hi ht=>by
    refine bnd (iE hi) ?_
    by_cases h:i<l1
    ·
     rw [if_pos h]
     exact stp (cTW (dT (by omega)) (bnd (oD _ (by omega)) rfl))
    ·
     rw [if_neg h]
     refine stp (cFW (dF (by omega)) (bnd (qB (by omega) (by omega)) (bnd (a:=((l1+l2+(i-l1):Nat):Int)) (by rw [cD (by omega) (by omega)];congr 1;omega) (bnd (oD _ (by omega)) rfl))))
   )
  refine q1.trans (congrArg some ?_)
  refine xQ (by rw [q2,(Dg_ (p:=p) (r1:=r1) hp.1 (hA x (aD hj))).1]) (fun q hq=>?_)
  rw [q2] at hq
  unfold rH
  have ltk:(x.take l1).length=l1:=by simp;omega
  have ldr:(x.drop l1).length=r1:=by simp;omega
  rw [el_app2,ltk]
  by_cases c1:q<l1
  ·
   rw [if_pos c1,Aj_ c1]
   have:=q3 q (by omega)
   skip
   rwa [if_pos c1] at this
  ·
   rw [if_neg c1,el_app2,List.length_replicate]
   by_cases c2:q-l1<l2
   ·
    rw [if_pos c2,tN]
    exact q4 q (fun j hj=>by split <;> omega)
   ·
    rw [if_neg c2,el_app2,ldr]
    by_cases c3:q-l1-l2<r1
    ·
     rw [if_pos c3,el_drop2]
     have:=q3 (q-l2) (by omega)
     skip
     rw [if_neg (by omega),show l1+l2+(q-l2-l1)=q by omega] at this
     rw [this];congr 1;omega
    ·
     rw [if_neg c3,tN]
     exact q4 q (fun j hj=>by split <;> omega)
 ·
  refine (tE (nJ l1 l2 r1) B (A.map (rH l1 l2 r2)) (by simp;omega) (fun j x s hj hs=>?_)).trans rfl
  have hx:=(hB x (aD hj)).1
  have hjl:=(List.getElem?_eq_some_iff.1 hj).1
  refine bnd (qA hj) (bnd n1 (bnd (bI _ (by omega)) (bnd (a:=nJ l1 l2 r1 x) ?_ (bnd (vB (by simp at hs ⊢;omega)) rfl))))
  obtain ⟨r,q1,q2,q3,q4⟩:=B5_ (row:=x) (W:=l1+l2+(r1+r2)) (fun j=>if j<l2 then l1+j else l1+l2+r1+(j-l2)) (fun i j hi hj h=>by
   skip
   split at h <;> split at h <;> omega) (fun j hj=>by split <;> omega) (f:=fun (k822:Nat) (s903:List Int)=>
     (idxO x ((k822:Nat):Int)).bind fun a918=>
     (some (decide (((k822:Nat):Int)<(l2:Int)))).bind fun a920=>
     cond a920
     ((sA (l1:Int) ((k822:Nat):Int)).bind fun a939=>
      (setO s903 a939 a918).bind fun a947=>
      some a947)
     ((sA ((l1+l2:Nat):Int) (r1:Int)).bind fun a923=>
      (sA a923 ((k822:Nat):Int)).bind fun a925=>
      (subO a925 (l2:Int)).bind fun a927=>
      (setO s903 a927 a918).bind fun a935=>
      some a935)) (fun i t hi ht=>by
    refine bnd (iE hi) ?_
    by_cases h:i<l2
    ·
     rw [if_pos h]
     exact stp (cTW (dT (by omega)) (bnd (a:=((l1+i:Nat):Int)) (by rw [qB (by omega) (by omega)];congr 1) (bnd (oD _ (by omega)) rfl)))
    ·
     rw [if_neg h]
     refine stp (cFW (dF (by omega)) (bnd (qB (by omega) (by omega)) (bnd (qB (by omega) (by omega)) (bnd (a:=((l1+l2+r1+(i-l2):Nat):Int)) (by rw [cD (by omega) (by omega)];congr 1;omega) (bnd (oD _ (by omega)) rfl)))))
   )
  refine q1.trans (congrArg some ?_)
  refine xQ (by rw [q2,(Df_ (p:=p) (r2:=r2) hp.1 (hB x (aD hj))).1]) (fun q hq=>?_)
  rw [q2] at hq
  unfold nJ
  have ltk:(x.take l2).length=l2:=by simp;omega
  have ldr:(x.drop l2).length=r2:=by simp;omega
  rw [el_app2,List.length_replicate]
  by_cases c1:q<l1
  ·
   rw [if_pos c1,tN]
   exact q4 q (fun j hj=>by split <;> omega)
  ·
   rw [if_neg c1,el_app2,ltk]
   by_cases c2:q-l1<l2
   ·
    rw [if_pos c2,Aj_ c2]
    have:=q3 (q-l1) (by omega)
    skip
    rwa [if_pos c2,show l1+(q-l1)=q by omega] at this
   ·
    rw [if_neg c2,el_app2,List.length_replicate]
    by_cases c3:q-l1-l2<r1
    ·
     rw [if_pos c3,tN]
     exact q4 q (fun j hj=>by split <;> omega)
    ·
     rw [if_neg c3,el_drop2]
     have:=q3 (q-l1-r1) (by omega)
     skip
     rw [if_neg (by omega),show l1+l2+r1+(q-l1-r1-l2)=q by omega] at this
     rw [this];congr 1;omega
end Go.Proofs.YtlggnmkelgplnaaGreatDoor
namespace Go.Proofs.YtlggnmkelgplnaaGreatDoor
set_option linter.unusedVariables false
end Go.Proofs.YtlggnmkelgplnaaGreatDoor
namespace Go.Proofs.YtlggnmkelgplnaaGreatDoor
structure GOk (g:Gra) (n:Nat):Prop where
 w:g.1=(n:Int)
 n100:n≤100
 e60:g.2.1.length≤60
 i12:g.2.2.1.length≤12
 o12:g.2.2.2.length≤12
 i:kE n g.2.2.1
 o:kE n g.2.2.2
 e:edRg n g.2.1
 ar:g.2.1.all arB=true
 ti:eD g.2.1 edI≤120
 to:eD g.2.1 edO≤120
 cov:∀ k:Nat,k<n→(k:Int)∈kD g
theorem oZ {g:Gra} (h:gOk g=true):∃ n,GOk g n:=by
 unfold gOk at h
 simp only [Bool.and_eq_true,decide_eq_true_eq] at h
 obtain ⟨h1,h2,h3,h4,h5,h6,h7,h8⟩:=h
 have hr:=rng_true.1 h1
 obtain ⟨n,hn⟩:∃ n:Nat,g.1=(n:Int):=⟨g.1.toNat,by omega⟩
 rw [hn] at h5 h6 h7 h8
 have h9:=Dc_ (xU h7)
 refine ⟨n,hn,by omega,h2,h3,h4,jN h5,jN h6,DE_ h7,xU h7,by omega,by omega,fun k hk=>?_⟩
 rw [Int.toNat_natCast] at h8
 exact of_decide_eq_true (List.all_eq_true.1 h8 k (List.mem_range.2 hk))
end Go.Proofs.YtlggnmkelgplnaaGreatDoor
namespace Go.Proofs.YtlggnmkelgplnaaGreatDoor
def jD {α:Type} (f f0:Nat→α) (j:Nat):Nat→α:=fun k=>if k<j then f k else f0 k
theorem hZ {α:Type}{n:Nat} (f f0:Nat→α) (j:Nat):(cB n fun k=>if k=j then f j else jD f f0 j k)=cB n (jD f f0 (j+1)):=by
 refine bE fun k _=>?_
 unfold jD
 by_cases h:k=j
 · subst h;rw [if_pos rfl,if_pos (by omega)]
 ·
  rw [if_neg h]
  by_cases h2:k<j
  · rw [if_pos h2,if_pos (by omega)]
  · rw [if_neg h2,if_neg (by omega)]
theorem qL {α:Type}{n:Nat} (f f0:Nat→α){g:Nat→List α→Option (List α)} (hg:∀ j,j<n→g j (cB n (jD f f0 j))=some (cB n fun k=>if k=j then f j else jD f f0 j k)):forS g n 0 (cB n f0)=some (cB n f):=by
 have:=gD (f:=g) (n:=n) (fun j=>cB n (jD f f0 j)) (fun j hj=>by rw [hg j hj,hZ])
 have e0:cB n (jD f f0 0)=cB n f0:=bE fun k _=>by unfold jD;rw [if_neg (by omega)]
 have e1:cB n (jD f f0 n)=cB n f:=bE fun k hk=>by unfold jD;rw [if_pos hk]
 rw [e0,e1] at this
 exact this
theorem upT_ {n:Nat} (h:n≤1048576):yI (n:Int)=some (cB n fun k=>(k:Int)):=by
 have hm:iB=1099511627776:=rfl
 refine bnd (eJ (by omega)) ?_
 rw [uZ,zE]
 exact bnd (qL (fun k=>(k:Int)) (fun _=>0) (fun j hj=>bnd (yE _ _ hj) rfl)) rfl
theorem aW {n a:Nat} (h:n≤1048576) (ha:a≤1048576):vM (a:Int) (n:Int)=some (cB n fun k=>(k:Int)+a):=by
 refine bnd (upT_ h) ?_
 rw [zE]
 refine bnd (qL (fun k=>(k:Int)+a) (fun k=>(k:Int)) (fun j hj=>?_)) rfl
 have e:jD (fun k=>(k:Int)+a) (fun k=>(k:Int)) j j=(j:Int):=by unfold jD;rw [if_neg (by omega)]
 refine bnd (aE _ hj) ?_
 rw [e]
 exact bnd (qB (by omega) (by omega)) (bnd (yE _ _ hj) rfl)
def mp (t:Nat→Int) (l:List Int):List Int:=l.map fun x=>t x.toNat
def mpE (t:Nat→Int) (e:Edg):Edg:=(e.1,e.2.1,mp t (edI e),mp t (edO e))
def mpG (n:Int) (t:Nat→Int) (g:Gra):Gra:=(n,g.2.1.map (mpE t),mp t g.2.2.1,mp t g.2.2.2)
theorem tV {n:Nat}{l:List Int} (h:kE n l):mp (fun k=>(k:Int)) l=l:=by
 unfold mp
 refine (List.map_congr_left fun x hx=>?_).trans (List.map_id _)
 have:=h x hx
 show ((x.toNat:Nat):Int)=x
 omega
theorem uU {n:Nat}{l:List Int} (t:Nat→Int) (h:kE n l) (hl:l.length≤1048576):sI l (cB n t)=some (mp t l):=by
 have hm:iB=1099511627776:=rfl
 refine bnd (tE (fun x=>t x.toNat) l [] (by simp;omega) (fun j x s' hj hs=>?_)) rfl
 have hx:=h x (aD hj)
 obtain ⟨k,rfl⟩:∃ k:Nat,x=(k:Int):=⟨x.toNat,by omega⟩
 have hjl:=(List.getElem?_eq_some_iff.1 hj).1
 refine bnd (qA hj) (bnd (aE _ (by omega)) (bnd (vB (by simp at hs ⊢;omega)) ?_))
 rfl
theorem uL {n:Nat}{l:List Int} (t:Nat→Int) (h:kE n l) (hl:l.length≤1048576):tI l (cB n t)=some (mp t l):=by
 have hm:iB=1099511627776:=rfl
 refine bnd (bnd (B7_ _ (by omega)) (bnd (tE (fun x=>t x.toNat) l [] (by simp;omega) (fun j x s' hj hs=>?_)) rfl)) rfl
 have hx:=h x (aD hj)
 obtain ⟨k,rfl⟩:∃ k:Nat,x=(k:Int):=⟨x.toNat,by omega⟩
 have hjl:=(List.getElem?_eq_some_iff.1 hj).1
 refine bnd (qA hj) (bnd (aE _ (by omega)) (bnd (vB (by simp at hs ⊢;omega)) ?_))
 rfl
theorem rU {E:List Edg}{e:Edg} (s:Edg→List Int) (h:e∈E):(s e).length≤eD E s:=by
 unfold eD
 induction E with
 | nil=>cases h
 | cons x E ih=>
  rw [List.map_cons,List.flatten_cons,List.length_append]
  rcases List.mem_cons.1 h with rfl | h
  · omega
  · have:=ih h;omega
structure Rgd (n:Nat) (g:Gra):Prop where
 i:kE n g.2.2.1
 o:kE n g.2.2.2
 e:edRg n g.2.1
 li:g.2.2.1.length≤1000
 lo:g.2.2.2.length≤1000
 le:g.2.1.length≤1000
 ti:eD g.2.1 edI≤1000
 to:eD g.2.1 edO≤1000
theorem GOk.rgd {g:Gra}{n:Nat} (h:GOk g n):Rgd n g:=by
 have:=h.i12;have:=h.o12;have:=h.e60;have:=h.ti;have:=h.to
 exact ⟨h.i,h.o,h.e,by omega,by omega,by omega,by omega,by omega⟩
theorem AT_ {n:Nat}{g:Gra} (t:Nat→Int) (w:Int) (h:Rgd n g):iP g (cB n t) w=some (mpG w t g):=by
 have hm:iB=1099511627776:=rfl
 obtain ⟨w0,E,I,O⟩:=g
 obtain ⟨h1,h2,h3,h4,h5,h6,h7,h8⟩:=h
 dsimp only at h1 h2 h3 h4 h5 h6 h7 h8
 refine bnd (bnd (uU t h1 (by dsimp only;omega)) (bnd (uU t h2 (by dsimp only;omega)) rfl)) ?_
 refine bnd (tE (mpE t) E [] (by simp;omega) (fun j e s' hj hs=>?_)) rfl
 have he:=aD hj
 have hjl:=(List.getElem?_eq_some_iff.1 hj).1
 have l1:=rU edI he
 have l2:=rU edO he
 exact bnd (qA hj) (bnd (uU t (h3 e he).1 (show (edI e).length≤_ by omega)) (bnd (uU t (h3 e he).2 (show (edO e).length≤_ by omega)) (bnd (vB (by simp at hs ⊢;omega)) rfl)))
theorem AP_ {n:Nat}{g:Gra} (t:Nat→Int) (w:Int) (h:Rgd n g):gO g w (cB n t)=some (mpG w t g):=by
 have hm:iB=1099511627776:=rfl
 obtain ⟨w0,E,I,O⟩:=g
 obtain ⟨h1,h2,h3,h4,h5,h6,h7,h8⟩:=h
 dsimp only at h1 h2 h3 h4 h5 h6 h7 h8
 refine bnd (bnd (uL t h1 (by dsimp only;omega)) (bnd (uL t h2 (by dsimp only;omega)) rfl)) ?_
 refine bnd (tE (mpE t) E [] (by simp;omega) (fun j e s' hj hs=>?_)) rfl
 have he:=aD hj
 have hjl:=(List.getElem?_eq_some_iff.1 hj).1
 have l1:=rU edI he
 have l2:=rU edO he
 exact bnd (qA hj) (bnd (uL t (h3 e he).1 (show (edI e).length≤_ by omega)) (bnd (uL t (h3 e he).2 (show (edO e).length≤_ by omega)) (bnd (vB (by simp at hs ⊢;omega)) rfl)))
theorem DZ_ {n:Nat}{g:Gra} (h:Rgd n g):mpG g.1 (fun k=>(k:Int)) g=g:=by
 obtain ⟨w0,E,I,O⟩:=g
 obtain ⟨h1,h2,h3,_,_,_,_,_⟩:=h
 unfold mpG
 refine Prod.ext rfl (Prod.ext ?_ (Prod.ext (tV h1) (tV h2)))
 refine (List.map_congr_left fun e he=>?_).trans (List.map_id _)
 obtain ⟨k,v,a,b⟩:=e
 have:=h3 _ he
 unfold mpE
 exact Prod.ext rfl (Prod.ext rfl (Prod.ext (tV this.1) (tV this.2)))
theorem hgOwn_ {n:Nat}{g:Gra} (hn:n≤1000) (hw:g.1=(n:Int)) (h:Rgd n g):xS g=some g:=by
 have hm:iB=1099511627776:=rfl
 have e:=DZ_ h
 unfold xS
 rw [hw] at e ⊢
 refine bnd (zI _ (by omega)) ?_
 rw [zE]
 refine bnd (qL (fun k=>(k:Int)) (fun _=>0) (fun j hj=>bnd (yE _ _ hj) rfl)) ?_
 have h2:=AT_ (g:=g) (fun k=>(k:Int)) (n:Int) h
 rw [e] at h2
 obtain ⟨w0,E,I,O⟩:=g
 obtain rfl:w0=(n:Int):=hw
 exact bnd h2 rfl
def yK (n m:Nat) (a b:Gra):Gra:=
 (((n+m:Nat):Int),a.2.1++b.2.1.map (mpE fun k=>(k:Int)+n),a.2.2.1++mp (fun k=>(k:Int)+n) b.2.2.1,a.2.2.2++mp (fun k=>(k:Int)+n) b.2.2.2)
theorem mp_len (t:Nat→Int) (l:List Int):(mp t l).length=l.length:=by unfold mp;rw [List.length_map]
theorem Cr_ {n m:Nat}{a b:Gra} (hn:n≤1000) (hm:m≤1000) (wa:a.1=(n:Int)) (wb:b.1=(m:Int)) (ha:Rgd n a) (hb:Rgd m b):wR a b=some (yK n m a b):=by
 have hmm:iB=1099511627776:=rfl
 obtain ⟨w0,E,I,O⟩:=a
 obtain ⟨w1,E',I',O'⟩:=b
 obtain rfl:w0=(n:Int):=wa
 obtain rfl:w1=(m:Int):=wb
 have l1:=ha.li;have l2:=ha.lo;have l3:=ha.le;have k1:=hb.li;have k2:=hb.lo;have k3:=hb.le
 dsimp only at l1 l2 l3 k1 k2 k3
 refine bnd (zI _ (by omega)) ?_
 rw [zE]
 refine bnd (qL (fun k=>(k:Int)+n) (fun _=>0) (fun j hj=>bnd (qB (by omega) (by omega)) (bnd (yE _ _ hj) rfl))) ?_
 refine bnd (hgOwn_ hn rfl ha) (bnd (AT_ _ _ hb) (bnd (qB (by dsimp only;omega) (by dsimp only;omega)) (bnd (vB ?_) (bnd (vB ?_) (bnd (vB ?_) ?_)))))
 · unfold mpG;dsimp only;rw [mp_len];omega
 · unfold mpG;dsimp only;rw [mp_len];omega
 · unfold mpG;dsimp only;rw [List.length_map];omega
 · unfold mpG yK;dsimp only;push_cast;rfl
theorem DL_ {n m:Nat}{a b:Gra} (hn:n≤1000) (hm:m≤1000) (wa:a.1=(n:Int)) (wb:b.1=(m:Int)) (ha:Rgd n a) (hb:Rgd m b):rR a b=some (((n+m:Nat):Int),a.2.1++b.2.1.map (mpE fun k=>(k:Int)+n),[],[]):=by
 have hmm:iB=1099511627776:=rfl
 have e:=DZ_ ha
 obtain ⟨w0,E,I,O⟩:=a
 obtain ⟨w1,E',I',O'⟩:=b
 obtain rfl:w0=(n:Int):=wa
 obtain rfl:w1=(m:Int):=wb
 have l3:=ha.le;have k3:=hb.le
 dsimp only at l3 k3
 have h1:=AP_ (g:=((n:Int),E,I,O)) (fun k=>(k:Int)) (n:Int) ha
 dsimp only at e
 rw [e] at h1
 refine bnd (qB (by dsimp only;omega) (by dsimp only;omega)) (bnd (bnd (upT_ (by omega)) (bnd h1 rfl)) (bnd (bnd (aW (by omega) (by omega)) (bnd (AP_ _ _ hb) rfl)) (bnd (vB ?_) ?_)))
 · unfold mpG;dsimp only;rw [List.length_map];omega
 · unfold mpG;dsimp only;push_cast;rfl
theorem CR_ {a b:List Int} (h:a.length+b.length≤1048576):vG [a,b]=some (a++b):=by
 have hm:iB=1099511627776:=rfl
 refine bnd (a:=a++b) ?_ rfl
 refine bnd (a:=a) (bnd (a:=a) rfl (bnd (vB (by simp;omega)) rfl)) (bnd (a:=a++b) (bnd (a:=b) rfl (bnd (vB (by omega)) rfl)) rfl)
theorem F8_ {n m:Nat}{a b:Gra} (hn:n≤1000) (hm:m≤1000) (wa:a.1=(n:Int)) (wb:b.1=(m:Int)) (ha:Rgd n a) (hb:Rgd m b):lO a b=some (yK n m a b):=by
 obtain ⟨w0,E,I,O⟩:=a
 obtain ⟨w1,E',I',O'⟩:=b
 obtain rfl:w0=(n:Int):=wa
 obtain rfl:w1=(m:Int):=wb
 have l1:=ha.li;have l2:=ha.lo;have k1:=hb.li;have k2:=hb.lo
 dsimp only at l1 l2 k1 k2
 refine bnd (DL_ hn hm rfl rfl ha hb) (bnd (aW (by omega) (by omega)) (bnd (uL _ hb.i (by dsimp only;omega)) (bnd (CR_ ?_) (bnd (uL _ hb.o (by dsimp only;omega)) (bnd (CR_ ?_) rfl)))))
 · dsimp only;rw [mp_len];omega
 · dsimp only;rw [mp_len];omega
def noG:Gra:=(0,[],[],[])
def ifG (g:Gra):Gra×Bool:=if gOk g=true then (g,true) else (noG,false)
theorem hgIf_ (g:Gra):aT g=some (ifG g):=by
 refine bnd (CT_ g) (stp ?_)
 unfold ifG
 cases gOk g <;> rfl
end Go.Proofs.YtlggnmkelgplnaaGreatDoor
namespace Go.Proofs.YtlggnmkelgplnaaGreatDoor
def joinC (c:Nat→Nat) (u v:Nat):Nat→Nat:=fun w=>if c w=max (c u) (c v) then min (c u) (c v) else c w
def oF (P:List (Int×Int)):Nat→Nat:=P.foldl (fun c p=>joinC c p.1.toNat p.2.toNat) id
theorem GZ_ (P:List (Int×Int)) (p:Int×Int):oF (P++[p])=joinC (oF P) p.1.toNat p.2.toNat:=by unfold oF;rw [List.foldl_append];rfl
theorem Cu_ {P:List (Int×Int)}{j:Nat} (hj:j<P.length):oF (P.take (j+1))=joinC (oF (P.take j)) P[j].1.toNat P[j].2.toNat:=by
 rw [List.take_add_one,List.getElem?_eq_getElem hj];exact GZ_ _ _
structure Cls (c:Nat→Nat):Prop where
 le:∀ w,c w≤w
 idem:∀ w,c (c w)=c w
theorem Cls.join {c:Nat→Nat} (h:Cls c) (u v:Nat):Cls (joinC c u v):=by
 have iu:=h.idem u;have iv:=h.idem v
 refine ⟨fun w=>?_,fun w=>?_⟩
 ·
  unfold joinC
  have:=h.le w
  split <;> omega
 ·
  unfold joinC
  by_cases hw:c w=max (c u) (c v)
  ·
   rw [if_pos hw]
   have hk:c (min (c u) (c v))=min (c u) (c v):=by
    rcases Nat.le_total (c u) (c v) with h1 | h1
    · rw [Nat.min_eq_left h1,iu]
    · rw [Nat.min_eq_right h1,iv]
   rw [hk]
   split <;> rfl
  · rw [if_neg hw,h.idem w,if_neg hw]
theorem yU:∀ P:List (Int×Int),Cls (oF P):=by
 intro P
 have key:∀ (P:List (Int×Int)) (c:Nat→Nat),Cls c→Cls (P.foldl (fun c p=>joinC c p.1.toNat p.2.toNat) c):=by
  intro P
  induction P with
  | nil=>intro c h;exact h
  | cons p P ih=>intro c h;exact ih _ (h.join _ _)
 exact key P id ⟨fun w=>Nat.le_refl _,fun w=>rfl⟩
structure Forest (n:Nat) (c cls:Nat→Nat):Prop where
 le:∀ w,w<n→c w≤w
 fix:∀ w,w<n→c w=w→cls w=w
 up:∀ w,w<n→cls (c w)=cls w
def fE (n:Nat) (c:Nat→Nat):List Int:=cB n fun k=>(c k:Int)
theorem qV {n:Nat}{c cls:Nat→Nat} (h:Forest n c cls){w:Nat} (hw:w<n):rJ (fE n c) (w:Int)=some (cls w:Int):=by
 obtain ⟨t,h1,rfl⟩:=BY_ (f:=fun (s126:Int)=>
   (idxO (fE n c) s126).bind fun a141=>
   (some (!decide (a141=s126))).bind fun a143=>
   cond a143
   ((idxO (fE n c) s126).bind fun a154=>
    some (.inl a154))
   (some (.inr s126))) (fun s=>∃ k:Nat,s=(k:Int)∧k<n∧cls k=cls w) (fun t=>t=(cls w:Int)) (fun s=>s.toNat) (by
  rintro s ⟨k,rfl,hk,he⟩
  have hi:idxO (fE n c) (k:Int)=some (c k:Int):=aE _ hk
  have hle:=h.le k hk
  by_cases hf:c k=k
  ·
   refine .inr ⟨(k:Int),bnd hi (stp (cFW (nT (dT (by omega))) rfl)),?_⟩
   rw [←he,h.fix k hk hf]
  · exact .inl ⟨(c k:Int),bnd hi (stp (cTW (nF (dF (by omega))) (bnd hi rfl))),⟨c k,rfl,by omega,by rw [h.up k hk,he]⟩,by omega⟩) (s:=(w:Int)) ⟨w,rfl,hw,rfl⟩
 exact bnd h1 rfl
theorem Forest.join {n:Nat}{c cls:Nat→Nat} (h:Forest n c cls) (hc:Cls cls) (u v:Nat):Forest n (fun k=>if k=max (cls u) (cls v) then min (cls u) (cls v) else c k) (joinC cls u v):=by
 have iu:=hc.idem u;have iv:=hc.idem v
 have hm:cls (max (cls u) (cls v))=max (cls u) (cls v):=by
  rcases Nat.le_total (cls u) (cls v) with h1 | h1
  · rw [Nat.max_eq_right h1,iv]
  · rw [Nat.max_eq_left h1,iu]
 have hk:cls (min (cls u) (cls v))=min (cls u) (cls v):=by
  rcases Nat.le_total (cls u) (cls v) with h1 | h1
  · rw [Nat.min_eq_left h1,iu]
  · rw [Nat.min_eq_right h1,iv]
 refine ⟨fun w hw=>?_,fun w hw=>?_,fun w hw=>?_⟩
 ·
  have:=h.le w hw
  split <;> omega
 ·
  unfold joinC
  intro hf
  by_cases hwm:w=max (cls u) (cls v)
  ·
   rw [if_pos hwm] at hf
   subst hwm
   rw [hm,if_pos rfl];exact hf
  ·
   rw [if_neg hwm] at hf
   have:=h.fix w hw hf
   rw [this,if_neg hwm]
 ·
  unfold joinC
  by_cases hwm:w=max (cls u) (cls v)
  ·
   rw [if_pos hwm,hwm,hm,if_pos rfl,hk]
   split <;> rfl
  · rw [if_neg hwm,h.up w hw]
theorem GP_ (a b:Nat):aO (a:Int) (b:Int)=((max a b:Nat):Int):=by unfold aO;split <;> omega
theorem GO_ (a b:Nat):zN (a:Int) (b:Int)=((min a b:Nat):Int):=by unfold zN;split <;> omega
theorem join_ {n:Nat}{c cls:Nat→Nat} (h:Forest n c cls) (hc:Cls cls){u v:Nat} (hu:u<n) (hv:v<n):qR (fE n c) (u:Int) (v:Int)=some (fE n fun k=>if k=max (cls u) (cls v) then min (cls u) (cls v) else c k):=by
 have l1:=hc.le u;have l2:=hc.le v
 refine bnd (qV h hu) (bnd (qV h hv) (stp (stp ?_)))
 rw [GP_,GO_]
 refine bnd (yE _ _ (by omega)) (congrArg some (bE fun k _=>?_))
 show _=((if k=max (cls u) (cls v) then min (cls u) (cls v) else c k:Nat):Int)
 split <;> rfl
def qD (cls:Nat→Nat) (W:List Int) (r:Nat):Bool:=W.any fun x=>decide (cls x.toNat=r)
def numW (cls:Nat→Nat) (W:List Int) (j:Nat):Nat:=(List.range j).countP fun k=>decide (cls k=k)&&qD cls W k
theorem Cm_ (cls:Nat→Nat) (W:List Int) (j:Nat):numW cls W (j+1)=numW cls W j+(if (decide (cls j=j)&&qD cls W j)=true then 1 else 0):=by
 unfold numW
 rw [List.range_succ,List.countP_append,List.countP_singleton]
theorem Dq_ (cls:Nat→Nat) (W:List Int) (j:Nat):numW cls W j≤j:=by
 have:=List.countP_le_length (p:=fun k=>decide (cls k=k)&&qD cls W k) (l:=List.range j)
 rwa [List.length_range] at this
def toW (cls:Nat→Nat) (W:List Int) (k:Nat):Int:=if qD cls W (cls k)=true then (numW cls W (cls k):Int) else -1
theorem FQ_ {n:Nat}{cls:Nat→Nat}{W:List Int} (h:kE n W) (r:Nat):((List.range n).any fun w=>decide ((w:Int)∈W)&&decide (cls w=r))=qD cls W r:=by
 unfold qD
 rw [Bool.eq_iff_iff,List.any_eq_true,List.any_eq_true]
 constructor
 ·
  rintro ⟨w,hw,hb⟩
  simp only [Bool.and_eq_true,decide_eq_true_eq] at hb
  exact ⟨(w:Int),hb.1,dT (by rw [Int.toNat_natCast];exact hb.2)⟩
 ·
  rintro ⟨x,hx,hb⟩
  have hb:=of_decide_eq_true hb
  have:=h x hx
  refine ⟨x.toNat,List.mem_range.2 (by omega),?_⟩
  have e:((x.toNat:Nat):Int)=x:=by omega
  rw [e,dT hx,dT hb];rfl
theorem gV {n:Nat}{c cls:Nat→Nat} (h:Forest n c cls) (hc:Cls cls){l:List Int} (hl:kE n l) (d:List Int):sJ l (cB n (qD cls d)) (fE n c)=some (cB n (qD cls (d++l))):=by
 have:=gD (n:=l.length) (fun j=>cB n (qD cls (d++l.take j))) (f:=fun (k6:Nat) (s53:List Bool)=>
   (idxO l ((k6:Nat):Int)).bind fun a68=>
   (rJ (fE n c) a68).bind fun y71=>
   (setO s53 y71 true).bind fun a80=>
   some a80) (fun j hj=>by
  have hx:=hl _ (List.getElem_mem hj)
  obtain ⟨m,hm⟩:∃ m:Nat,l[j]=(m:Int):=⟨l[j].toNat,by omega⟩
  have hle:=hc.le m
  refine bnd (qA (List.getElem?_eq_getElem hj)) ?_
  rw [hm]
  refine bnd (qV h (by omega)) (bnd (yE _ _ (by omega)) (congrArg some (bE fun k _=>?_)))
  have e:l.take (j+1)=l.take j++[(m:Int)]:=by rw [List.take_add_one,List.getElem?_eq_getElem hj,hm];rfl
  rw [e]
  unfold qD
  rw [←List.append_assoc,List.any_append (xs:=d++l.take j)]
  simp only [List.any_cons,List.any_nil,Bool.or_false,Int.toNat_natCast]
  by_cases hk:k=cls m
  · rw [if_pos hk,dT hk.symm,Bool.or_true]
  · rw [if_neg hk,dF (fun e=>hk e.symm),Bool.or_false])
 rw [List.take_zero,List.append_nil,List.take_length] at this
 exact bnd this rfl
theorem glueL_ {n:Nat}{c cls:Nat→Nat} (h:Forest n c cls) (hc:Cls cls){g:Gra} (hg:Rgd n g):dW g (cB n fun _=>false) (fE n c)=some (cB n (qD cls (kD g))):=by
 obtain ⟨w0,E,I,O⟩:=g
 have h0:(cB n fun _=>false)=cB n (qD cls []):=rfl
 rw [h0]
 refine bnd (gV h hc hg.i []) (bnd (gV h hc hg.o ([]++I)) ?_)
 have:=gD (n:=E.length) (fun j=>cB n (qD cls ([]++I++O++((E.take j).map fun e=>edI e++edO e).flatten))) (f:=fun (k17:Nat) (s70:List Bool)=>
   (idxO E ((k17:Nat):Int)).bind fun a85=>
   (sJ a85.2.2.1 s70 (fE n c)).bind fun y97=>
   (sJ a85.2.2.2 y97 (fE n c)).bind fun y100=>
   some y100) (fun j hj=>by
  have e1:[]++I++O++((E.take (j+1)).map fun e=>edI e++edO e).flatten=[]++I++O++((E.take j).map fun e=>edI e++edO e).flatten++edI E[j]++edO E[j]:=by
   rw [List.take_add_one,List.getElem?_eq_getElem hj,List.map_append,List.flatten_append]
   simp only [Option.toList_some,List.map_cons,List.map_nil,List.flatten_cons,List.flatten_nil,List.append_nil,List.append_assoc]
  have he:=hg.e _ (List.getElem_mem hj)
  rw [e1]
  exact bnd (qA (List.getElem?_eq_getElem hj)) (bnd (gV h hc he.1 _) (bnd (gV h hc he.2 _) rfl)))
 simp only [List.take_zero,List.take_length,List.map_nil,List.flatten_nil,List.append_nil] at this
 refine bnd this ?_
 unfold kD
 simp only [List.nil_append]
def gluG (g:Gra) (n:Nat) (P:List (Int×Int)):Gra:=mpG (numW (oF P) (kD g) n:Int) (toW (oF P) (kD g)) g
theorem glue_ {n:Nat}{g:Gra}{P:List (Int×Int)} (hn:n≤1000) (hw:g.1=(n:Int)) (hg:Rgd n g) (hP:∀ p∈P,(0≤p.1∧p.1<(n:Int))∧(0≤p.2∧p.2<(n:Int))) :
  sW g P=some (gluG g n P,cB n (toW (oF P) (kD g))):=by
 have hm:iB=1099511627776:=rfl
 obtain ⟨w0,E,I,O⟩:=g
 obtain rfl:w0=(n:Int):=hw
 have hcl:=yU P
 obtain ⟨s,a1,c,rfl,hF⟩:=CV_ (n:=P.length) (s:=cB n fun k=>(k:Int)) (f:=fun (k20:Nat) (s59:List Int)=>
   (idxO P ((k20:Nat):Int)).bind fun a74=>
   (qR s59 a74.1 a74.2).bind fun y82=>
   some y82) (fun j s=>∃ c,s=fE n c∧Forest n c (oF (P.take j))) ⟨id,rfl,fun w _=>Nat.le_refl _,fun w _ _=>rfl,fun w _=>rfl⟩ (by
  rintro j s hj ⟨c,rfl,hF⟩
  obtain ⟨p1,p2⟩:=hP _ (List.getElem_mem hj)
  obtain ⟨u,hu⟩:∃ u:Nat,P[j].1=(u:Int):=⟨P[j].1.toNat,by omega⟩
  obtain ⟨v,hv⟩:∃ v:Nat,P[j].2=(v:Int):=⟨P[j].2.toNat,by omega⟩
  have hj2:=join_ hF (yU _) (u:=u) (v:=v) (by omega) (by omega)
  rw [←hu,← hv] at hj2
  refine ⟨_,bnd (qA (List.getElem?_eq_getElem hj)) (bnd hj2 rfl),_,rfl,?_⟩
  rw [Cu_ hj,hu,hv,Int.toNat_natCast,Int.toNat_natCast]
  exact hF.join (yU _) u v)
 rw [List.take_length] at hF
 generalize hcls:oF P=cls at hcl hF
 generalize hW:kD ((n:Int),E,I,O)=W
 have hG:=glueL_ hF hcl hg
 rw [hW] at hG
 have hz:nG (n:Int)=some (cB n fun _=>(0:Int)):=by rw [eJ (by omega),uZ]
 have fin:=gD (n:=n) (fun j=>(cB n (jD (toW cls W) (fun _=>0) j),(numW cls W j:Int))) (f:=fun (k106:Nat) (s223:List Int×Int)=>
   (rJ (fE n c) ((k106:Nat):Int)).bind fun y232=>
   (idxO (cB n (qD cls W)) y232).bind fun a241=>
   (some (!a241)).bind fun a243=>
   cond a243
   ((setO s223.1 ((k106:Nat):Int) (-1)).bind fun a285=>
    some (a285,s223.2))
   ((some (decide (y232<((k106:Nat):Int)))).bind fun a246=>
    cond a246
    ((idxO s223.1 y232).bind fun a267=>
     (setO s223.1 ((k106:Nat):Int) a267).bind fun a275=>
     some (a275,s223.2))
    ((setO s223.1 ((k106:Nat):Int) s223.2).bind fun a255=>
     (sA s223.2 1).bind fun a258=>
     some (a255,a258)))) (fun j hj=>by
  have hle:=hcl.le j
  have hid:=hcl.idem j
  have hnl:=Dq_ cls W j
  have hns:=Cm_ cls W j
  refine bnd (qV hF hj) (bnd (aE _ (by omega)) (stp ?_))
  rw [←hZ]
  cases hu:qD cls W (cls j) with
  | false=>
   have ht:toW cls W j = -1:=by unfold toW;rw [hu];rfl
   have hn0:numW cls W (j+1)=numW cls W j:=by
    rw [hns]
    by_cases he:cls j=j
    · rw [he] at hu;rw [hu,Bool.and_false];rfl
    · rw [dF he];rfl
   refine cTW rfl (bnd (yE _ _ hj) ?_)
   rw [ht,hn0]
  | true=>
   have ht:toW cls W j=(numW cls W (cls j):Int):=by unfold toW;rw [hu];rfl
   by_cases he:cls j=j
   ·
    have hn1:numW cls W (j+1)=numW cls W j+1:=by
     rw [hns,dT he];rw [he] at hu;rw [hu];rfl
    refine cFW rfl (stp (cFW (dF (by omega)) (bnd (yE _ _ hj) (bnd (qB (by dsimp only;omega) (by dsimp only;omega)) ?_))))
    rw [ht,he,hn1];push_cast;rfl
   ·
    have hn0:numW cls W (j+1)=numW cls W j:=by rw [hns,dF he];rfl
    have hlt:cls j<j:=by omega
    refine cFW rfl (stp (cTW (dT (by omega)) (bnd (aE _ (by omega)) (bnd (yE _ _ hj) ?_))))
    have e:jD (toW cls W) (fun _=>0) j (cls j)=toW cls W j:=by
     unfold jD;rw [if_pos hlt];unfold toW;rw [hid]
    rw [e,hn0])
 have e0:cB n (jD (toW cls W) (fun _=>0) 0)=cB n fun _=>0:=bE fun k _=>by unfold jD;rw [if_neg (by omega)]
 have e1:cB n (jD (toW cls W) (fun _=>0) n)=cB n (toW cls W):=bE fun k hk=>by unfold jD;rw [if_pos hk]
 have e2:numW cls W 0=0:=rfl
 rw [e0,e1,e2] at fin
 refine bnd (upT_ (by omega)) (bnd a1 (bnd (zI _ (by omega)) (bnd hG (bnd hz ?_))))
 rw [zE]
 refine bnd fin (bnd (AP_ _ _ hg) ?_)
 unfold gluG
 rw [hcls,hW]
theorem Cp_ {n:Nat}{a b:List Int} (ha:kE n a) (hb:kE n b):kE n (a++b):=by
 intro x hx
 rcases List.mem_append.1 hx with h | h
 · exact ha x h
 · exact hb x h
theorem l1Most_ (a b:Nat):yO (a:Int) (b:Int)=some ((max a b:Nat):Int):=by
 unfold yO
 by_cases h:b<a
 · refine stp (cTW (dT (by omega)) ?_);rw [Nat.max_eq_left (by omega)]
 · refine stp (cFW (dF (by omega)) ?_);rw [Nat.max_eq_right (by omega)]
theorem Hm_ (a b:Nat):tO (a:Int) (b:Int)=some ((min a b:Nat):Int):=by
 unfold tO
 by_cases h:a<b
 · refine stp (cTW (dT (by omega)) ?_);rw [Nat.min_eq_left (by omega)]
 · refine stp (cFW (dF (by omega)) ?_);rw [Nat.min_eq_right (by omega)]
theorem cnt_mem {E:List Edg}{I O:List Int}{w:Int} (j:Nat):(j:Int)∈kD (w,E,I,O)↔(0:Int)<((I.count (j:Int)+gE E edO j:Nat):Int)+((O.count (j:Int)+gE E edI j:Nat):Int):=by
 rw [CL_]
 dsimp only
 have z1:I.count (j:Int)=0↔¬(j:Int)∈I:=List.count_eq_zero
 have z2:O.count (j:Int)=0↔¬(j:Int)∈O:=List.count_eq_zero
 have z3:=pU (E:=E) (s:=edI) (k:=j)
 have z4:=pU (E:=E) (s:=edO) (k:=j)
 constructor
 ·
  intro h
  refine Decidable.byContradiction fun h0=>?_
  have y1:=z1.1 (by omega);have y2:=z2.1 (by omega);have y3:=z3.1 (by omega);have y4:=z4.1 (by omega)
  rcases h with h | h | ⟨e,he,h | h⟩
  · exact y1 h
  · exact y2 h
  · exact y3 ⟨e,he,h⟩
  · exact y4 ⟨e,he,h⟩
 ·
  intro h
  refine Decidable.byContradiction fun hc=>?_
  simp only [not_or] at hc
  have y1:=z1.2 hc.1;have y2:=z2.2 hc.2.1
  have y3:=z3.2 (fun ⟨e,he,hk⟩=>hc.2.2 ⟨e,he,.inl hk⟩)
  have y4:=z4.2 (fun ⟨e,he,hk⟩=>hc.2.2 ⟨e,he,.inr hk⟩)
  omega
theorem Hp_ {n:Nat}{g:Gra}{A B:List Int} (hn:n≤1000) (hw:g.1=(n:Int)) (hg:Rgd n g) (hA:kE n A) (hB:kE n B) (hl:A.length=B.length) :
  eX g A B=some (gluG g n (A.zip B),cB n (toW (oF (A.zip B)) (kD g))):=by
 have hm:iB=1099511627776:=rfl
 obtain ⟨w0,E,I,O⟩:=g
 obtain rfl:w0=(n:Int):=hw
 have hcl:=yU (A.zip B)
 have hzl:(A.zip B).length=A.length:=by rw [List.length_zip,hl,Nat.min_self]
 have li:=hg.li;have lo:=hg.lo;have ti:=hg.ti;have to:=hg.to
 dsimp only at li lo ti to
 have a1:=gD (n:=A.length) (fun j=>fE n (oF ((A.zip B).take j))) (f:=fun (k62:Nat) (s337:List Int)=>
   (idxO A ((k62:Nat):Int)).bind fun a353=>
   (idxO B ((k62:Nat):Int)).bind fun a361=>
   (idxO s337 a353).bind fun a369=>
   (idxO s337 a361).bind fun a377=>
   (forS (fun (k379:Nat) (s440:List Int)=>
     (idxO s440 ((k379:Nat):Int)).bind fun a456=>
     (yO a369 a377).bind fun y458=>
     (some (decide (a456=y458))).bind fun a461=>
     cond a461
     ((tO a369 a377).bind fun y465=>
      (setO s440 ((k379:Nat):Int) y465).bind fun a474=>
      some a474)
     (some s440)) s337.length 0 s337).bind fun (s479:List Int)=>
   some s479) (fun j hj=>by
  have hjz:j<(A.zip B).length:=by omega
  have hz:(A.zip B)[j]=(A[j],B[j]'(by omega)):=List.getElem_zip
  have h1:=hA _ (List.getElem_mem hj)
  have h2:=hB _ (List.getElem_mem (show j<B.length by omega))
  obtain ⟨u,hu⟩:∃ u:Nat,A[j]=(u:Int):=⟨A[j].toNat,by omega⟩
  obtain ⟨v,hv⟩:∃ v:Nat,B[j]'(by omega)=(v:Int):=⟨(B[j]'(by omega)).toNat,by omega⟩
  have hun:u<n:=by omega
  have hvn:v<n:=by omega
  rw [Cu_ hjz,hz]
  dsimp only
  rw [hu,hv,Int.toNat_natCast,Int.toNat_natCast]
  generalize oF ((A.zip B).take j)=cls
  refine bnd (qA (List.getElem?_eq_getElem hj)) (bnd (qA (List.getElem?_eq_getElem (show j<B.length by omega))) ?_)
  rw [hu,hv]
  refine bnd (aE _ hun) (bnd (aE _ hvn) (bnd (a:=fE n (joinC cls u v)) ?_ rfl))
  unfold fE
  rw [zE]
  refine qL (fun k=>(joinC cls u v k:Int)) (fun k=>(cls k:Int)) (fun k hk=>?_)
  have e:jD (fun k=>(joinC cls u v k:Int)) (fun k=>(cls k:Int)) k k=(cls k:Int):=by unfold jD;rw [if_neg (by omega)]
  refine bnd (aE _ hk) ?_
  rw [e]
  refine bnd (l1Most_ _ _) (stp ?_)
  by_cases hc:cls k=max (cls u) (cls v)
  ·
   refine cTW (dT (by omega)) (bnd (Hm_ _ _) (bnd (yE _ _ hk) ?_))
   unfold joinC;rw [if_pos hc]
  ·
   refine cFW (dF (by omega)) (congrArg some (bE fun q _=>?_))
   by_cases hq:q=k
   · subst hq;rw [if_pos rfl,e];unfold joinC;rw [if_neg hc]
   · rw [if_neg hq])
 rw [show oF ((A.zip B).take 0)=id from by rw [List.take_zero];rfl,show (A.zip B).take A.length=A.zip B from by rw [←hzl,List.take_length]] at a1
 generalize hcls:oF (A.zip B)=cls at hcl a1
 generalize hW:kD ((n:Int),E,I,O)=W
 have hWr:kE n W:=by
  rw [←hW]
  unfold kD
  refine Cp_ (Cp_ hg.i hg.o) (fun x hx=>?_)
  obtain ⟨l,hl',hx⟩:=List.mem_flatten.1 hx
  obtain ⟨e,he,rfl⟩:=List.mem_map.1 hl'
  rcases List.mem_append.1 hx with h | h
  · exact (hg.e e he).1 x h
  · exact (hg.e e he).2 x h
 have a2:=gD (n:=n) (fun j=>cB n fun r=>(List.range j).any fun w=>decide ((w:Int)∈W)&&decide (cls w=r)) (f:=fun (k497:Nat) (s582:List Bool)=>
   (idxO (fE n cls) ((k497:Nat):Int)).bind fun a597=>
   (idxO (cB n fun k=>((I.count (k:Int)+gE E edO k:Nat):Int)) ((k497:Nat):Int)).bind fun a606=>
   (idxO (cB n fun k=>((O.count (k:Int)+gE E edI k:Nat):Int)) ((k497:Nat):Int)).bind fun a614=>
   (sA a606 a614).bind fun a616=>
   (some (decide ((0:Int)<a616))).bind fun a618=>
   cond a618
   ((setO s582 a597 true).bind fun a628=>
    some a628)
   (some s582)) (fun j hj=>by
  have hle:=hcl.le j
  have c1:I.count (j:Int)≤I.length:=List.count_le_length
  have c2:O.count (j:Int)≤O.length:=List.count_le_length
  have c3:gE E edI j≤eD E edI:=List.count_le_length
  have c4:gE E edO j≤eD E edO:=List.count_le_length
  have hmem:=cnt_mem (E:=E) (I:=I) (O:=O) (w:=(n:Int)) j
  rw [hW] at hmem
  refine bnd (aE _ hj) (bnd (aE _ hj) (bnd (aE _ hj) (bnd (qB (by omega) (by omega)) (stp ?_))))
  by_cases hin:(j:Int)∈W
  ·
   refine cTW (dT (hmem.1 hin)) (bnd (yE _ _ (by omega)) (congrArg some (bE fun k _=>?_)))
   rw [List.range_succ,List.any_append]
   simp only [List.any_cons,List.any_nil,Bool.or_false,dT hin,Bool.true_and]
   by_cases hk:k=cls j
   · rw [if_pos hk,dT hk.symm,Bool.or_true]
   · rw [if_neg hk,dF (fun e=>hk e.symm),Bool.or_false]
  ·
   refine cFW (dF (fun h=>hin (hmem.2 h))) (congrArg some (bE fun k _=>?_))
   rw [List.range_succ,List.any_append]
   simp only [List.any_cons,List.any_nil,Bool.or_false,dF hin,Bool.false_and])
 have e2:(cB n fun r=>(List.range n).any fun w=>decide ((w:Int)∈W)&&decide (cls w=r))=cB n (qD cls W):=bE fun k _=>FQ_ hWr k
 have e20:(cB n fun r=>(List.range 0).any fun w=>decide ((w:Int)∈W)&&decide (cls w=r))=cB n fun _=>false:=rfl
 rw [e2,e20] at a2
 have a3:=gD (n:=n) (fun j=>(cB n (jD (fun k=>if (decide (cls k=k)&&qD cls W k)=true then (numW cls W k:Int) else 0) (fun _=>0) j),(numW cls W j:Int))) (f:=fun (k640:Nat) (s767:List Int×Int)=>
   ((idxO (fE n cls) ((k640:Nat):Int)).bind fun a808=>
    (some (decide (a808=((k640:Nat):Int)))).bind fun a810=>
    cond a810
    ((idxO (cB n (qD cls W)) ((k640:Nat):Int)).bind fun a820=>
     some a820)
    (some false)).bind fun (s796:Bool)=>
   cond s796
   ((setO s767.1 ((k640:Nat):Int) s767.2).bind fun a832=>
    (sA s767.2 1).bind fun a835=>
    some (a832,a835))
   (some (s767.1,s767.2))) (fun j hj=>by
  have hns:=Cm_ cls W j
  have hnl:=Dq_ cls W j
  have hcond:((idxO (fE n cls) (j:Int)).bind fun a808=>
    (some (decide (a808=(j:Int)))).bind fun a810=>
    cond a810
    ((idxO (cB n (qD cls W)) (j:Int)).bind fun a820=>
     some a820)
    (some false))=some (decide (cls j=j)&&qD cls W j):=by
   refine bnd (aE _ hj) (stp ?_)
   by_cases he:cls j=j
   · rw [dT he];exact cTW (dT (by omega)) (bnd (aE _ hj) rfl)
   · rw [dF he];exact cFW (dF (by omega)) rfl
  refine bnd hcond ?_
  rw [←hZ]
  cases hb:(decide (cls j=j)&&qD cls W j) with
  | true=>
   rw [hb] at hns
   refine cTW rfl (bnd (yE _ _ hj) (bnd (qB (by dsimp only;omega) (by dsimp only;omega)) ?_))
   rw [hns,if_pos rfl,if_pos rfl];push_cast;rfl
  | false=>
   rw [hb] at hns
   refine cFW rfl (congrArg some (Prod.ext (bE fun k _=>?_) ?_))
   ·
    by_cases hk:k=j
    · subst hk;rw [if_pos rfl,if_neg (by simp)];unfold jD;rw [if_neg (by omega)]
    · rw [if_neg hk]
   · show (numW cls W j:Int)=(numW cls W (j+1):Int);rw [hns,if_neg (by simp)];rfl)
 have e3:∀ f:Nat→Int,cB n (jD f (fun _=>0) n)=cB n f:=fun f=>bE fun k hk=>by unfold jD;rw [if_pos hk]
 have e30:∀ f:Nat→Int,cB n (jD f (fun _=>0) 0)=cB n fun _=>0:=fun f=>bE fun k hk=>by unfold jD;rw [if_neg (by omega)]
 rw [e3,e30,show numW cls W 0=0 from rfl] at a3
 have a4:=qL (n:=n) (toW cls W) (fun k=>if (decide (cls k=k)&&qD cls W k)=true then (numW cls W k:Int) else 0) (g:=fun (k841:Nat) (s954:List Int)=>
   (idxO (fE n cls) ((k841:Nat):Int)).bind fun a969=>
   (idxO s954 a969).bind fun a977=>
   (setO s954 ((k841:Nat):Int) a977).bind fun a985=>
   (idxO (fE n cls) ((k841:Nat):Int)).bind fun a994=>
   (idxO (cB n (qD cls W)) a994).bind fun a1002=>
   (some (!a1002)).bind fun a1004=>
   cond a1004
   ((setO a985 ((k841:Nat):Int) (-1)).bind fun a1014=>
    some a1014)
   (some a985)) (fun j hj=>by
  have hle:=hcl.le j
  have hid:=hcl.idem j
  refine bnd (aE _ hj) (bnd (aE _ (by omega)) (bnd (yE _ _ hj) (bnd (aE _ hj) (bnd (aE _ (by omega)) (stp ?_)))))
  cases hu:qD cls W (cls j) with
  | false=>
   have ht:toW cls W j = -1:=by unfold toW;rw [hu];rfl
   refine cTW rfl (bnd (yE _ _ hj) (congrArg some (bE fun k _=>?_)))
   rw [ht]
   by_cases hk:k=j
   · rw [if_pos hk,if_pos hk]
   · rw [if_neg hk,if_neg hk,if_neg hk]
  | true=>
   have ht:toW cls W j=(numW cls W (cls j):Int):=by unfold toW;rw [hu];rfl
   refine cFW rfl (congrArg some (bE fun k _=>?_))
   by_cases hk:k=j
   ·
    rw [if_pos hk,if_pos hk,ht]
    unfold jD
    by_cases he:cls j<j
    · rw [if_pos he];unfold toW;rw [hid,hu];rfl
    ·
     have he:cls j=j:=by omega
     rw [he] at hu ⊢
     rw [if_neg (by omega)]
     show (if (decide (cls j=j)&&qD cls W j)=true then (numW cls W j:Int) else 0)=(numW cls W j:Int)
     rw [dT he,hu];rfl
   · rw [if_neg hk,if_neg hk])
 refine bnd (zI _ (by omega)) ?_
 rw [zE]
 refine bnd (qL (fun k=>(k:Int)) (fun _=>0) (fun j hj=>bnd (yE _ _ hj) rfl)) ?_
 refine bnd a1 ?_
 refine bnd (Cq_ (E:=E) (I:=I) (O:=O) (by omega) hg.i hg.o hg.e (by omega)) (bnd (zI _ (by omega)) ?_)
 have hlN:(fE n cls).length=n:=zE _ _
 rw [hlN]
 refine bnd a2 (bnd (zI _ (by omega)) ?_)
 rw [zE]
 refine bnd a3 ?_
 dsimp only
 rw [zE]
 refine bnd a4 (bnd (AT_ _ _ hg) ?_)
 unfold gluG
 rw [hcls,hW]
end Go.Proofs.YtlggnmkelgplnaaGreatDoor
namespace Go.Proofs.YtlggnmkelgplnaaGreatDoor
def shf (n:Nat):Nat→Int:=fun k=>(k:Int)+n
theorem kQ {n m:Nat}{l:List Int} (h:kE m l):kE (n+m) (mp (shf n) l):=by
 intro x hx
 obtain ⟨y,hy,rfl⟩:=List.mem_map.1 hx
 have:=h y hy
 unfold shf
 omega
theorem zP {n m:Nat}{l:List Int} (h:kE n l):kE (n+m) l:=fun x hx=>by have:=h x hx;omega
theorem CA_ (s:Edg→List Int) (t:Nat→Int) (hs:∀ e,(s (mpE t e)).length=(s e).length):∀ E:List Edg,eD (E.map (mpE t)) s=eD E s:=by
 intro E
 induction E with
 | nil=>rfl
 | cons e E ih=>
  unfold eD at ih ⊢
  simp only [List.map_cons,List.flatten_cons,List.length_append]
  rw [hs,ih]
theorem CB_ (s:Edg→List Int) (E E':List Edg):eD (E++E') s=eD E s+eD E' s:=by
 unfold eD;rw [List.map_append,List.flatten_append,List.length_append]
theorem edI_mp (t:Nat→Int) (e:Edg):edI (mpE t e)=mp t (edI e):=rfl
theorem edO_mp (t:Nat→Int) (e:Edg):edO (mpE t e)=mp t (edO e):=rfl
def aL (n m:Nat) (a b:Gra):Gra:=(((n+m:Nat):Int),a.2.1++b.2.1.map (mpE (shf n)),a.2.2.1,mp (shf n) b.2.2.2)
theorem C8_ {n m:Nat}{a b:Gra} (ha:GOk a n) (hb:GOk b m):Rgd (n+m) (aL n m a b):=by
 have h1:=ha.e60;have h2:=hb.e60;have h3:=ha.i12;have h4:=hb.o12;have h5:=ha.ti;have h6:=ha.to;have h7:=hb.ti;have h8:=hb.to
 refine ⟨zP ha.i,kQ hb.o,fun e he=>?_,by unfold aL;dsimp only;omega,by unfold aL;dsimp only;rw [mp_len];omega,by unfold aL;dsimp only;rw [List.length_append,List.length_map];omega,?_,?_⟩
 ·
  rcases List.mem_append.1 he with h | h
  · exact ⟨zP (ha.e e h).1,zP (ha.e e h).2⟩
  ·
   obtain ⟨e',he',rfl⟩:=List.mem_map.1 h
   exact ⟨kQ (hb.e e' he').1,kQ (hb.e e' he').2⟩
 ·
  unfold aL;dsimp only
  rw [CB_,CA_ edI _ (fun e=>by rw [edI_mp,mp_len])];omega
 ·
  unfold aL;dsimp only
  rw [CB_,CA_ edO _ (fun e=>by rw [edO_mp,mp_len])];omega
def pSeq (n m:Nat) (a b:Gra):Gra:=gluG (aL n m a b) (n+m) (a.2.2.2.zip (mp (shf n) b.2.2.1))
theorem hgSeq_ {n m:Nat}{a b:Gra} (ha:GOk a n) (hb:GOk b m) (hl:a.2.2.2.length=b.2.2.1.length):wS a b=some (pSeq n m a b):=by
 have hmm:iB=1099511627776:=rfl
 have n1:=ha.n100;have m1:=hb.n100
 have hB:=Cr_ (by omega) (by omega) ha.w hb.w ha.rgd hb.rgd
 have hR:=C8_ ha hb
 have oa:=ha.o12;have ib:=hb.i12;have ia:=ha.i12;have ob:=hb.o12
 have hG:=Hp_ (A:=a.2.2.2) (B:=mp (shf n) b.2.2.1) (by omega) rfl hR (zP ha.o) (kQ hb.i) (by rw [mp_len,hl])
 obtain ⟨w0,E,I,O⟩:=a
 obtain ⟨w1,E',I',O'⟩:=b
 obtain rfl:w0=(n:Int):=ha.w
 obtain rfl:w1=(m:Int):=hb.w
 dsimp only at oa ib ia ob hl
 have sl1:∀ x y:List Int,fB (x++y) 0 ((x.length:Nat):Int)=some x:=fun x y=>by
  unfold fB;rw [if_pos ⟨by omega,by omega,by rw [List.length_append];omega⟩];simp
 have sl2:∀ x y:List Int,fB (x++y) ((x.length:Nat):Int) (((x++y).length:Nat):Int)=some y:=fun x y=>by
  unfold fB;rw [if_pos ⟨by omega,by rw [List.length_append];omega,by omega⟩]
  rw [Int.toNat_natCast,Int.toNat_natCast,List.drop_left,List.take_of_length_le (by rw [List.length_append];omega)]
 refine bnd hB ?_
 unfold yK
 refine bnd (sl1 O _) (bnd (sl2 I _) (bnd (own_ (by omega)) (bnd (own_ (by rw [mp_len];dsimp only;omega)) (bnd (sl1 I _) (bnd (sl2 O _) (bnd (a:=pSeq n m ((n:Int),E,I,O) ((m:Int),E',I',O')) ?_ rfl))))))
 exact bnd hG rfl
theorem F2_ {n m:Nat}{a b:Gra} (ha:GOk a n) (hb:GOk b m) (hl:a.2.2.2.length=b.2.2.1.length):kO a b=some (pSeq n m a b):=by
 have hmm:iB=1099511627776:=rfl
 have n1:=ha.n100;have m1:=hb.n100
 have hB:=DL_ (by omega) (by omega) ha.w hb.w ha.rgd hb.rgd
 have hR:=C8_ ha hb
 have oa:=ha.o12;have ib:=hb.i12;have ia:=ha.i12;have ob:=hb.o12
 have hP:∀ p∈a.2.2.2.zip (mp (shf n) b.2.2.1),(0≤p.1∧p.1<((n+m:Nat):Int))∧(0≤p.2∧p.2<((n+m:Nat):Int)):=fun p hp=>by
  obtain ⟨x,y⟩:=p
  have h:=List.of_mem_zip hp
  exact ⟨zP ha.o x h.1,kQ hb.i y h.2⟩
 have hG:=glue_ (P:=a.2.2.2.zip (mp (shf n) b.2.2.1)) (by omega) rfl hR hP
 have hO:=hb.o;have hAO:=ha.o;have hBI:=hb.i
 obtain ⟨w0,E,I,O⟩:=a
 obtain ⟨w1,E',I',O'⟩:=b
 obtain rfl:w0=(n:Int):=ha.w
 obtain rfl:w1=(m:Int):=hb.w
 dsimp only at oa ib ia ob hl hO hAO hBI
 have hzl:(O.zip (mp (shf n) I')).length=O.length:=by rw [List.length_zip,mp_len,hl,Nat.min_self]
 have loop:=gD (n:=O.length) (fun j=>(O.zip (mp (shf n) I')).take j) (f:=fun (k32:Nat) (s98:List (Int×Int))=>
   (idxO O ((k32:Nat):Int)).bind fun a114=>
   (idxO I' ((k32:Nat):Int)).bind fun a123=>
   (sA (n:Int) a123).bind fun a125=>
   (tA s98 [(a114,a125)]).bind fun a133=>
   some a133) (fun j hj=>by
  have hji:j<I'.length:=by omega
  have hx:=hBI _ (List.getElem_mem hji)
  have e:(O.zip (mp (shf n) I')).take (j+1)=(O.zip (mp (shf n) I')).take j++[(O[j],(n:Int)+I'[j])]:=by
   rw [List.take_add_one,List.getElem?_eq_getElem (by omega),List.getElem_zip]
   congr 2
   refine congrArg (fun z=>[z]) (Prod.ext rfl ?_)
   unfold mp shf
   rw [List.getElem_map]
   show ((I'[j].toNat:Nat):Int)+n=_
   omega
  rw [e]
  exact bnd (qA (List.getElem?_eq_getElem hj)) (bnd (qA (List.getElem?_eq_getElem hji)) (bnd (qB (by omega) (by omega)) (bnd (vB (by simp;omega)) rfl))))
 rw [List.take_zero,show (O.zip (mp (shf n) I')).take O.length=O.zip (mp (shf n) I') from by rw [←hzl,List.take_length]] at loop
 exact bnd hB (bnd loop (bnd (iV (by dsimp only;omega)) (bnd (aW (by omega) (by omega)) (bnd (uL _ hO (by dsimp only;omega)) (bnd hG rfl)))))
end Go.Proofs.YtlggnmkelgplnaaGreatDoor
namespace Go.Proofs.YtlggnmkelgplnaaGreatDoor
instance:Nice ByteArray:=⟨fun s=>(s.size:Int)≤9223372036854775807⟩
end Go.Proofs.YtlggnmkelgplnaaGreatDoor
