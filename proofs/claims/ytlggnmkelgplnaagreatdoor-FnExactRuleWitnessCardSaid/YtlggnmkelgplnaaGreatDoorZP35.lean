/-
  Plain laws: what rows span, rows that are independent, reduced lists are determined by what they span. No program in sight. No condition.
-/
import Derived.Test.YtlggnmkelgplnaaGreatDoorZP17
namespace Go.Proofs.YtlggnmkelgplnaaGreatDoor
set_option linter.unusedVariables false
def eE (p:Int) (n:Nat) (m:Rows) (v:List Int):Prop:=∃ x:Nat→Int,∀ j,j<n→el v j % p=sg m.length (fun i=>x i*el (gr m i) j) % p
def Indep (p:Int) (n:Nat) (m:Rows):Prop:=∀ x:Nat→Int,(∀ j,j<n→sg m.length (fun i=>x i*el (gr m i) j) % p=0)→∀ i,i<m.length→x i % p=0
def uD (p:Int) (n:Nat) (a b:Rows):Prop:=∀ i,i<a.length→eE p n b (gr a i)
theorem Bg_ (c:Int) (f:Nat→Int) (k:Nat):sg k (fun i=>f i*c)=sg k f*c:=by
 rw [cD (g:=fun i=>c*f i) (fun i _=>Int.mul_comm _ _),sg_mul,Int.mul_comm]
theorem BK_ (f:Nat→Int) (k:Nat):sg k (fun i=>- f i) = - sg k f:=by
 rw [cD (g:=fun i=>(-1)*f i) (fun i _=>by omega),sg_mul];omega
theorem sg_sub (f g:Nat→Int) (k:Nat):sg k (fun i=>f i-g i)=sg k f-sg k g:=by
 rw [cD (g:=fun i=>f i + - g i) (fun i _=>Int.sub_eq_add_neg),sg_add,BK_];omega
theorem sg_split {f:Nat→Int}{k r:Nat} (h:r<k):sg k f=sg k (fun i=>if i=r then 0 else f i)+f r:=by
 have h1:sg k (fun i=>if i=r then f i else 0)=f r:=by
  rw [dI h (fun i _ hn=>if_neg hn),if_pos rfl]
 rw [←h1,← sg_add]
 exact cD fun i _=>by by_cases hi:i=r <;> simp [hi]
theorem wU {p a b:Int} (h:(a-b) % p=0):a % p=b % p:=by
 have h2:a=(a-b)+b:=by omega
 rw [h2,Int.add_emod,h,Int.zero_add,mod_mod]
theorem jU {p a b:Int} (h:a % p=0):(a*b) % p=0:=by rw [←jR,h,Int.zero_mul];exact Int.zero_emod p
theorem GH_ {p a b:Int} (h:b % p=0):(a*b) % p=0:=by rw [Int.mul_comm];exact jU h
theorem qF {p:Int}{n:Nat}{m:Rows}{i:Nat} (h:i<m.length):eE p n m (gr m i):=by
 refine ⟨fun t=>if t=i then 1 else 0,fun j _=>?_⟩
 rw [dI h (fun t _ hn=>by show (if t=i then (1:Int) else 0)*_=0;rw [if_neg hn,Int.zero_mul])]
 show _=(if i=i then (1:Int) else 0)*_ % p
 rw [if_pos rfl,Int.one_mul]
theorem uN {p:Int}{n:Nat}{a b:Rows}{v:List Int} (hab:uD p n a b) (hv:eE p n a v):eE p n b v:=by
 obtain ⟨x,hx⟩:=hv
 have hY:∃ Y:Nat→Nat→Int,∀ i,i<a.length→∀ j,j<n→el (gr a i) j % p=sg b.length (fun t=>Y i t*el (gr b t) j) % p:=by
  refine ⟨fun i=>if h:i<a.length then Classical.choose (hab i h) else fun _=>0,fun i hi=>?_⟩
  simp only [dif_pos hi]
  exact Classical.choose_spec (hab i hi)
 obtain ⟨Y,hY⟩:=hY
 refine ⟨fun t=>sg a.length (fun i=>x i*Y i t),fun j hj=>?_⟩
 rw [hx j hj]
 have e:sg b.length (fun t=>sg a.length (fun i=>x i*Y i t)*el (gr b t) j)=sg a.length (fun i=>x i*sg b.length (fun t=>Y i t*el (gr b t) j)):=by
  rw [cD (g:=fun t=>sg a.length (fun i=>x i*Y i t*el (gr b t) j)) (fun t _=>(Bg_ _ _ _).symm),gW]
  refine cD fun i _=>?_
  rw [←sg_mul]
  exact cD fun t _=>Int.mul_assoc _ _ _
 rw [e]
 refine eI fun i hi=>?_
 rw [←mul_mod2,hY i hi j hj,mul_mod2]
theorem gU (p:Int) (n:Nat) (a:Rows):uD p n a a:=fun i hi=>qF hi
theorem nJ {p:Int}{n:Nat}{a b c:Rows} (h:uD p n a b) (k:uD p n b c):uD p n a c:=fun i hi=>uN k (h i hi)
theorem kU {p:Int}{n:Nat}{m:Rows}{u v w:List Int} (c d:Int) (hu:eE p n m u) (hv:eE p n m v) (h:∀ j,j<n→el w j % p=(c*el u j+d*el v j) % p):eE p n m w:=by
 obtain ⟨x,hx⟩:=hu
 obtain ⟨y,hy⟩:=hv
 refine ⟨fun i=>c*x i+d*y i,fun j hj=>?_⟩
 rw [h j hj,Int.add_emod,← mul_mod2,← mul_mod2 p d,hx j hj,hy j hj,mul_mod2,mul_mod2,← Int.add_emod,← sg_mul,← sg_mul,← sg_add]
 congr 1
 exact cD fun i _=>by rw [Int.add_mul,Int.mul_assoc,Int.mul_assoc]
theorem Ho_ {p:Int}{n:Nat}{m:Rows}{v:List Int} (h:∀ j,j<n→el v j % p=0):eE p n m v:=
 ⟨fun _=>0,fun j hj=>by rw [h j hj,yJ (fun i _=>Int.zero_mul _)];exact (Int.zero_emod p).symm⟩
theorem HW_ {p:Int}{n:Nat}{m:Rows}{r k:Nat} (hr:r<m.length) (hk:k<m.length):uD p n (mB m r k) m∧uD p n m (mB m r k):=by
 have hl:=swapM_len m r k
 constructor
 ·
  intro i hi
  rw [hl] at hi
  rw [yG hr hk]
  split
  · exact qF hr
  ·
   split
   · exact qF hk
   · exact qF hi
 ·
  intro i hi
  by_cases h1:i=k
  ·
   subst h1
   have:=qF (p:=p) (n:=n) (m:=mB m r i) (i:=r) (by rw [hl];exact hr)
   rw [yG hr hk] at this
   by_cases h2:r=i
   · subst h2;rw [if_pos rfl] at this;exact this
   · rw [if_neg h2,if_pos rfl] at this;exact this
  ·
   by_cases h2:i=r
   ·
    subst h2
    have:=qF (p:=p) (n:=n) (m:=mB m i k) (i:=k) (by rw [hl];exact hk)
    rw [yG hr hk,if_pos rfl] at this;exact this
   ·
    have:=qF (p:=p) (n:=n) (m:=mB m r k) (i:=i) (by rw [hl];exact hi)
    rw [yG hr hk,if_neg h1,if_neg h2] at this;exact this
theorem dO {p:Int}{c r k N q:Nat}{m a:Rows} (hf:fdB p=true) (h:okM p N m) (ha:okM p q a) (hl:a.length=m.length) (hr:r<m.length) (hk:k<m.length) (hc:c<N) (hne:el (gr m k) c≠0) :
  let iv:=aE p (el (gr m k) c)
  (el (gr m k) c*iv) % p=1∧(∀ j,j<q→el (gr (qB p c m a r k) r) j=(el (gr a k) j*iv) % p) ∧
  ∀ i,i<m.length→i≠r→∀ j,j<q→el (gr (qB p c m a r k) i) j=(el (gr (mB a r k) i) j-el (gr (mB m r k) i) c*el (gr (qB p c m a r k) r) j) % p:=by
 intro iv
 have hp:=dC hf
 have hel:=fI h hk hc
 obtain ⟨_,i1,i2,i3⟩:=pR hf (x:=el (gr m k) c) ⟨by omega,hel.2⟩
 have hra:r<a.length:=by omega
 have hka:k<a.length:=by omega
 have hsr:gr (mB m r k) r=gr m k:=swapM_gr hr hk
 have hsra:gr (mB a r k) r=gr a k:=swapM_gr hra hka
 have hso:okM p q (mB a r k):=qM ha hra hka
 have hpl:(uB p c m a r k).length=a.length:=eO p c m a r k
 have hpr:gr (uB p c m a r k) r=qD (bH p iv) (gr a k):=by
  rw [vR hra,if_pos rfl,hsr,hsra]
 have hrow:=lC ha hka
 have hpe:∀ j,j<q→el (gr (uB p c m a r k) r) j=(el (gr a k) j*iv) % p:=fun j hj=>by
  rw [hpr,oO (by omega)];rfl
 have hst:∀ i,i<m.length→gr (qB p c m a r k) i=aC p c r (uB p c m m r k) (uB p c m a r k) i (gr (uB p c m a r k) i):=fun i hi=>Ef_ (by rw [hpl];omega)
 have hstr:∀ j,j<q→el (gr (qB p c m a r k) r) j=(el (gr a k) j*iv) % p:=fun j hj=>by
  rw [hst r hr]
  unfold aC
  rw [if_pos (.inl rfl)]
  exact hpe j hj
 refine ⟨i1,hstr,fun i hi hir j hj=>?_⟩
 rw [hstr j hj,hst i hi]
 have hpi:gr (uB p c m a r k) i=gr (mB a r k) i:=by rw [vR hra,if_neg hir]
 have hpm:gr (uB p c m m r k) i=gr (mB m r k) i:=by rw [vR hr,if_neg hir]
 have hsi:=lC hso (i:=i) (by rw [swapM_len];omega)
 have hb:=fI hso (i:=i) (by rw [swapM_len];omega) hj
 unfold aC
 by_cases h0:el (gr (uB p c m m r k) i) c=0
 ·
  rw [if_pos (.inr h0),hpi]
  rw [hpm] at h0
  rw [h0,Int.zero_mul,Int.sub_zero,xI hb]
 ·
  rw [if_neg (by intro h1;rcases h1 with h1 | h1;exact hir h1;exact h0 h1)]
  rw [oO (by rw [hpi];omega)]
  unfold rE
  rw [hpi,hpe j hj,hpm]
theorem HY_ {p:Int}{c r k N q:Nat}{m a:Rows} (hf:fdB p=true) (h:okM p N m) (ha:okM p q a) (hl:a.length=m.length) (hr:r<m.length) (hk:k<m.length) (hc:c<N) (hne:el (gr m k) c≠0) :
  uD p q (qB p c m a r k) a∧uD p q a (qB p c m a r k):=by
 obtain ⟨e1,e2,e3⟩:=dO hf h ha hl hr hk hc hne
 have hsl:(qB p c m a r k).length=m.length:=by rw [bE,hl]
 have hra:r<a.length:=by omega
 have hka:k<a.length:=by omega
 obtain ⟨w1,w2⟩:=HW_ (p:=p) (n:=q) (m:=a) hra hka
 have hnr:eE p q a (gr (qB p c m a r k) r):=by
  refine kU (aE p (el (gr m k) c)) 0 (qF hka) (qF hka) fun j hj=>?_
  rw [e2 j hj,mod_mod,Int.zero_mul,Int.add_zero,Int.mul_comm]
 constructor
 ·
  intro i hi
  rw [hsl] at hi
  by_cases hir:i=r
  · rw [hir];exact hnr
  ·
   refine kU 1 (- el (gr (mB m r k) i) c) (w1 i (by rw [swapM_len];omega)) hnr fun j hj=>?_
   rw [e3 i hi hir j hj,mod_mod,Int.one_mul,Int.neg_mul,Int.sub_eq_add_neg]
 ·
  refine nJ w2 ?_
  have hrr:eE p q (qB p c m a r k) (gr (qB p c m a r k) r):=qF (by rw [hsl];exact hr)
  intro i hi
  rw [swapM_len] at hi
  by_cases hir:i=r
  ·
   rw [hir,swapM_gr hra hka]
   refine kU (el (gr m k) c) 0 hrr hrr fun j hj=>?_
   rw [e2 j hj,Int.zero_mul,Int.add_zero,mul_mod2,← Int.mul_assoc,Int.mul_comm (el (gr m k) c),Int.mul_assoc,← mul_mod2,e1,Int.mul_one]
  ·
   refine kU 1 (el (gr (mB m r k) i) c) (qF (i:=i) (by rw [hsl];omega)) hrr fun j hj=>?_
   rw [e3 i (by omega) hir j hj,Int.one_mul,add_mod1]
   congr 1;omega
theorem aR {p:Int}{N q:Nat} (hf:fdB p=true):∀ (d c:Nat) (m a:Rows) (r:Nat),c+d≤N→okM p N m→okM p q a→a.length=m.length→r≤m.length→uD p q (cC p d c m a r).2.1 a∧uD p q a (cC p d c m a r).2.1
 | 0,_,_,a,_,_,_,_,_,_=>⟨gU p q a,gU p q a⟩
 | d+1,c,m,a,r,hN,h,ha,hl,hr=>by
  unfold cC
  by_cases hrl:r<m.length
  ·
   rw [if_pos hrl]
   obtain ⟨s1,s2,s3⟩:=uI m c (m.length-r) r (by omega)
   split
   · exact aR hf d (c+1) m a r (by omega) h ha hl hr
   ·
    rename_i hk
    have hkl:scanN m c (m.length-r) r<m.length:=by omega
    have ha2:okM p q (qB p c m a r (scanN m c (m.length-r) r)):=zG (dC hf).1 ha (by omega) (by omega)
    obtain ⟨k1,k2⟩:=aR hf d (c+1) (qB p c m m r (scanN m c (m.length-r) r)) (qB p c m a r (scanN m c (m.length-r) r)) (r+1) (by omega) (zG (dC hf).1 h hrl hkl) ha2 (by rw [bE,bE];exact hl) (by rw [bE];omega)
    obtain ⟨w1,w2⟩:=HY_ hf h ha hl hrl hkl (show c<N by omega) (s3 hkl)
    exact ⟨nJ k1 w1,nJ w2 k2⟩
  · rw [if_neg hrl];exact ⟨gU p q a,gU p q a⟩
theorem Ai_ (p:Int):∀ (d c:Nat) (m:Rows) (r:Nat),(cC p d c m m r).2.1=(cC p d c m m r).1
 | 0,_,_,_=>rfl
 | d+1,c,m,r=>by
  unfold cC
  split
  ·
   split
   · exact Ai_ p d (c+1) m r
   · exact Ai_ p d (c+1) _ (r+1)
  · rfl
theorem HV_ {p:Int}{n k:Nat}{m:Rows} (hz:∀ i,k≤i→i<m.length→∀ j,j<n→el (gr m i) j=0):uD p n (m.take k) m∧uD p n m (m.take k):=by
 constructor
 ·
  intro i hi
  rw [List.length_take] at hi
  rw [zJ (by omega)]
  exact qF (by omega)
 ·
  intro i hi
  rcases Nat.lt_or_ge i k with h | h
  ·
   have:=qF (p:=p) (n:=n) (m:=m.take k) (i:=i) (by rw [List.length_take];omega)
   rw [zJ h] at this;exact this
  · exact Ho_ fun j hj=>by rw [hz i h hi j hj];exact Int.zero_emod p
theorem nM {p:Int}{n:Nat}{m:Rows} (hf:fdB p=true) (h:okM p n m):uD p n (eC p n m) m∧uD p n m (eC p n m):=by
 obtain ⟨k1,k2⟩:=aR hf n 0 m m 0 (by omega) h h rfl (by omega)
 rw [Ai_] at k1 k2
 have h1:=oQ hf n 0 m 0 (by omega) h (RedI.start m)
 rw [Nat.zero_add] at h1
 obtain ⟨w1,w2⟩:=HV_ (p:=p) (n:=n) (m:=(cC p n 0 m m 0).1) (k:=(cC p n 0 m m 0).2.2) h1.rest
 exact ⟨nJ w1 k1,nJ k2 w2⟩
theorem Indep.swap {p:Int}{n:Nat}{m:Rows}{r k:Nat} (hr:r<m.length) (hk:k<m.length) (h:Indep p n m):Indep p n (mB m r k):=by
 intro x hx
 have hl:=swapM_len m r k
 have key:∀ f:List Int→Int,sg (mB m r k).length (fun i=>x i*f (gr (mB m r k) i))=sg m.length (fun i=>(if i=r then x k else if i=k then x r else x i)*f (gr m i)):=by
  intro f
  rw [hl]
  by_cases hrk:r=k
  ·
   subst hrk
   refine cD fun i hi=>?_
   rw [yG hr hk]
   by_cases h1:i=r
   · subst h1;simp
   · simp [h1]
  ·
   rw [sg_split hr,sg_split (f:=fun i=>if i=r then 0 else _) hk,sg_split (f:=fun i=>(if i=r then x k else if i=k then x r else x i)*f (gr m i)) hr,sg_split (f:=fun i=>if i=r then 0 else (if i=r then x k else if i=k then x r else x i)*f (gr m i)) hk]
   have e1:sg m.length (fun i=>if i=k then 0 else if i=r then 0 else x i*f (gr (mB m r k) i))=sg m.length (fun i=>if i=k then 0 else if i=r then 0 else (if i=r then x k else if i=k then x r else x i)*f (gr m i)):=by
    refine cD fun i _=>?_
    by_cases h1:i=k
    · simp [h1]
    ·
     by_cases h2:i=r
     · simp [h2]
     · rw [yG hr hk];simp [h1,h2]
   rw [e1,if_neg (Ne.symm hrk),if_neg (Ne.symm hrk),swapM_gr hr hk,yG hr hk,if_pos rfl]
   simp only [if_true,if_neg (Ne.symm hrk)]
   omega
 have h2:=h (fun i=>if i=r then x k else if i=k then x r else x i) (fun j hj=>by rw [←key (fun l=>el l j)];exact hx j hj)
 intro i hi
 rw [hl] at hi
 by_cases h1:i=k
 ·
  subst h1
  have:=h2 r hr
  simpa using this
 ·
  by_cases h3:i=r
  ·
   subst h3
   have:=h2 k hk
   by_cases h4:k=i
   · exact absurd h4.symm h1
   · simpa [h4] using this
  ·
   have:=h2 i hi
   simpa [h1,h3] using this
theorem IC_ {p:Int}{c r k N q:Nat}{m a:Rows} (hf:fdB p=true) (h:okM p N m) (ha:okM p q a) (hl:a.length=m.length) (hr:r<m.length) (hk:k<m.length) (hc:c<N) (hne:el (gr m k) c≠0) (x:Nat→Int){j:Nat} (hj:j<q) :
  sg m.length (fun i=>x i*el (gr (qB p c m a r k) i) j) % p=(sg m.length (fun i=>if i=r then 0 else x i*el (gr (mB a r k) i) j)+(x r-sg m.length (fun i=>if i=r then 0 else x i*el (gr (mB m r k) i) c))*(aE p (el (gr m k) c)*el (gr a k) j)) % p:=by
 obtain ⟨e1,e2,e3⟩:=dO hf h ha hl hr hk hc hne
 rw [sg_split hr]
 have h1:sg m.length (fun i=>if i=r then 0 else x i*el (gr (qB p c m a r k) i) j) % p=sg m.length (fun i=>if i=r then 0 else x i*(el (gr (mB a r k) i) j-el (gr (mB m r k) i) c*el (gr (qB p c m a r k) r) j)) % p:=by
  refine eI fun i hi=>?_
  by_cases hir:i=r
  · rw [if_pos hir,if_pos hir]
  · rw [if_neg hir,if_neg hir,e3 i hi hir j hj,mul_mod2]
 have h2:sg m.length (fun i=>if i=r then 0 else x i*(el (gr (mB a r k) i) j-el (gr (mB m r k) i) c*el (gr (qB p c m a r k) r) j))=sg m.length (fun i=>if i=r then 0 else x i*el (gr (mB a r k) i) j)-sg m.length (fun i=>if i=r then 0 else x i*el (gr (mB m r k) i) c)*el (gr (qB p c m a r k) r) j:=by
  rw [←Bg_,← sg_sub]
  refine cD fun i _=>?_
  by_cases hir:i=r
  · simp [hir]
  · simp only [if_neg hir];rw [Int.mul_sub,Int.mul_assoc]
 rw [Int.add_emod,h1,h2,← Int.add_emod]
 generalize sg m.length (fun i=>if i=r then 0 else x i*el (gr (mB a r k) i) j)=A
 generalize sg m.length (fun i=>if i=r then 0 else x i*el (gr (mB m r k) i) c)=F
 have e4:A-F*el (gr (qB p c m a r k) r) j+x r*el (gr (qB p c m a r k) r) j=A+(x r-F)*el (gr (qB p c m a r k) r) j:=by rw [Int.sub_mul];omega
 rw [e4,e2 j hj,Int.add_emod,mul_mod2,← Int.add_emod,Int.mul_comm (el (gr a k) j)]
theorem Indep.step {p:Int}{c r k N q:Nat}{m a:Rows} (hf:fdB p=true) (h:okM p N m) (ha:okM p q a) (hl:a.length=m.length) (hr:r<m.length) (hk:k<m.length) (hc:c<N) (hne:el (gr m k) c≠0) (hi:Indep p q a):Indep p q (qB p c m a r k):=by
 obtain ⟨e1,e2,e3⟩:=dO hf h ha hl hr hk hc hne
 have hsl:(qB p c m a r k).length=m.length:=by rw [bE,hl]
 have hra:r<a.length:=by omega
 have hka:k<a.length:=by omega
 intro x hx
 rw [hsl] at hx ⊢
 have hs:=Indep.swap hra hka hi (fun i=>if i=r then (x r-sg m.length (fun i=>if i=r then 0 else x i*el (gr (mB m r k) i) c))*aE p (el (gr m k) c) else x i) (fun j hj=>by
  rw [swapM_len,hl,sg_split hr,if_pos rfl,swapM_gr hra hka]
  have:=hx j hj
  rw [IC_ hf h ha hl hr hk hc hne x hj] at this
  refine Eq.trans ?_ this
  rw [Int.mul_assoc]
  refine congrArg (fun z=>(z+_) % p) ?_
  refine cD fun i _=>?_
  by_cases hir:i=r
  · rw [if_pos hir,if_pos hir]
  · rw [if_neg hir,if_neg hir,if_neg hir])
 rw [swapM_len,hl] at hs
 have h0:∀ i,i<m.length→i≠r→x i % p=0:=fun i h1 h2=>by
  have:=hs i h1
  simpa only [if_neg h2] using this
 intro i h1
 by_cases h2:i=r
 ·
  subst h2
  have h3:=hs i hr
  simp only [if_true] at h3
  have hF:sg m.length (fun t=>if t=i then 0 else x t*el (gr (mB m i k) t) c) % p=0:=by
   rw [eI (g:=fun _=>0) (fun t ht=>by
    by_cases hti:t=i
    · rw [if_pos hti]
    · rw [if_neg hti,jU (h0 t ht hti)];exact (Int.zero_emod p).symm),yJ (fun _ _=>rfl)]
   exact Int.zero_emod p
  generalize sg m.length (fun t=>if t=i then 0 else x t*el (gr (mB m i k) t) c)=F at h3 hF
  have h4:(x i-F) % p=0:=by
   have h5:=jU (b:=el (gr m k) c) h3
   rw [Int.mul_assoc,Int.mul_comm (aE p _),← mul_mod2,e1,Int.mul_one] at h5
   exact h5
  rw [wU h4,hF]
 · exact h0 i h1 h2
theorem Red.indep {p:Int}{n:Nat}{b:Rows} (h:Red p n b):Indep p n b:=by
 intro x hx i hi
 have:=hx _ (h.lt i hi)
 rw [dI hi (fun t ht hn=>by rw [h.zero i t hi ht (Ne.symm hn),Int.mul_zero]),h.one i hi,Int.mul_one] at this
 exact this
theorem C1_ {p:Int}{n:Nat}{b:Rows}{v:List Int} (hb:Red p n b) (hv:eE p n b v):∀ j,j<n→el v j % p=sg b.length (fun i=>el v (leadN (gr b i))*el (gr b i) j) % p:=by
 obtain ⟨x,hx⟩:=hv
 intro j hj
 rw [hx j hj]
 refine eI fun i hi=>?_
 have h1:=hx _ (hb.lt i hi)
 rw [dI hi (fun t ht hn=>by rw [hb.zero i t hi ht (Ne.symm hn),Int.mul_zero]),hb.one i hi,Int.mul_one] at h1
 rw [←jR,← h1,jR]
theorem H2_ {p:Int}{n:Nat}{b:Rows}{v:List Int} (hp:2≤p) (hb:Red p n b) (hv:okR p n v) (hs:eE p n b v) (h0:leadN v<n):∃ i,i<b.length∧leadN (gr b i)=leadN v:=by
 apply Classical.byContradiction
 intro hno
 have hno:∀ i,i<b.length→leadN (gr b i)≠leadN v:=fun i hi he=>hno ⟨i,hi,he⟩
 have h1:=C1_ hb hs _ h0
 have h2:sg b.length (fun i=>el v (leadN (gr b i))*el (gr b i) (leadN v))=0:=by
  refine yJ fun i hi=>?_
  rcases Nat.lt_trichotomy (leadN (gr b i)) (leadN v) with h | h | h
  · rw [vM v _ h,Int.zero_mul]
  · exact absurd h (hno i hi)
  · rw [vM (gr b i) _ h,Int.mul_zero]
 rw [h2,Int.zero_emod,xI (hv.2 _ (fF (by rw [hv.1];exact h0)))] at h1
 exact oR v (by rw [hv.1];exact h0) h1
theorem D0_ {p:Int}{n:Nat}{b b':Rows} (hp:2≤p) (hb:Red p n b) (hb':Red p n b') (hs:uD p n b b'):∀ k,k≤b.length→∃ g:Nat→Nat,(∀ i,i<k→g i<b'.length∧leadN (gr b' (g i))=leadN (gr b i))∧(∀ i,i<k→i≤g i):=by
 intro k hk
 have hex:∀ i,i<b.length→∃ t,t<b'.length∧leadN (gr b' t)=leadN (gr b i):=fun i hi=>H2_ hp hb' (lC hb.ok hi) (hs i hi) (hb.lt i hi)
 refine ⟨fun i=>if h:i<b.length then Classical.choose (hex i h) else 0,fun i hi=>?_,fun i hi=>?_⟩
 ·
  simp only [dif_pos (Nat.lt_of_lt_of_le hi hk)]
  exact Classical.choose_spec (hex i (Nat.lt_of_lt_of_le hi hk))
 ·
  induction i with
  | zero=>exact Nat.zero_le _
  | succ i ih=>
   have h1:=ih (by omega)
   have hi1:i<b.length:=by omega
   have hi2:i+1<b.length:=by omega
   simp only [dif_pos hi1] at h1
   simp only [dif_pos hi2]
   have s1:=Classical.choose_spec (hex i hi1)
   have s2:=Classical.choose_spec (hex (i+1) hi2)
   generalize Classical.choose (hex i hi1)=t1 at s1 h1
   generalize Classical.choose (hex (i+1) hi2)=t2 at s2
   have hlt:=hb.inc i (i+1) (by omega) hi2
   have:t1<t2:=by
    rcases Nat.lt_trichotomy t1 t2 with h | h | h
    · exact h
    · rw [h] at s1;omega
    · have:=hb'.inc t2 t1 h s1.1;omega
   omega
theorem C4_ {p:Int}{n:Nat}{b b':Rows} (hp:2≤p) (hb:Red p n b) (hb':Red p n b') (hs:uD p n b b'):b.length≤b'.length:=by
 obtain ⟨g,h1,h2⟩:=D0_ hp hb hb' hs b.length (Nat.le_refl _)
 rcases Nat.eq_zero_or_pos b.length with h0 | h0
 · omega
 ·
  have:=(h1 (b.length-1) (by omega)).1
  have:=h2 (b.length-1) (by omega)
  omega
theorem red_eq {p:Int}{n:Nat}{b b':Rows} (hp:2≤p) (hb:Red p n b) (hb':Red p n b') (hs:uD p n b b') (hl:b.length=b'.length):b=b':=by
 obtain ⟨g,h1,h2⟩:=D0_ hp hb hb' hs b.length (Nat.le_refl _)
 have hg:∀ d i,i+d+1=b.length→g i=i:=by
  intro d
  induction d with
  | zero=>
   intro i hi
   have:=(h1 i (by omega)).1
   have:=h2 i (by omega)
   omega
  | succ d ih=>
   intro i hi
   have e1:=ih (i+1) (by omega)
   have a1:=h1 i (by omega)
   have a2:=h1 (i+1) (by omega)
   have a3:=hb.inc i (i+1) (by omega) (by omega)
   have a4:=h2 i (by omega)
   rw [e1] at a2
   rcases Nat.lt_trichotomy (g i) (i+1) with h | h | h
   · omega
   · rw [h] at a1;omega
   · have:=hb'.inc (i+1) (g i) h a1.1;omega
 have hlead:∀ i,i<b.length→leadN (gr b' i)=leadN (gr b i):=fun i hi=>by
  have:=(h1 i hi).2
  rw [hg (b.length-1-i) i (by omega)] at this;exact this
 refine Fp_ hl fun i hi=>?_
 have r1:=lC hb.ok hi
 have r2:=lC hb'.ok (i:=i) (by omega)
 refine tO (by rw [r1.1,r2.1]) fun j hj=>?_
 rw [r1.1] at hj
 have h3:=C1_ hb' (hs i hi) j hj
 rw [dI (i0:=i) (by omega) (fun t ht hn=>by rw [hlead t (by omega),hb.zero t i (by omega) hi hn,Int.zero_mul]),hlead i hi,hb.one i hi,Int.one_mul] at h3
 rw [xI (r1.2 _ (fF (by omega))),xI (r2.2 _ (fF (by omega)))] at h3
 exact h3
theorem Aw_ {p:Int}{n:Nat}{b b':Rows} (hp:2≤p) (hb:Red p n b) (hb':Red p n b') (h1:uD p n b b') (h2:uD p n b' b):b=b':=
 red_eq hp hb hb' h1 (Nat.le_antisymm (C4_ hp hb hb' h1) (C4_ hp hb' hb h2))
theorem CS_ {p:Int}{n:Nat}{a b:Rows} (hf:fdB p=true) (ha:okM p n a) (hb:okM p n b) (h1:uD p n a b) (h2:uD p n b a):eC p n a=eC p n b:=by
 obtain ⟨a1,a2⟩:=nM hf ha
 obtain ⟨b1,b2⟩:=nM hf hb
 exact Aw_ (dC hf).1 (lG hf ha) (lG hf hb) (nJ a1 (nJ h1 b2)) (nJ b1 (nJ h2 a2))
theorem Dq_ {p:Int}{n:Nat}{b:Rows} (hf:fdB p=true) (h:Red p n b):eC p n b=b:=by
 obtain ⟨a1,a2⟩:=nM hf h.ok
 exact Aw_ (dC hf).1 (lG hf h.ok) h a1 a2
end Go.Proofs.YtlggnmkelgplnaaGreatDoor
namespace Go.Proofs.YtlggnmkelgplnaaGreatDoor
end Go.Proofs.YtlggnmkelgplnaaGreatDoor
namespace Go.Proofs.YtlggnmkelgplnaaGreatDoor
theorem H6_ {p:Int}{n:Nat}{m:List (List Int)} (h:dJ p n m) (hn:n≤1048576):∀ r∈m,r.length≤iB:=by
 intro r hr;have:=(h r hr).1;have hm:iB=1099511627776:=rfl;omega
end Go.Proofs.YtlggnmkelgplnaaGreatDoor
namespace Go.Proofs.YtlggnmkelgplnaaGreatDoor
end Go.Proofs.YtlggnmkelgplnaaGreatDoor
namespace Go.Proofs.YtlggnmkelgplnaaGreatDoor
end Go.Proofs.YtlggnmkelgplnaaGreatDoor
namespace Go.Proofs.YtlggnmkelgplnaaGreatDoor
def eJ (a:List Int):Nat:=a.length
def vX (a:List Int):Nat:=iJ a
theorem Em_ (a:List Int):vX a≤8*eJ a:=by unfold vX eJ iJ;omega
def Bo_:=mkS
theorem Aq_ (a:List Int) (k:Int):(Bo_ a k).2=k+vX a:=mkS_snd a k
theorem vO (a:List Int) (h:eJ a≤1048576):qJ a a=some true:=by rw [eqIntS a a (by unfold eJ at h;unfold lS;omega),show decide (a=a)=true from dT rfl]
theorem Fg_ (a:List Int) (k:Int) (h0:0≤k) (h:k+8*eJ a≤1125899906842624):kN a k=some (Bo_ a k):=IP_ a k h0 (by unfold eJ at h;unfold iJ aF;omega)
theorem zW (a:List Int) (k:Int) (h0:0≤k) (h:k+8*eJ a≤1125899906842624):cM (Bo_ a k).1 k=some (k+vX a):=IV_ a k h0 (by unfold eJ at h;unfold iJ aF;omega)
end Go.Proofs.YtlggnmkelgplnaaGreatDoor
namespace Go.Proofs.YtlggnmkelgplnaaGreatDoor
end Go.Proofs.YtlggnmkelgplnaaGreatDoor
namespace Go.Proofs.YtlggnmkelgplnaaGreatDoor
set_option linter.unusedVariables false
theorem gr_app1 {a b:Rows}{i:Nat} (h:i<a.length):gr (a++b) i=gr a i:=by
 unfold gr;rw [List.getD_eq_getElem?_getD,List.getD_eq_getElem?_getD,List.getElem?_append_left h]
theorem gr_app2 {a b:Rows} (i:Nat):gr (a++b) (a.length+i)=gr b i:=by
 unfold gr;rw [List.getD_eq_getElem?_getD,List.getD_eq_getElem?_getD,List.getElem?_append_right (by omega),Nat.add_sub_cancel_left]
theorem okM_app {p:Int}{n:Nat}{a b:Rows} (h1:okM p n a) (h2:okM p n b):okM p n (a++b):=
 fun r hr=>(List.mem_append.1 hr).elim (h1 r) (h2 r)
section
variable {p:Int}{n:Nat}{A B:Rows}
end
end Go.Proofs.YtlggnmkelgplnaaGreatDoor
namespace Go.Proofs.YtlggnmkelgplnaaGreatDoor
theorem In_ {α:Type} (l:List (List α)) (j:Nat):(l.take j).flatten.length≤l.flatten.length:=by
 have:l.flatten=(l.take j).flatten++(l.drop j).flatten:=by rw [←List.flatten_append,List.take_append_drop]
 rw [this,List.length_append];omega
theorem Io_ {α:Type} (l:List (List α)){j:Nat}{x:List α} (h:l[j]?=some x):(l.take (j+1)).flatten=(l.take j).flatten++x:=by
 rw [List.take_add_one,h]
 simp only [Option.toList_some,List.flatten_append,List.flatten_cons,List.flatten_nil,List.append_nil]
theorem xR {l:Rows} (h:l.flatten.length≤iB):jH l=some l.flatten:=by
 have:=iD (n:=l.length) (fun j=>(l.take j).flatten) (f:=fun (k5:Nat) (s41:List Int)=>
   (idxO l ((k5:Nat):Int)).bind fun a57=>
   (tA s41 a57).bind fun a61=>
   some a61) (by
  intro j hj
  have h1:=fE hj
  have h2:=Io_ l h1
  have h3:=In_ l (j+1)
  refine bnd (kD hj) (bnd (vB ?_) (by rw [h2]))
  rw [h2,List.length_append] at h3;omega)
 exact bnd this (by rw [List.take_of_length_le (Nat.le_refl _)])
theorem Bj_ {p:Int}{l r:Nat}{x y:List Int} (hx:okR p l x) (hy:okR p r y):okR p (l+r) (x++y):=
 ⟨by rw [List.length_append,hx.1,hy.1],fun z hz=>by rcases List.mem_append.1 hz with h | h;exact hx.2 z h;exact hy.2 z h⟩
theorem IW_ {p:Int}{l r:Nat}{R:Rel}{v:List Int} (h:RlOk p l r R) (hv:okR p (l+r) v):sT p R v=some (sG p (l+r) R.2.2 v):=by
 have:=h.n24;have:=h.len
 exact bnd (Ha_ h.hf h.red hv (by omega) (by omega)) rfl
theorem AO_ {α:Type}{τ:Type}{f:Nat→Unit→Option (Unit⊕τ)} (P:α→Bool) (t:α→τ):∀ (l:List α) (k:Nat),(∀ j a,l[j]?=some a→f (k+j) ()=some (if P a then .inl () else .inr (t a))) →
  nC f l.length k ()=some (match l.find? (fun a=>!P a) with | none=>.inl () | some a=>.inr (t a))
 | [],k,_=>rfl
 | a::l,k,h=>by
  show (f k ()).bind _=_
  have h0:f k ()=_:=h 0 a rfl
  rw [h0,List.find?_cons]
  cases hP:P a with
  | false=>rfl
  | true=>
   have:=AO_ P t l (k+1) (fun j b hb=>by
    have:=h (j+1) b (by simpa using hb)
    rw [show k+1+j=k+(j+1) by omega];exact this)
   exact this
theorem Ec_ {α:Type} (P:α→Bool):∀ l:List α,(l.find? (fun a=>!P a)).isNone=l.all P
 | []=>rfl
 | a::l=>by
  rw [List.find?_cons,List.all_cons]
  cases h:P a with
  | false=>simp
  | true=>simp [Ec_ P l]
theorem EB_ {p:Int}{n:Nat}{b:Rows} (h:Red p n b){x:List Int} (hx:x∈b):x≠[]:=by
 obtain ⟨i,hi,rfl⟩:=List.mem_iff_getElem.1 hx
 have h1:=h.lt i hi
 have h2:=lC h.ok hi
 have e:gr b i=b[i]:=by have:=fE hi;rw [List.getElem?_eq_getElem hi] at this;exact (Option.some.inj this).symm
 rw [e] at h2
 intro h0
 rw [h0] at h2
 have:=h2.1
 simp at this;omega
end Go.Proofs.YtlggnmkelgplnaaGreatDoor
namespace Go.Proofs.YtlggnmkelgplnaaGreatDoor
set_option linter.unusedVariables false
theorem BR_ {p a:Int} (hp:2≤p∧p≤97) (ha:0≤a∧a<p):vN p a=some ((p-a) % p):=by
 refine bnd (fD (by omega) (by omega)) (bnd (aH (by omega)) ?_)
 rw [Int.tmod_eq_emod_of_nonneg (by omega)]
def gE (n i:Nat):List Int:=(List.replicate n 0).set i 1
def idN (n:Nat):Rows:=(List.range n).map (gE n)
theorem eV {p:Int} (hp:2≤p) (n i:Nat):okR p n (gE n i):=by
 refine ⟨by simp [gE],fun x hx=>?_⟩
 rcases List.mem_or_eq_of_mem_set hx with h | rfl
 · have:=List.eq_of_mem_replicate h;omega
 · omega
theorem nO (n:Nat):(idN n).length=n:=by simp [idN]
theorem fS {p:Int} (hp:2≤p) (n:Nat):okM p n (idN n):=by
 intro x hx
 obtain ⟨i,hi,rfl⟩:=List.mem_map.1 hx
 exact eV hp n i
theorem unit_ {n i:Nat} (hi:i<n) (hn:n≤iB):mM (n:Int) (i:Int)=some (gE n i):=
 bnd (cK hn) (bnd (gD _ (by simpa using hi)) rfl)
theorem IT_ (n k:Nat):(List.range (k+1)).map (gE n)=(List.range k).map (gE n)++[gE n k]:=by simp [List.range_succ]
theorem GV_ {n:Nat} (hn:n≤1048576):eY (n:Int)=some (idN n):=by
 have hm:iB=1099511627776:=rfl
 refine bnd (gJ ⟨by omega,by omega⟩) ?_
 rw [Int.toNat_natCast]
 refine bnd (iD (fun k=>(List.range k).map (gE n)) ?_) rfl
 intro k hk
 exact bnd (unit_ hk (by omega)) (bnd (vB (by simp;omega)) (by rw [IT_]))
def bC (p:Int) (n:Nat) (m:Rows):Rows×Rows×Nat:=cC p n 0 m (idN m.length) 0
theorem uQ {p:Int}{n:Nat}{m:Rows} (hf:fdB p=true) (h:okM p n m):(bC p n m).2.2≤m.length∧(bC p n m).1.length=m.length∧(bC p n m).2.1.length=m.length∧okM p m.length (bC p n m).2.1∧okM p n (bC p n m).1∧Red p n ((bC p n m).1.take (bC p n m).2.2):=by
 have hp:=dC hf
 obtain ⟨k1,k2,k3,k4,k5,k6,k7⟩:=yN hp.1 n 0 m (idN m.length) 0 h (fS hp.1 m.length) (nO _) (by omega)
 have e:(bC p n m).1.take (bC p n m).2.2=eC p n m:=by
  obtain ⟨e1,e2⟩:=pQ p n 0 m (idN m.length) m 0
  unfold bC eC;rw [e1,e2]
 exact ⟨k6,k3,k4,k2,k1,by rw [e];exact lG hf h⟩
end Go.Proofs.YtlggnmkelgplnaaGreatDoor
namespace Go.Proofs.YtlggnmkelgplnaaGreatDoor
set_option linter.unusedVariables false
structure Ports (l:List Int) (n:Nat):Prop where
 rng:∀ k,k<l.length→0≤el l k∧el l k<(n:Int)
 inc:∀ i j,i<j→j<l.length→el l i<el l j
theorem Ports.inj {l:List Int}{n:Nat} (h:Ports l n){i j:Nat} (hi:i<l.length) (hj:j<l.length) (he:el l i=el l j):i=j:=by
 rcases Nat.lt_trichotomy i j with h1 | h1 | h1
 · have:=h.inc i j h1 hj;omega
 · exact h1
 · have:=h.inc j i h1 hi;omega
theorem Ports.len {l:List Int}{n:Nat} (h:Ports l n):l.length≤n:=by
 have key:∀ k,k<l.length→(k:Int)≤el l k:=fun k hk=>by
  induction k with
  | zero=>have:=h.rng 0 hk;omega
  | succ k ih=>have:=ih (by omega);have:=h.inc k (k+1) (by omega) hk;omega
 rcases Nat.eq_zero_or_pos l.length with h0 | h0
 · omega
 ·
  have:=key (l.length-1) (by omega)
  have:=(h.rng (l.length-1) (by omega)).2
  omega
def below (l:List Int) (n:Nat):Prop:=∀ k,k<l.length→0≤el l k∧el l k<(n:Int)
end Go.Proofs.YtlggnmkelgplnaaGreatDoor
namespace Go.Proofs.YtlggnmkelgplnaaGreatDoor
set_option linter.unusedVariables false
def eD (m a:Rows):Rows:=List.zipWith (fun x y=>x++y) m a
theorem xJ {m a:Rows} (h:a.length=m.length):(eD m a).length=m.length:=by simp [eD,h]
theorem aK:∀ {m a:Rows}{i:Nat},a.length=m.length→gr (eD m a) i=gr m i++gr a i
 | [],[],i,_=>by simp [eD,gr]
 | [],_::_,_,h=>by simp at h
 | _::_,[],_,h=>by simp at h
 | x::m,y::a,0,_=>by rw [By_,By_];rfl
 | x::m,y::a,i+1,h=>by
  rw [Bz_,Bz_]
  show gr ((x++y)::eD m a) (i+1)=_
  rw [Bz_]
  exact aK (by simpa using h)
theorem el_app {x y:List Int}{j:Nat}:el (x++y) j=if j<x.length then el x j else el y (j-x.length):=by
 unfold el
 rw [List.getD_eq_getElem?_getD,List.getD_eq_getElem?_getD,List.getD_eq_getElem?_getD]
 split
 · rename_i h;rw [List.getElem?_append_left h]
 · rename_i h;rw [List.getElem?_append_right (by omega)]
theorem EY_ {p:Int}{k q:Nat}{m a:Rows} (hl:a.length=m.length) (h:okM p k m) (ha:okM p q a):okM p (k+q) (eD m a):=by
 intro x hx
 obtain ⟨i,hi,rfl⟩:=List.mem_iff_getElem.1 hx
 rw [xJ hl] at hi
 have e:gr (eD m a) i=(eD m a)[i]'(by rw [xJ hl];exact hi):=by have:=fE (m:=eD m a) (i:=i) (by rw [xJ hl];exact hi);rw [List.getElem?_eq_getElem] at this;exact (Option.some.inj this).symm
 rw [←e,aK hl]
 exact Bj_ (lC h hi) (lC ha (by omega))
theorem BD_ {p:Int}{k:Nat}{m a:Rows} (hl:a.length=m.length) (h:okM p k m){i c:Nat} (hi:i<m.length) (hc:c<k):el (gr (eD m a) i) c=el (gr m i) c:=by
 rw [aK hl,el_app,if_pos (by rw [(lC h hi).1];exact hc)]
theorem DE_ {p:Int}{k:Nat}{m a:Rows} (hl:a.length=m.length) (h:okM p k m){c:Nat} (hc:c<k):∀ (d i:Nat),i+d≤m.length→scanN (eD m a) c d i=scanN m c d i
 | 0,_,_=>rfl
 | d+1,i,hi=>by
  unfold scanN
  rw [BD_ hl h (by omega) hc,DE_ hl h hc d (i+1) (by omega)]
theorem Iu_ {m a:Rows}{r k i:Nat} (hl:a.length=m.length) (hr:r<m.length) (hk:k<m.length):gr (mB (eD m a) r k) i=gr (mB m r k) i++gr (mB a r k) i:=by
 have hcl:=xJ hl
 rw [yG (by rw [hcl];exact hr) (by rw [hcl];exact hk),yG hr hk,yG (m:=a) (by omega) (by omega)]
 split
 · exact aK hl
 · split <;> exact aK hl
theorem Iv_ {p:Int}{c r k w q:Nat}{m a:Rows} (hf:fdB p=true) (h:okM p w m) (ha:okM p q a) (hl:a.length=m.length) (hr:r<m.length) (hk:k<m.length) (hc:c<w) (hne:el (gr m k) c≠0) :
  qB p c (eD m a) (eD m a) r k=eD (qB p c m m r k) (qB p c m a r k):=by
 have hp:=dC hf
 have hcl:=xJ hl
 have hco:=EY_ hl h ha
 have hne2:el (gr (eD m a) k) c≠0:=by rw [BD_ hl h hk hc];exact hne
 obtain ⟨f1,f2,f3⟩:=dO hf hco hco rfl (by rw [hcl];exact hr) (by rw [hcl];exact hk) (by omega) hne2
 obtain ⟨g1,g2,g3⟩:=dO hf h h rfl hr hk hc hne
 obtain ⟨k1,k2,k3⟩:=dO hf h ha hl hr hk hc hne
 have l1:(qB p c (eD m a) (eD m a) r k).length=m.length:=by rw [bE,hcl]
 have l2:(qB p c m m r k).length=m.length:=bE p c m m r k
 have l3:(qB p c m a r k).length=m.length:=by rw [bE,hl]
 have o1:okM p (w+q) (qB p c (eD m a) (eD m a) r k):=zG hp.1 hco (by rw [hcl];exact hr) (by rw [hcl];exact hk)
 have o2:okM p w (qB p c m m r k):=zG hp.1 h hr hk
 have o3:okM p q (qB p c m a r k):=zG hp.1 ha (by omega) (by omega)
 rw [hcl] at f3
 have hrow:∀ j,j<w+q→el (gr (qB p c (eD m a) (eD m a) r k) r) j=el (gr (qB p c m m r k) r++gr (qB p c m a r k) r) j:=fun j hj=>by
  rw [f2 j hj,BD_ hl h hk hc,aK hl,el_app,el_app,(lC h hk).1,(lC o2 (i:=r) (by omega)).1]
  split
  · rw [g2 j (by omega)]
  · rw [k2 _ (by omega)]
 refine Fp_ (by rw [xJ (by rw [l3,l2]),l1,l2]) fun i hi=>?_
 rw [l1] at hi
 rw [aK (by rw [l3,l2])]
 have wi:=(lC o2 (i:=i) (by omega)).1
 refine tO (by rw [List.length_append,(lC o1 (i:=i) (by omega)).1,wi,(lC o3 (i:=i) (by omega)).1]) fun j hj=>?_
 rw [(lC o1 (i:=i) (by omega)).1] at hj
 by_cases hir:i=r
 · subst hir;exact hrow j hj
 ·
  have hsm:okM p w (mB m r k):=qM h hr hk
  have ws:=(lC hsm (i:=i) (by rw [swapM_len];exact hi)).1
  have wr:=(lC o2 (i:=r) (by omega)).1
  rw [f3 i hi hir j hj,hrow j hj,Iu_ hl hr hk,el_app,el_app,el_app,el_app,ws,wr,wi,if_pos hc]
  split
  · rename_i hjw;rw [g3 i hi hir j hjw]
  · rename_i hjw;rw [k3 i hi hir _ (by omega)]
theorem AR_ {p:Int}{w q:Nat} (hf:fdB p=true):∀ (d c:Nat) (m a:Rows) (r:Nat),c+d≤w→okM p w m→okM p q a→a.length=m.length→r≤m.length →
  cC p d c (eD m a) (eD m a) r=(eD (cC p d c m a r).1 (cC p d c m a r).2.1,eD (cC p d c m a r).1 (cC p d c m a r).2.1,(cC p d c m a r).2.2)
 | 0,_,_,_,_,_,_,_,_,_=>rfl
 | d+1,c,m,a,r,hd,h,ha,hl,hr=>by
  have hcl:=xJ hl
  unfold cC
  rw [hcl]
  by_cases hrl:r<m.length
  ·
   rw [if_pos hrl,if_pos hrl,DE_ hl h (by omega) (m.length-r) r (by omega)]
   obtain ⟨s1,s2,s3⟩:=uI m c (m.length-r) r (by omega)
   split
   · exact AR_ hf d (c+1) m a r (by omega) h ha hl hr
   ·
    rename_i hk
    have hkl:scanN m c (m.length-r) r<m.length:=by omega
    rw [Iv_ hf h ha hl hrl hkl (by omega) (s3 hkl)]
    have ha2:okM p q (qB p c m a r (scanN m c (m.length-r) r)):=zG (dC hf).1 ha (by omega) (by omega)
    exact AR_ hf d (c+1) (qB p c m m r (scanN m c (m.length-r) r)) (qB p c m a r (scanN m c (m.length-r) r)) (r+1) (by omega) (zG (dC hf).1 h hrl hkl) ha2 (by rw [bE,bE];exact hl) (by rw [bE];omega)
  · rw [if_neg hrl,if_neg hrl]
end Go.Proofs.YtlggnmkelgplnaaGreatDoor
namespace Go.Proofs.YtlggnmkelgplnaaGreatDoor
set_option linter.unusedVariables false
theorem cS (f:Nat→Int) (a:Nat):∀ b,sg (a+b) f=sg a f+sg b (fun t=>f (a+t))
 | 0=>by show sg a f=sg a f+0;omega
 | b+1=>by
  show sg (a+b) f+f (a+b)=sg a f+(sg b (fun t=>f (a+t))+f (a+b))
  rw [cS f a b];omega
theorem xV {p:Int}{n:Nat}{m:Rows}{v:List Int} (f:Nat→Int) (h:∀ i,i<m.length→sg n (fun j=>f j*el (gr m i) j) % p=0) (hv:eE p n m v):sg n (fun j=>f j*el v j) % p=0:=by
 obtain ⟨x,hx⟩:=hv
 have e1:sg n (fun j=>f j*el v j) % p=sg n (fun j=>f j*sg m.length (fun i=>x i*el (gr m i) j)) % p:=
  eI fun j hj=>by rw [←mul_mod2,hx j hj,mul_mod2]
 rw [e1]
 have e2:sg n (fun j=>f j*sg m.length (fun i=>x i*el (gr m i) j))=sg m.length (fun i=>x i*sg n (fun j=>f j*el (gr m i) j)):=by
  rw [cD (g:=fun j=>sg m.length (fun i=>f j*(x i*el (gr m i) j))) (fun j _=>(sg_mul _ _ _).symm),gW]
  refine cD fun i _=>?_
  rw [←sg_mul]
  exact cD fun j _=>Int.mul_left_comm _ _ _
 rw [e2,eI (g:=fun _=>0) (fun i hi=>by rw [GH_ (h i hi)];exact (Int.zero_emod p).symm),yJ (fun _ _=>rfl)]
 exact Int.zero_emod p
def uH (p:Int) (n:Nat) (m:Rows) (x:List Int):Prop:=∀ i,i<m.length→sg n (fun j=>el (gr m i) j*el x j) % p=0
theorem Ic_ {p:Int}{n:Nat}{m:Rows}{x v:List Int} (h:uH p n m x) (hv:eE p n m v):sg n (fun j=>el v j*el x j) % p=0:=by
 have:=xV (m:=m) (v:=v) (fun j=>el x j) (fun i hi=>by rw [←h i hi];exact congrArg (· % p) (cD fun j _=>Int.mul_comm _ _)) hv
 rw [←this];exact congrArg (· % p) (cD fun j _=>Int.mul_comm _ _)
theorem DS_ {p:Int}{n:Nat}{a b:Rows}{x:List Int} (h:uH p n b x) (hs:uD p n a b):uH p n a x:=fun i hi=>Ic_ h (hs i hi)
def kS (p:Int) (n:Nat) (m:Rows) (x:List Int):Prop:=∀ c,c<n→sg m.length (fun t=>el x t*el (gr m t) c) % p=0
theorem HA_ {p:Int}{n:Nat}{m b:Rows}{v:List Int} (h:∀ i,i<b.length→kS p n m (gr b i)) (hv:eE p m.length b v):kS p n m v:=by
 intro c hc
 have:=xV (n:=m.length) (m:=b) (v:=v) (fun t=>el (gr m t) c) (fun i hi=>by rw [←h i hi c hc];exact congrArg (· % p) (cD fun j _=>Int.mul_comm _ _)) hv
 rw [←this];exact congrArg (· % p) (cD fun j _=>Int.mul_comm _ _)
theorem BP_ {n i:Nat} (hi:i<n):gr (idN n) i=gE n i:=by
 have h:=fE (m:=idN n) (i:=i) (by rw [nO];exact hi)
 unfold idN at h
 rw [List.getElem?_map,List.getElem?_range hi] at h
 exact (Option.some.inj h).symm
theorem dL {n i j:Nat} (hi:i<n):el (gE n i) j=if i=j then 1 else 0:=by
 unfold gE el
 rw [List.getD_eq_getElem?_getD,List.getElem?_set]
 by_cases h:i=j
 · subst h;rw [if_pos rfl,if_pos (by rw [List.length_replicate];exact hi),if_pos rfl];rfl
 · rw [if_neg h,if_neg h,← List.getD_eq_getElem?_getD];exact el_rep n j
theorem idN_all {p:Int}{n:Nat} (v:List Int):eE p n (idN n) v:=by
 refine ⟨fun i=>el v i,fun j hj=>?_⟩
 rw [nO,dI (i0:=j) hj (fun i hi hne=>by rw [BP_ hi,dL hi,if_neg hne,Int.mul_zero]),BP_ hj,dL hj,if_pos rfl,Int.mul_one]
theorem IG_ {p:Int}{n:Nat}{m:Rows} (hf:fdB p=true) (h:okM p n m):∀ i,i<m.length→∀ c,c<n→el (gr (bC p n m).1 i) c % p=sg m.length (fun t=>el (gr (bC p n m).2.1 i) t*el (gr m t) c) % p:=by
 have hp:=dC hf
 obtain ⟨f1,f2,f3,f4,f5,f6⟩:=uQ hf h
 have hl:(idN m.length).length=m.length:=nO _
 have h1:=AR_ hf n 0 m (idN m.length) 0 (by omega) h (fS hp.1 _) hl (Nat.zero_le _)
 have hC:=EY_ hl h (fS hp.1 m.length)
 have h2:=(aR hf n 0 (eD m (idN m.length)) (eD m (idN m.length)) 0 (by omega) hC hC rfl (Nat.zero_le _)).1
 rw [h1] at h2
 change uD p (n+m.length) (eD (bC p n m).1 (bC p n m).2.1) (eD m (idN m.length)) at h2
 intro i hi c hc
 have hv:=h2 i (by rw [xJ (by omega)];omega)
 rw [aK (by omega)] at hv
 have key:∀ a b:List Int,a.length=n→sg (n+m.length) (fun j=>(if j<n then (if c=j then 1 else 0) else -(el (gr m (j-n)) c))*el (a++b) j)=el a c-sg m.length (fun t=>el b t*el (gr m t) c):=by
  intro a b ha
  rw [cS,dI (i0:=c) hc (fun j hj hne=>by rw [if_pos hj,if_neg (fun hh=>hne hh.symm),Int.zero_mul]),if_pos hc,if_pos rfl,Int.one_mul,el_app,if_pos (by omega),Int.sub_eq_add_neg,← BK_]
  congr 1
  refine cD fun t _=>?_
  rw [if_neg (by omega),el_app,if_neg (by omega),show n+t-n=t by omega,show n+t-a.length=t by omega,Int.neg_mul,Int.mul_comm]
 have hd:=xV (n:=n+m.length) (m:=eD m (idN m.length)) _ (fun i hi=>by
  rw [xJ hl] at hi
  rw [aK hl,key _ _ (h _ (bN hi)).1,BP_ hi,dI (i0:=i) hi (fun t _ hne=>by rw [dL hi,if_neg (fun hh=>hne hh.symm),Int.zero_mul]),dL hi,if_pos rfl,Int.one_mul,Int.sub_self]
  exact Int.zero_emod p) hv
 rw [key _ _ (f5 _ (bN (by omega))).1] at hd
 exact wU hd
theorem H8_ {p:Int}{n:Nat}{m:Rows} (hf:fdB p=true) (h:okM p n m):∀ i,(bC p n m).2.2≤i→i<m.length→∀ c,c<n→el (gr (bC p n m).1 i) c=0:=by
 have h1:=oQ hf n 0 m 0 (by omega) h (RedI.start m)
 obtain ⟨e1,e2⟩:=pQ p n 0 m m (idN m.length) 0
 have f2:=(uQ hf h).2.1
 rw [e1,e2,Nat.zero_add] at h1
 intro i h2 h3 c hc
 exact h1.rest i h2 (by rw [←f2] at h3;exact h3) c hc
theorem IH_ {p:Int}{n:Nat}{m:Rows} (hf:fdB p=true) (h:okM p n m) (v:List Int):eE p m.length (bC p n m).2.1 v:=by
 have hp:=dC hf
 exact uN (aR hf n 0 m (idN m.length) 0 (by omega) h (fS hp.1 _) (nO _) (Nat.zero_le _)).2 (idN_all v)
theorem EL_ (m:Rows) (k i:Nat):gr (m.drop k) i=gr m (k+i):=by
 unfold gr;rw [List.getD_eq_getElem?_getD,List.getD_eq_getElem?_getD,List.getElem?_drop]
def kerM (p:Int) (n:Nat) (m:Rows):Rows:=eC p m.length ((bC p n m).2.1.drop (bC p n m).2.2)
theorem BO_ {p:Int}{n:Nat}{m:Rows} (hf:fdB p=true) (h:okM p n m):okM p m.length ((bC p n m).2.1.drop (bC p n m).2.2):=
 fun r hr=>(uQ hf h).2.2.2.1 r (List.mem_of_mem_drop hr)
theorem A4_ {p:Int}{n:Nat}{m:Rows} (hf:fdB p=true) (h:okM p n m):Red p m.length (kerM p n m):=lG hf (BO_ hf h)
theorem D2_ {p:Int}{n:Nat}{m:Rows} (hf:fdB p=true) (h:okM p n m) (x:List Int):eE p m.length (kerM p n m) x↔kS p n m x:=by
 have hp:=dC hf
 obtain ⟨f1,f2,f3,f4,f5,f6⟩:=uQ hf h
 have hrel:=IG_ hf h
 have hrest:=H8_ hf h
 have hsp:=nM hf (BO_ hf h)
 constructor
 ·
  intro hx
  refine HA_ (b:=(bC p n m).2.1.drop (bC p n m).2.2) (fun i hi c hc=>?_) (uN hsp.1 hx)
  rw [List.length_drop] at hi
  rw [EL_,← hrel _ (by omega) c hc,hrest _ (by omega) (by omega) c hc]
  exact Int.zero_emod p
 ·
  intro hx
  refine uN hsp.2 ?_
  obtain ⟨y,hy⟩:=IH_ hf h x
  rw [f3] at hy
  have hL:(bC p n m).2.2+(m.length-(bC p n m).2.2)=m.length:=by omega
  have hz:∀ i,i<(bC p n m).2.2→y i % p=0:=by
   have hi:=f6.indep y (fun c hc=>?_)
   · intro i h1;exact hi i (by rw [List.length_take];omega)
   ·
    have hlen:((bC p n m).1.take (bC p n m).2.2).length=(bC p n m).2.2:=by rw [List.length_take];omega
    rw [hlen,cD (g:=fun i=>y i*el (gr (bC p n m).1 i) c) (fun i h1=>by rw [zJ h1])]
    have e0:sg m.length (fun i=>y i*el (gr (bC p n m).1 i) c)=sg (bC p n m).2.2 (fun i=>y i*el (gr (bC p n m).1 i) c):=by
     conv=>lhs;rw [←hL]
     rw [cS,yJ (k:=m.length-(bC p n m).2.2) (fun t ht=>by rw [hrest _ (by omega) (by omega) c hc,Int.mul_zero])]
     omega
    rw [←e0,eI (g:=fun i=>y i*sg m.length (fun t=>el (gr (bC p n m).2.1 i) t*el (gr m t) c)) (fun i hi=>by rw [←mul_mod2,hrel i hi c hc,mul_mod2])]
    rw [←hx c hc]
    have e1:sg m.length (fun i=>y i*sg m.length (fun t=>el (gr (bC p n m).2.1 i) t*el (gr m t) c))=sg m.length (fun t=>sg m.length (fun i=>y i*el (gr (bC p n m).2.1 i) t)*el (gr m t) c):=by
     rw [cD (g:=fun i=>sg m.length (fun t=>y i*(el (gr (bC p n m).2.1 i) t*el (gr m t) c))) (fun i _=>(sg_mul _ _ _).symm),gW]
     refine cD fun t _=>?_
     rw [←Bg_]
     exact cD fun i _=>(Int.mul_assoc _ _ _).symm
    rw [e1]
    exact eI fun t ht=>by rw [←jR,← hy t ht,jR]
  refine ⟨fun t=>y ((bC p n m).2.2+t),fun j hj=>?_⟩
  rw [hy j hj,List.length_drop,f3]
  conv=>lhs;rw [←hL]
  rw [cS,Int.add_emod,eI (k:=(bC p n m).2.2) (g:=fun _=>0) (fun i hi=>by rw [jU (hz i hi)];exact (Int.zero_emod p).symm),yJ (k:=(bC p n m).2.2) (f:=fun _=>0) (fun _ _=>rfl),Int.zero_emod,Int.zero_add,mod_mod]
  exact congrArg (· % p) (cD fun t _=>by rw [EL_])
end Go.Proofs.YtlggnmkelgplnaaGreatDoor
namespace Go.Proofs.YtlggnmkelgplnaaGreatDoor
set_option linter.unusedVariables false
theorem kernel_ {p:Int}{n:Nat}{m:Rows} (hf:fdB p=true) (hn:n≤1048576) (h:okM p n m) (hL:m.length≤1048576):Ac_ p m (n:Int)=some (kerM p n m):=by
 have hm:iB=1099511627776:=rfl
 have hp:=dC hf
 obtain ⟨f1,f2,f3,f4,f5,f6⟩:=uQ hf h
 refine bnd (EW_ (by omega) (H6_ h (by omega))) (bnd (GV_ hL) (bnd (C3_ hf (Nat.le_refl n) hn h (fS hp.1 m.length) (by omega) (nO _)) ?_))
 change (aB (bC p n m).2.1 ((bC p n m).2.2:Int) (((bC p n m).2.1.length:Nat):Int)).bind _=_
 have e:aB (bC p n m).2.1 ((bC p n m).2.2:Int) (((bC p n m).2.1.length:Nat):Int)=some ((bC p n m).2.1.drop (bC p n m).2.2):=by
  unfold aB
  rw [if_pos ⟨by omega,by omega,by rw [Int.toNat_natCast];omega⟩,Int.toNat_natCast,Int.toNat_natCast,List.take_of_length_le (by rw [List.length_drop];omega)]
 refine bnd e (bnd (lV hf (Nat.le_refl m.length) hL (BO_ hf h) (by rw [List.length_drop];omega)) rfl)
def isL (b:Rows) (j:Nat):Bool:=b.any fun r=>decide (leadN r=j)
theorem isL_iff {b:Rows}{j:Nat}:isL b j=true↔∃ t,t<b.length∧leadN (gr b t)=j:=by
 unfold isL
 rw [List.any_eq_true]
 constructor
 ·
  rintro ⟨r,hr,h⟩
  obtain ⟨t,ht,rfl⟩:=List.mem_iff_getElem.1 hr
  refine ⟨t,ht,?_⟩
  have e:gr b t=b[t]:=by have:=fE ht;rw [List.getElem?_eq_getElem ht] at this;exact (Option.some.inj this).symm
  rw [e];exact of_decide_eq_true h
 ·
  rintro ⟨t,ht,h⟩
  exact ⟨gr b t,bN ht,decide_eq_true h⟩
def ldL (n:Nat) (b:Rows):Nat→List Int
 | 0=>qD (fun _ _=>-1) (List.replicate n 0)
 | i+1=>(ldL n b i).set (leadN (gr b i)) (i:Int)
theorem oW (n:Nat) (b:Rows):∀ i,(ldL n b i).length=n
 | 0=>by unfold ldL;rw [lR,List.length_replicate]
 | i+1=>by unfold ldL;rw [List.length_set];exact oW n b i
theorem BA_ {z:List Int}{i j:Nat}{v:Int} (h:i<z.length):el (z.set i v) j=if i=j then v else el z j:=by
 unfold el
 rw [List.getD_eq_getElem?_getD,List.getD_eq_getElem?_getD,List.getElem?_set]
 by_cases hij:i=j
 · rw [if_pos hij,if_pos hij,if_pos (by omega)];rfl
 · rw [if_neg hij,if_neg hij]
theorem Fi_ {n:Nat}{b:Rows} (hlt:∀ i,i<b.length→leadN (gr b i)<n){j:Nat} (hj:j<n):∀ i,i≤b.length→(0≤el (ldL n b i) j↔∃ t,t<i∧leadN (gr b t)=j)
 | 0,_=>by
  unfold ldL
  rw [oO (by rw [List.length_replicate];exact hj)]
  exact ⟨fun h=>by omega,fun ⟨t,ht,_⟩=>by omega⟩
 | i+1,hi=>by
  have ih:=Fi_ hlt hj i (by omega)
  show 0≤el ((ldL n b i).set (leadN (gr b i)) (i:Int)) j↔_
  rw [BA_ (by rw [oW];exact hlt i (by omega))]
  by_cases h:leadN (gr b i)=j
  · rw [if_pos h];exact ⟨fun _=>⟨i,by omega,h⟩,fun _=>by omega⟩
  ·
   rw [if_neg h,ih]
   constructor
   · rintro ⟨t,ht,h2⟩;exact ⟨t,by omega,h2⟩
   ·
    rintro ⟨t,ht,h2⟩
    by_cases hti:t=i
    · rw [hti] at h2;exact absurd h2 h
    · exact ⟨t,by omega,h2⟩
def nvL (p:Int) (n:Nat) (b:Rows) (j:Nat):Nat→List Int
 | 0=>(List.replicate n 0).set j 1
 | i+1=>(nvL p n b j i).set (leadN (gr b i)) ((p-el (gr b i) j) % p)
theorem eS {p:Int}{n:Nat}{b:Rows}{j:Nat} (hp:2≤p):∀ i,okR p n (nvL p n b j i)
 | 0=>eV hp n j
 | i+1=>by
  have ih:=eS (n:=n) (b:=b) (j:=j) hp i
  unfold nvL
  refine ⟨by rw [List.length_set];exact ih.1,fun x hx=>?_⟩
  rcases List.mem_or_eq_of_mem_set hx with h | rfl
  · exact ih.2 x h
  · exact ⟨Int.emod_nonneg _ (by omega),Int.emod_lt_of_pos _ (by omega)⟩
theorem iR {p:Int}{n:Nat}{b:Rows}{j:Nat} (hp:2≤p) (hlt:∀ i,i<b.length→leadN (gr b i)<n) (hj:j<n){c:Nat}:∀ i,i≤b.length→(∀ t,t<i→leadN (gr b t)≠c)→el (nvL p n b j i) c=if j=c then 1 else 0
 | 0,_,_=>dL hj
 | i+1,hi,h=>by
  unfold nvL
  rw [BA_ (by rw [(eS hp i).1];exact hlt i (by omega)),if_neg (h i (by omega))]
  exact iR hp hlt hj i (by omega) (fun t ht=>h t (by omega))
theorem Bl_ {p:Int}{n:Nat}{b:Rows}{j:Nat} (hp:2≤p) (hb:Red p n b){t:Nat} (ht:t<b.length):∀ i,i≤b.length→t<i→el (nvL p n b j i) (leadN (gr b t))=(p-el (gr b t) j) % p
 | 0,_,h=>by omega
 | i+1,hi,h=>by
  unfold nvL
  rw [BA_ (by rw [(eS hp i).1];exact hb.lt i (by omega))]
  by_cases hti:t=i
  · subst hti;rw [if_pos rfl]
  ·
   have:=hb.inc t i (by omega) (by omega)
   rw [if_neg (by omega)]
   exact Bl_ hp hb ht i (by omega) (by omega)
def nuP (p:Int) (n:Nat) (b:Rows):Nat→Rows
 | 0=>[]
 | j+1=>if isL b j then nuP p n b j else nuP p n b j++[nvL p n b j b.length]
theorem qO {p:Int}{n:Nat}{b:Rows} (hp:2≤p):∀ j,okM p n (nuP p n b j)∧(nuP p n b j).length≤j
 | 0=>⟨(fun r hr=>nomatch hr),Nat.le_refl _⟩
 | j+1=>by
  obtain ⟨h1,h2⟩:=qO (n:=n) (b:=b) hp j
  unfold nuP
  split
  · exact ⟨h1,by omega⟩
  ·
   refine ⟨okM_app h1 (fun r hr=>?_),by rw [List.length_append];show _+1≤_;omega⟩
   rw [List.mem_singleton.1 hr];exact eS hp _
theorem Bm_ {p:Int}{n:Nat}{b:Rows}{v:List Int}:∀ k,v∈nuP p n b k→∃ j,j<k∧isL b j=false∧v=nvL p n b j b.length
 | 0,h=>nomatch h
 | k+1,h=>by
  unfold nuP at h
  split at h
  · obtain ⟨j,h1,h2⟩:=Bm_ k h;exact ⟨j,by omega,h2⟩
  ·
   rename_i hn
   rcases List.mem_append.1 h with h | h
   · obtain ⟨j,h1,h2⟩:=Bm_ k h;exact ⟨j,by omega,h2⟩
   · exact ⟨k,by omega,by cases hk:isL b k with | false=>rfl | true=>exact absurd hk hn,List.mem_singleton.1 h⟩
theorem EE_ {p:Int}{n:Nat}{b:Rows} (x:Nat→Int):∀ k,∃ X:Nat→Int,∀ c,sg (nuP p n b k).length (fun i=>X i*el (gr (nuP p n b k) i) c)=sg k (fun j=>if isL b j=true then 0 else x j*el (nvL p n b j b.length) c)
 | 0=>⟨fun _=>0,fun c=>rfl⟩
 | k+1=>by
  obtain ⟨X,hX⟩:=EE_ (p:=p) (n:=n) (b:=b) x k
  unfold nuP
  split
  ·
   rename_i h
   refine ⟨X,fun c=>?_⟩
   show _=sg k _+(if isL b k=true then 0 else _)
   rw [if_pos h,hX c];omega
  ·
   rename_i h
   refine ⟨fun i=>if i<(nuP p n b k).length then X i else x k,fun c=>?_⟩
   rw [List.length_append,show [nvL p n b k b.length].length=1 from rfl,cS]
   show _=sg k _+(if isL b k=true then 0 else _)
   rw [if_neg h,← hX c]
   congr 1
   · exact cD fun i hi=>by dsimp only;rw [if_pos hi,gr_app1 hi]
   ·
    show 0+_=_
    dsimp only
    rw [if_neg (by omega),gr_app2,Int.zero_add]
    rfl
def fG (p:Int) (n:Nat) (m:Rows):Rows:=eC p n (nuP p n (eC p n m) n)
theorem A1_ {p:Int}{n:Nat}{m:Rows} (hf:fdB p=true):Red p n (fG p n m):=lG hf (qO (dC hf).1 n).1
theorem oV {p:Int}{n:Nat}{m:Rows} (hf:fdB p=true) (h:okM p n m) (x:List Int):eE p n (fG p n m) x↔uH p n m x:=by
 have hp:=dC hf
 have hb:=lG hf h
 have hs:=nM hf h
 have hn:=nM hf (qO (n:=n) (b:=eC p n m) hp.1 n).1
 unfold fG
 generalize eC p n m=b at hb hs hn ⊢
 constructor
 ·
  intro hx
  refine DS_ ?_ hs.2
  intro i hi
  refine xV (m:=nuP p n b n) (fun c=>el (gr b i) c) (fun k hk=>?_) (uN hn.1 hx)
  obtain ⟨j,hj,hl,e⟩:=Bm_ n (bN hk)
  have hnl:∀ t,t<b.length→leadN (gr b t)≠j:=fun t ht he=>by
   have:=isL_iff.2 ⟨t,ht,he⟩
   rw [this] at hl;cases hl
  rw [e,sg_split (hb.lt i hi),dI (i0:=j) hj (fun c hc hne=>by
   by_cases h1:c=leadN (gr b i)
   · rw [if_pos h1]
   ·
    rw [if_neg h1]
    by_cases h2:isL b c=true
    ·
     obtain ⟨t,ht,h3⟩:=isL_iff.1 h2
     rw [←h3,hb.zero t i ht hi (fun h4=>h1 (by rw [←h3,h4])),Int.zero_mul]
    · rw [iR hp.1 hb.lt hj b.length (Nat.le_refl _) (fun t ht he=>h2 (isL_iff.2 ⟨t,ht,he⟩)),if_neg (fun h4=>hne h4.symm),Int.mul_zero])]
  rw [if_neg (fun h1=>hnl i hi h1.symm),iR hp.1 hb.lt hj b.length (Nat.le_refl _) hnl,if_pos rfl,hb.one i hi,Bl_ hp.1 hb hi b.length (Nat.le_refl _) hi,Int.mul_one,Int.one_mul,Int.add_emod,mod_mod,← Int.add_emod,show el (gr b i) j+(p-el (gr b i) j)=p by omega]
  exact Int.emod_self
 ·
  intro hx
  have hx':uH p n b x:=DS_ hx hs.1
  refine uN hn.2 ?_
  obtain ⟨X,hX⟩:=EE_ (p:=p) (n:=n) (b:=b) (fun j=>el x j) n
  refine ⟨X,fun c hc=>?_⟩
  rw [hX c]
  by_cases h2:isL b c=true
  ·
   obtain ⟨t,ht,h3⟩:=isL_iff.1 h2
   have h4:=hx' t ht
   rw [sg_split (hb.lt t ht),hb.one t ht,Int.one_mul] at h4
   rw [←h3]
   have e1:sg n (fun j=>if isL b j=true then 0 else el x j*el (nvL p n b j b.length) (leadN (gr b t))) % p=sg n (fun j=>- (if j=leadN (gr b t) then 0 else el (gr b t) j*el x j)) % p:=by
    refine eI fun j hj=>?_
    by_cases h5:isL b j=true
    ·
     rw [if_pos h5]
     by_cases h6:j=leadN (gr b t)
     · rw [if_pos h6];rfl
     ·
      obtain ⟨t',ht',h7⟩:=isL_iff.1 h5
      rw [if_neg h6,← h7,hb.zero t' t ht' ht (fun h8=>h6 (by rw [←h7,h8])),Int.zero_mul];rfl
    ·
     have h6:j≠leadN (gr b t):=fun h7=>h5 (isL_iff.2 ⟨t,ht,h7.symm⟩)
     rw [if_neg h5,if_neg h6,Bl_ hp.1 hb ht b.length (Nat.le_refl _) ht,mul_mod2]
     refine wU ?_
     rw [show el x j*(p-el (gr b t) j) - -(el (gr b t) j*el x j)=el x j*p from by rw [Int.mul_sub,Int.mul_comm (el (gr b t) j)];omega]
     exact Int.mul_emod_left _ _
   rw [e1,BK_]
   refine wU ?_
   rw [Int.sub_neg,Int.add_comm]
   exact h4
  ·
   rw [dI (i0:=c) hc (fun j hj hne=>by
    by_cases h3:isL b j=true
    · rw [if_pos h3]
    · rw [if_neg h3,iR hp.1 hb.lt hj b.length (Nat.le_refl _) (fun t ht he=>h2 (isL_iff.2 ⟨t,ht,he⟩)),if_neg hne,Int.mul_zero]),if_neg h2,iR hp.1 hb.lt hc b.length (Nat.le_refl _) (fun t ht he=>h2 (isL_iff.2 ⟨t,ht,he⟩)),if_pos rfl,Int.mul_one]
end Go.Proofs.YtlggnmkelgplnaaGreatDoor
namespace Go.Proofs.YtlggnmkelgplnaaGreatDoor
set_option linter.unusedVariables false
theorem IM_ (p:Int) (n:Nat) (b:Rows) (j:Nat):nuP p n b (j+1)=if isL b j then nuP p n b j else nuP p n b j++[nvL p n b j b.length]:=rfl
theorem Ey_ {p:Int}{n:Nat}{m:Rows} (hf:fdB p=true) (hn:n≤1048576) (h:okM p n m) (hL:m.length≤1048576):vT p (n:Int) m=some (fG p n m):=by
 have hm:iB=1099511627776:=rfl
 have hp:=dC hf
 have hb:=lG hf h
 have hbl:=(Bi_ (n:=n) hp.1 h).2.2
 refine bnd (yQ hf (Nat.le_refl n) hn h hL) ?_
 unfold fG
 generalize eC p n m=b at hb hbl ⊢
 refine bnd (vI 0 (by omega)) ?_
 have hlen:(List.replicate n (0:Int)).length=n:=List.length_replicate
 refine bnd (a:=ldL n b 0) ((iD (fun j=>part (fun _ _=>-1) (List.replicate n 0) j) ?_).trans (by rw [jS];rfl)) ?_
 ·
  intro j hj
  refine bnd (gD _ (by rw [gR];exact hj)) ?_
  exact congrArg some (fR (fun _ _=>-1) (List.replicate n 0) hj)
 refine bnd (iD (fun i=>ldL n b i) ?_) ?_
 ·
  intro i hi
  have hw:=(lC hb.ok hi).1
  exact bnd (kD hi) (bnd (Bf_ (by omega)) (bnd (gD _ (by rw [oW];exact hb.lt i hi)) rfl))
 refine bnd (aO (fun j=>(nuP p n b j,(j:Int))) (t:=nuP p n b n) n ?_ ?_) ?_
 ·
  intro j hj
  dsimp only
  refine stp (cTW (dT (by omega)) (bnd (a:=nuP p n b (j+1)) ?_ (bnd (jB (by omega) (by omega)) rfl)))
  refine bnd (yD (by rw [oW];exact hj)) (stp ?_)
  have h1:=Fi_ hb.lt hj b.length (Nat.le_refl _)
  rw [←isL_iff] at h1
  rw [IM_]
  by_cases h2:isL b j=true
  · rw [if_pos h2];exact cTW (dT (h1.2 h2)) rfl
  ·
   rw [if_neg h2]
   refine cFW (dF (fun h3=>h2 (h1.1 h3))) (bnd (vI 0 (by omega)) (bnd (gD _ (by rw [hlen];exact hj)) (bnd (iD (fun i=>nvL p n b j i) ?_) (bnd (vB (by have:=(qO (n:=n) (b:=b) hp.1 j).2;show _+1≤_;omega)) rfl))))
   intro i hi
   have hw:=(lC hb.ok hi).1
   exact bnd (kD hi) (bnd (kD hi) (bnd (yD (by omega)) (bnd (Bf_ (by omega)) (bnd (BR_ hp (fI hb.ok hi hj)) (bnd (gD _ (by rw [(eS hp.1 i).1];exact hb.lt i hi)) rfl)))))
 ·
  dsimp only
  exact stp (cFW (dF (by omega)) rfl)
 exact bnd (yQ hf (Nat.le_refl n) hn (qO hp.1 n).1 (by have:=(qO (n:=n) (b:=b) hp.1 n).2;omega)) rfl
def mF (m:Rows) (j:Nat):List Int:=m.map fun r=>el r j
def trM (m:Rows) (cols:Nat):Rows:=(List.replicate cols ([]:List Int)).mapIdx fun j _=>mF m j
theorem uR (m:Rows) (cols:Nat):(trM m cols).length=cols:=by simp [trM]
theorem E4_ {m:Rows}{cols j:Nat} (hj:j<cols):gr (trM m cols) j=mF m j:=by
 unfold trM gr
 rw [List.getD_eq_getElem?_getD,List.getElem?_mapIdx,List.getElem?_replicate,if_pos hj]
 rfl
theorem colM_el {m:Rows}{i j:Nat} (hi:i<m.length):el (mF m j) i=el (gr m i) j:=by
 have h1:=jI (r:=mF m j) (c:=i) (by simp [mF];exact hi)
 unfold mF at h1
 rw [List.getElem?_map,fE hi] at h1
 exact (Option.some.inj h1).symm
theorem E3_ {p:Int}{w cols:Nat}{m:Rows} (h:okM p w m) (hc:cols≤w):okM p m.length (trM m cols):=by
 intro r hr
 obtain ⟨j,hj,rfl⟩:=List.mem_iff_getElem.1 hr
 rw [uR] at hj
 have e:(trM m cols)[j]=mF m j:=by
  rw [←E4_ hj]
  have:=fE (m:=trM m cols) (i:=j) (by rw [uR];exact hj)
  rw [List.getElem?_eq_getElem (by rw [uR];exact hj)] at this;exact Option.some.inj this
 rw [e]
 refine ⟨by simp [mF],fun x hx=>?_⟩
 obtain ⟨r,hr,rfl⟩:=List.mem_map.1 hx
 have h1:=h r hr
 exact h1.2 _ (fF (by omega))
def cols (p:Int) (o:Nat) (A C:Rows):Nat→Rows
 | 0=>C
 | k+1=>mulM p o A (cols p o A C k)
section
variable {p:Int}{n o:Nat}{A C:Rows}
end
section
variable {p:Int}{n:Nat}{A B:Rows}
end
section
variable {p:Int}{n o:Nat}{A C:Rows}
end
theorem jO {p:Int}{n:Nat}{b:Rows} (hf:fdB p=true) (h:Red p n b):b.length≤n:=by
 have:=(Bi_ (n:=n) (dC hf).1 h.ok).2.2
 rw [Dq_ hf h] at this;exact this
end Go.Proofs.YtlggnmkelgplnaaGreatDoor
namespace Go.Proofs.YtlggnmkelgplnaaGreatDoor
def oD (l:Nat) (B:Rows):Rows:=B.map fun r=>r.take l
def sndL (l:Nat) (B:Rows):Rows:=B.map fun r=>r.drop l
theorem first_ {l:Nat}{R:Rel}{row:List Int} (h1:R.1=(l:Int)) (hl:l≤row.length):qK R row=some (row.take l):=by
 refine bnd (a:=row.take l) ?_ rfl
 unfold aB
 rw [if_pos ⟨by omega,by omega,by omega⟩,h1];simp
theorem iO {l:Nat}{R:Rel}{row:List Int} (h1:R.1=(l:Int)) (hl:l≤row.length):pK R row=some (row.drop l):=by
 refine bnd (a:=row.drop l) ?_ rfl
 unfold aB
 rw [if_pos ⟨by omega,by omega,by omega⟩,h1]
 simp only [Int.toNat_natCast]
 rw [List.take_of_length_le (by simp)]
theorem CW_ {l w:Nat}{R:Rel} (h1:R.1=(l:Int)) (hw:∀ r∈R.2.2,r.length=w) (hl:l≤w) (hL:R.2.2.length≤1000):rS R R=some (oD l R.2.2):=by
 have hm:iB=1099511627776:=rfl
 refine bnd (yE (fun r=>r.take l) R.2.2 [] (by simp;omega) (fun j r s hj hs=>?_)) rfl
 have hr:=hw r (aD hj)
 have hjl:=(List.getElem?_eq_some_iff.1 hj).1
 exact bnd (pA hj) (bnd (first_ (R:=R) h1 (by omega)) (bnd (vB (by simp at hs ⊢;omega)) rfl))
theorem CN_ {l w:Nat}{R:Rel} (h1:R.1=(l:Int)) (hw:∀ r∈R.2.2,r.length=w) (hl:l≤w) (hL:R.2.2.length≤1000):pS R R=some (sndL l R.2.2):=by
 have hm:iB=1099511627776:=rfl
 refine bnd (yE (fun r=>r.drop l) R.2.2 [] (by simp;omega) (fun j r s hj hs=>?_)) rfl
 have hr:=hw r (aD hj)
 have hjl:=(List.getElem?_eq_some_iff.1 hj).1
 exact bnd (pA hj) (bnd (iO (R:=R) h1 (by omega)) (bnd (vB (by simp at hs ⊢;omega)) rfl))
theorem sW {p:Int}{l w:Nat}{B:Rows} (h:okM p w B) (hl:l≤w):okM p l (oD l B):=by
 intro r hr
 obtain ⟨x,hx,rfl⟩:=List.mem_map.1 hr
 have:=h x hx
 exact ⟨by simp;omega,fun y hy=>this.2 y (List.mem_of_mem_take hy)⟩
theorem fW {p:Int}{l w:Nat}{B:Rows} (h:okM p w B):okM p (w-l) (sndL l B):=by
 intro r hr
 obtain ⟨x,hx,rfl⟩:=List.mem_map.1 hr
 have:=h x hx
 exact ⟨by simp;omega,fun y hy=>this.2 y (List.mem_of_mem_drop hy)⟩
def mK (p:Int) (r:List Int):List Int:=r.map fun x=>(p-x) % p
theorem negR_ok {p:Int}{n:Nat}{r:List Int} (hp:2≤p) (h:r.length=n):okR p n (mK p r):=by
 refine ⟨by simp [mK,h],fun y hy=>?_⟩
 obtain ⟨x,_,rfl⟩:=List.mem_map.1 hy
 exact mL hp
theorem neg_eq (p x:Int):(0 + -1*x) % p=(p-x) % p:=by
 rw [show (0 + -1*x:Int)=(p-x)-p by omega,Int.sub_emod,Int.emod_self]
 simp
theorem negRow_ {p:Int}{n:Nat}{r:List Int} (hp:2≤p∧p≤97) (hr:okR p n r):gH p (List.replicate n 0) (-1) r=some (mK p r):=by
 have:=iV (fun x=>x=0) (fun x=>0≤x∧x<p) (fun y x=>(x + -1*y) % p) r (f:=fun (k3:Nat) (s72:List Int)=>
   (idxO r ((k3:Nat):Int)).bind fun a87=>
   (idxO s72 ((k3:Nat):Int)).bind fun a95=>
   (vF (-1) a87).bind fun a97=>
   (qA a95 a97).bind fun a99=>
   (zN p a99).bind fun y101=>
   (setO s72 ((k3:Nat):Int) y101).bind fun a110=>
   some a110) (by
  intro j y x s hy hx hxp hyp hj
  have hx0:x=0:=hxp
  subst hx0
  exact bnd (pA hy) (bnd (pA hx) (bnd (iL (by omega) (by omega)) (bnd (jB (by omega) (by omega)) (bnd (modG hp (by omega)) (bnd (gD _ hj) rfl)))))) r [] [] (List.replicate n 0) rfl rfl (by rw [hr.1];simp) hr.2 (fun x hx=>List.eq_of_mem_replicate hx)
 refine (bnd this rfl:gH p (List.replicate n 0) (-1) r=_).trans ?_
 congr 1
 have hz:∀ (r:List Int),List.zipWith (fun y x=>(x + -1*y) % p) r (List.replicate r.length 0)=mK p r:=by
  intro r
  induction r with
  | nil=>rfl
  | cons a r ih=>
   show (0 + -1*a) % p::_=_
   rw [neg_eq]
   exact congrArg (List.cons _) ih
 rw [←hr.1]
 simpa using hz r
def tE (p:Int) (l m:Nat) (A B:Rows):Rows:=sndL l A++(oD m B).map (mK p)
theorem EV_ {p:Int}{l m r:Nat}{A B:Rows} (hp:2≤p) (hA:okM p (l+m) A) (hB:okM p (m+r) B):okM p m (tE p l m A B):=by
 intro x hx
 rcases List.mem_append.1 hx with hx | hx
 ·
  have:=fW hA (l:=l) x hx
  rwa [Nat.add_sub_cancel_left] at this
 ·
  obtain ⟨y,hy,rfl⟩:=List.mem_map.1 hx
  exact negR_ok hp (sW hB (l:=m) (by omega) y hy).1
theorem El_ (p:Int) (l m:Nat) (A B:Rows):(tE p l m A B).length=A.length+B.length:=by simp [tE,sndL,oD]
theorem DB_ {p:Int}{l:Nat}:∀ (B:Rows) (c:List Int) (acc:List Int),(pE (fun acc row c=>pD p c acc row) B c acc).take l=pE (fun acc row c=>pD p c acc row) (oD l B) c (acc.take l)
 | [],c,acc=>by simp [pE,oD]
 | r::B,[],acc=>by simp [pE,oD]
 | r::B,x::c,acc=>by
  show (pE _ B c (pD p x acc r)).take l=pE _ (oD l B) c (pD p x (acc.take l) (r.take l))
  rw [DB_ B c]
  congr 1
  unfold pD
  rw [List.take_zipWith]
theorem DC_ {p:Int}{l:Nat}:∀ (B:Rows) (c:List Int) (acc:List Int),(pE (fun acc row c=>pD p c acc row) B c acc).drop l=pE (fun acc row c=>pD p c acc row) (sndL l B) c (acc.drop l)
 | [],c,acc=>by simp [pE,sndL]
 | r::B,[],acc=>by simp [pE,sndL]
 | r::B,x::c,acc=>by
  show (pE _ B c (pD p x acc r)).drop l=pE _ (sndL l B) c (pD p x (acc.drop l) (r.drop l))
  rw [DC_ B c]
  congr 1
  unfold pD
  rw [List.drop_zipWith]
theorem HQ_ {p:Int}{l w:Nat} (B:Rows) (c:List Int) (h:l≤w):(dD p w B c).take l=dD p l (oD l B) c:=by
 unfold dD
 rw [DB_,List.take_replicate,Nat.min_eq_left h]
theorem HR_ {p:Int}{l w:Nat} (B:Rows) (c:List Int):(dD p w B c).drop l=dD p (w-l) (sndL l B) c:=by
 unfold dD
 rw [DC_,List.drop_replicate]
theorem nul_ker {p:Int}{m:Nat}{M:Rows} (hf:fdB p=true) (h:okM p m M):fG p M.length (trM M m)=kerM p m M:=by
 have hT:okM p M.length (trM M m):=E3_ h (Nat.le_refl _)
 have key:∀ x,uH p M.length (trM M m) x↔kS p m M x:=by
  intro x
  unfold uH kS
  rw [uR]
  refine forall_congr' fun i=>forall_congr' fun hi=>?_
  rw [E4_ hi,cD (g:=fun t=>el x t*el (gr M t) i) (fun t ht=>by rw [colM_el ht,Int.mul_comm])]
 refine Aw_ (dC hf).1 (A1_ hf) (A4_ hf h) (fun i hi=>?_) (fun i hi=>?_)
 · exact (D2_ hf h _).2 ((key _).1 ((oV hf hT _).1 (qF hi)))
 · exact (oV hf hT _).2 ((key _).2 ((D2_ hf h _).1 (qF hi)))
def cmpP (p:Int) (l m r:Nat) (A B:Rows):Rows:=(kerM p m (tE p l m A B)).map fun k=>dD p l (oD l A) (k.take A.length)++dD p r (sndL m B) (k.drop A.length)
def cmpR (p:Int) (l m r:Nat) (A B:Rows):Rows:=eC p (l+r) (cmpP p l m r A B)
theorem BC_ {p:Int}{l m r:Nat}{A B:Rows} (hf:fdB p=true) (hA:okM p (l+m) A) (hB:okM p (m+r) B):okM p (l+r) (cmpP p l m r A B):=by
 have hp:=(dC hf).1
 intro x hx
 obtain ⟨k,hk,rfl⟩:=List.mem_map.1 hx
 have h1:=sR (p:=p) (n:=l) hp (rows:=oD l A) (cs:=k.take A.length) (sW hA (by omega))
 have h2:okR p r (dD p r (sndL m B) (k.drop A.length)):=sR hp (by have:=fW hB (l:=m);rwa [Nat.add_sub_cancel_left] at this)
 exact Bj_ h1 h2
theorem D1_ {p:Int}{m:Nat}{M:Rows} (hf:fdB p=true) (h:okM p m M):∀ k∈kerM p m M,k.length=M.length∧inP p k:=fun k hk=>(A4_ hf h).ok k hk
theorem EI_ {p:Int}{m:Nat}{M:Rows} (hf:fdB p=true) (h:okM p m M):(kerM p m M).length≤M.length:=jO hf (A4_ hf h)
theorem IN_ {p:Int}{m:Nat} (hp:2≤p∧p≤97) (hm:m≤1000) (Y acc:Rows) (hY:okM p m Y) (hl:acc.length+Y.length≤10000):forS (fun (k22:Nat) (s80:List (List Int))=>
   (idxO Y ((k22:Nat):Int)).bind fun a96=>
   (wG ((a96.length:Nat):Int)).bind fun y100=>
   (gH p y100 (-1) a96).bind fun y105=>
   (tA s80 [y105]).bind fun a111=>
   some a111) Y.length 0 acc=some (acc++Y.map (mK p)):=by
 have hmx:iB=1099511627776:=rfl
 refine yE (mK p) Y acc (by omega) (fun j y s hj hs=>?_)
 have hy:=hY y (aD hj)
 have hjl:=(List.getElem?_eq_some_iff.1 hj).1
 refine bnd (pA hj) (bnd (cK (by omega)) ?_)
 rw [hy.1]
 exact bnd (negRow_ hp hy) (bnd (vB (by simp;omega)) rfl)
theorem Is_ {p:Int}{l m r:Nat}{A B:Rows} (hf:fdB p=true) (hl:l≤100) (hm:m≤100) (hr:r≤100) (hA:okM p (l+m) A) (hB:okM p (m+r) B) (lA:A.length≤1000) (lB:B.length≤1000) :
  tP p ((l:Int),(m:Int),A) ((m:Int),(r:Int),B)=some ((l:Int),(r:Int),cmpR p l m r A B):=by
 have hmx:iB=1099511627776:=rfl
 have hp:=dC hf
 have wA:∀ x∈A,x.length=l+m:=fun x hx=>(hA x hx).1
 have wB:∀ x∈B,x.length=m+r:=fun x hx=>(hB x hx).1
 have e1:=CN_ (R:=((l:Int),(m:Int),A)) rfl wA (by omega) lA
 have e2:=CW_ (R:=((m:Int),(r:Int),B)) rfl wB (by omega) lB
 have e3:=CW_ (R:=((l:Int),(m:Int),A)) rfl wA (by omega) lA
 have e4:=CN_ (R:=((m:Int),(r:Int),B)) rfl wB (by omega) lB
 have hM:=EV_ (p:=p) (l:=l) (m:=m) (r:=r) hp.1 hA hB
 have lM:=El_ p l m A B
 have lf:(oD l A).length=A.length:=by simp [oD]
 have n1:=IN_ hp (by omega) (oD m B) (sndL l A) (sW hB (by omega)) (by simp [oD,sndL];omega)
 have hK:=kernel_ hf (by omega:m≤1048576) hM (by omega)
 have lK:=EI_ hf hM
 have rK:=D1_ hf hM
 have fA:dJ p l (oD l A):=sW hA (by omega)
 have sB:dJ p r (sndL m B):=by have:=fW hB (l:=m);rwa [Nat.add_sub_cancel_left] at this
 have ls:(sndL m B).length=B.length:=by simp [sndL]
 have hloop:=yE (f:=fun (k249:Nat) (s401:List (List Int))=>
   (idxO (kerM p m (tE p l m A B)) ((k249:Nat):Int)).bind fun a417=>
   (aB a417 0 (((oD l A).length:Nat):Int)).bind fun a422=>
   (oN p a422 (oD l A) (l:Int)).bind fun y426=>
   (aB a417 (((oD l A).length:Nat):Int) ((a417.length:Nat):Int)).bind fun a432=>
   (oN p a432 (sndL m B) (r:Int)).bind fun y436=>
   (jH [y426,y436]).bind fun y446=>
   (tA s401 [y446]).bind fun a454=>
   some a454) (fun k=>dD p l (oD l A) (k.take A.length)++dD p r (sndL m B) (k.drop A.length)) (kerM p m (tE p l m A B)) [] (by simp;omega) (fun j k s hj hs=>by
  have hk:=rK k (aD hj)
  have hjl:=(List.getElem?_eq_some_iff.1 hj).1
  have s1:aB k 0 (((oD l A).length:Nat):Int)=some (k.take A.length):=by
   unfold aB;rw [if_pos ⟨by omega,by omega,by omega⟩,lf];simp
  have s2:aB k (((oD l A).length:Nat):Int) ((k.length:Nat):Int)=some (k.drop A.length):=by
   unfold aB;rw [if_pos ⟨by omega,by omega,by omega⟩,lf]
   simp only [Int.toNat_natCast]
   rw [List.take_of_length_le (by simp)]
  have c1:=Ek_ hp (by omega:l≤iB) fA (cs:=k.take A.length) (fun x hx=>hk.2 x (List.mem_of_mem_take hx)) (by rw [lf];simp;omega)
  have c2:=Ek_ hp (by omega:r≤iB) sB (cs:=k.drop A.length) (fun x hx=>hk.2 x (List.mem_of_mem_drop hx)) (by rw [ls];simp;omega)
  have hj2:=xR (l:=[dD p l (oD l A) (k.take A.length),dD p r (sndL m B) (k.drop A.length)]) (by simp [c1.2.1,c2.2.1];omega)
  refine bnd (pA hj) (bnd s1 (bnd c1.1 (bnd s2 (bnd c2.1 (bnd hj2 (bnd (vB (by simp at hs ⊢;omega)) ?_))))))
  simp)
 have hred:=lV hf (Nat.le_refl (l+r)) (by omega) (BC_ hf hA hB) (m:=cmpP p l m r A B) (by simp [cmpP];omega)
 refine bnd e1 (bnd e2 (bnd n1 (bnd (bnd e3 (bnd e4 rfl)) (bnd hK (bnd hloop ?_)))))
 refine bnd (bnd (jB (by dsimp only;omega) (by dsimp only;omega)) (bnd ?_ rfl)) rfl
 dsimp only
 rw [show ((l:Int)+(r:Int))=((l+r:Nat):Int) by omega]
 exact hred
theorem I4_ {p:Int}{l m r:Nat}{A B:Rows} (hA:okM p (l+m) A) (hB:okM p (m+r) B){j:Nat} (hj:j<m):mF (tE p l m A B) j=A.map (fun x=>el x (l+j))++B.map (fun x=>(p-el x j) % p):=by
 unfold mF tE sndL oD
 rw [List.map_append,List.map_map,List.map_map,List.map_map]
 congr 1
 ·
  refine List.map_congr_left fun x hx=>?_
  show el (x.drop l) j=el x (l+j)
  unfold el
  rw [List.getD_eq_getElem?_getD,List.getD_eq_getElem?_getD,List.getElem?_drop]
 ·
  refine List.map_congr_left fun x hx=>?_
  have hx:=(hB x hx).1
  show el (mK p (x.take m)) j=(p-el x j) % p
  unfold mK el
  rw [List.getD_eq_getElem?_getD,List.getD_eq_getElem?_getD,List.getElem?_map,List.getElem?_take,if_pos hj,List.getElem?_eq_getElem (by omega)]
  rfl
theorem Hx_ {p:Int}{l m r:Nat}{A B:Rows} (hf:fdB p=true) (hl:l≤100) (hm:m≤100) (hr:r≤100) (hA:okM p (l+m) A) (hB:okM p (m+r) B) (lA:A.length≤1000) (lB:B.length≤1000) :
  lP p ((l:Int),(m:Int),A) ((m:Int),(r:Int),B)=some ((l:Int),(r:Int),cmpR p l m r A B):=by
 have hmx:iB=1099511627776:=rfl
 have hp:=dC hf
 have hM:=EV_ (p:=p) (l:=l) (m:=m) (r:=r) hp.1 hA hB
 have lM:=El_ p l m A B
 have hlen:(List.replicate m ([]:List Int)).length=m:=List.length_replicate
 have hrows:forS (fun (k17:Nat) (s676:List (List Int))=>
   (forS (fun (k685:Nat) (s786:List (List Int))=>
     (idxO A ((k685:Nat):Int)).bind fun a801=>
     (idxO s786 ((k17:Nat):Int)).bind fun a812=>
     (qA (l:Int) ((k17:Nat):Int)).bind fun a815=>
     (idxO a801 a815).bind fun a823=>
     (tA a812 [a823]).bind fun a829=>
     (setO s786 ((k17:Nat):Int) a829).bind fun a841=>
     some a841) A.length 0 s676).bind fun (s845:List (List Int))=>
   (forS (fun (k847:Nat) (s950:List (List Int))=>
     (idxO B ((k847:Nat):Int)).bind fun a965=>
     (idxO s950 ((k17:Nat):Int)).bind fun a976=>
     (idxO a965 ((k17:Nat):Int)).bind fun a985=>
     (vN p a985).bind fun y987=>
     (tA a976 [y987]).bind fun a994=>
     (setO s950 ((k17:Nat):Int) a994).bind fun a1006=>
     some a1006) B.length 0 s845).bind fun (s1010:List (List Int))=>
   some s1010) (List.replicate m ([]:List Int)).length 0 (List.replicate m ([]:List Int))=some (trM (tE p l m A B) m):=by
  refine (iD (fun j=>mC (fun j _=>mF (tE p l m A B) j) (List.replicate m ([]:List Int)) j) ?_).trans (by rw [dS];rfl)
  intro j hj
  have hj':j<m:=by rw [hlen] at hj;exact hj
  have hpl:j<(mC (fun j _=>mF (tE p l m A B) j) (List.replicate m ([]:List Int)) j).length:=by rw [zH];exact hj
  have hg:gr (mC (fun j _=>mF (tE p l m A B) j) (List.replicate m ([]:List Int)) j) j=[]:=by
   rw [lL hj,if_neg (by omega)]
   unfold gr;rw [List.getD_eq_getElem?_getD,List.getElem?_replicate,if_pos hj'];rfl
  have e1:mC (fun j _=>mF (tE p l m A B) j) (List.replicate m ([]:List Int)) j=(mC (fun j _=>mF (tE p l m A B) j) (List.replicate m ([]:List Int)) j).set j ((A.take 0).map fun x=>el x (l+j)):=by
   conv=>lhs;rw [←yM hpl,hg]
   rfl
  have e2:=bV (g:=fun j _=>mF (tE p l m A B) j) (m:=List.replicate m ([]:List Int)) hj
  have e3:=I4_ (p:=p) (l:=l) (r:=r) hA hB hj'
  rw [e3] at e2
  rw [←e2]
  generalize mC (fun j _=>mF (tE p l m A B) j) (List.replicate m ([]:List Int)) j=Z at hpl hg e1 ⊢
  rw [e1]
  refine bnd (a:=Z.set j (A.map fun x=>el x (l+j))) ?_ (bnd (a:=Z.set j (A.map (fun x=>el x (l+j))++B.map fun x=>(p-el x j) % p)) ?_ ?_)
  ·
   refine (iD (fun k=>Z.set j ((A.take k).map fun x=>el x (l+j))) ?_).trans (by rw [List.take_length])
   intro k hk
   have hset:j<(Z.set j ((A.take k).map fun x=>el x (l+j))).length:=by rw [List.length_set];exact hpl
   have hw:=(hA _ (bN hk)).1
   refine bnd (kD hk) (bnd (kD hset) (bnd (a:=((l+j:Nat):Int)) (by rw [jB (by omega) (by omega)];congr 1) (bnd (yD (by omega)) ?_)))
   rw [aJ hpl,if_pos rfl]
   refine bnd (vB (by simp;omega)) (bnd (gD _ hset) ?_)
   rw [List.set_set,List.take_add_one,fE hk,List.map_append]
   rfl
  ·
   have e4:Z.set j (A.map fun x=>el x (l+j))=Z.set j (A.map (fun x=>el x (l+j))++(B.take 0).map fun x=>(p-el x j) % p):=by simp
   rw [e4]
   refine (iD (fun k=>Z.set j (A.map (fun x=>el x (l+j))++(B.take k).map fun x=>(p-el x j) % p)) ?_).trans (by rw [List.take_length])
   intro k hk
   have hset:j<(Z.set j (A.map (fun x=>el x (l+j))++(B.take k).map fun x=>(p-el x j) % p)).length:=by rw [List.length_set];exact hpl
   have hw:=hB _ (bN hk)
   have hel:=fI hB hk (c:=j) (by omega)
   refine bnd (kD hk) (bnd (kD hset) (bnd (yD (by omega)) (bnd (BR_ hp hel) ?_)))
   rw [aJ hpl,if_pos rfl]
   refine bnd (vB (by simp;omega)) (bnd (gD _ hset) ?_)
   rw [List.set_set,List.take_add_one,fE hk,List.map_append,← List.append_assoc]
   rfl
  · rw [List.set_set]
 have hT:okM p (tE p l m A B).length (trM (tE p l m A B) m):=E3_ hM (Nat.le_refl _)
 have hN:=Ey_ (n:=(tE p l m A B).length) hf (by omega) hT (by rw [uR];omega)
 rw [nul_ker hf hM,lM] at hN
 have lK:=EI_ hf hM
 have rK:=D1_ hf hM
 have sB:okM p (m+r-m) (sndL m B):=fW hB
 have hloop:=yE (f:=fun (k1023:Nat) (s1216:List (List Int))=>
   (idxO (kerM p m (tE p l m A B)) ((k1023:Nat):Int)).bind fun a1233=>
   (qA (l:Int) (m:Int)).bind fun a1238=>
   (aB a1233 0 ((A.length:Nat):Int)).bind fun a1240=>
   (iM p a1238 A a1240).bind fun y1244=>
   (qA (m:Int) (r:Int)).bind fun a1250=>
   (aB a1233 ((A.length:Nat):Int) ((a1233.length:Nat):Int)).bind fun a1252=>
   (iM p a1250 B a1252).bind fun y1256=>
   (aB y1256 (m:Int) ((y1256.length:Nat):Int)).bind fun a1262=>
   (aB y1244 0 (l:Int)).bind fun a1266=>
   (vG a1266).bind fun y1270=>
   (tA y1270 a1262).bind fun a1275=>
   (tA s1216 [a1275]).bind fun a1283=>
   some a1283) (fun k=>dD p l (oD l A) (k.take A.length)++dD p r (sndL m B) (k.drop A.length)) (kerM p m (tE p l m A B)) [] (by simp;omega) (fun j k s hj hs=>by
  have hk:=rK k (aD hj)
  have hjl:=(List.getElem?_eq_some_iff.1 hj).1
  have s1:aB k 0 ((A.length:Nat):Int)=some (k.take A.length):=by
   unfold aB;rw [if_pos ⟨by omega,by omega,by omega⟩];simp
  have s2:aB k ((A.length:Nat):Int) ((k.length:Nat):Int)=some (k.drop A.length):=by
   unfold aB;rw [if_pos ⟨by omega,by omega,by omega⟩]
   simp only [Int.toNat_natCast]
   rw [List.take_of_length_le (by simp)]
  have c1:=BJ_ hp (by omega:l+m≤iB) hA (cs:=k.take A.length) (fun x hx=>hk.2 x (List.mem_of_mem_take hx)) (by simp;omega)
  have c2:=BJ_ hp (by omega:m+r≤iB) hB (cs:=k.drop A.length) (fun x hx=>hk.2 x (List.mem_of_mem_drop hx)) (by simp;omega)
  have o1:=sR (p:=p) (n:=l+m) hp.1 (rows:=A) (cs:=k.take A.length) hA
  have o2:=sR (p:=p) (n:=m+r) hp.1 (rows:=B) (cs:=k.drop A.length) hB
  have t1:=HQ_ (p:=p) A (k.take A.length) (show l≤l+m by omega)
  have t2:=HR_ (p:=p) (l:=m) (w:=m+r) B (k.drop A.length)
  rw [Nat.add_sub_cancel_left] at t2
  have s3:aB (dD p (m+r) B (k.drop A.length)) (m:Int) (((dD p (m+r) B (k.drop A.length)).length:Nat):Int)=some (dD p r (sndL m B) (k.drop A.length)):=by
   unfold aB;rw [if_pos ⟨by omega,by rw [o2.1];omega,by omega⟩]
   simp only [Int.toNat_natCast]
   rw [List.take_of_length_le (by simp),t2]
  have s4:aB (dD p (l+m) A (k.take A.length)) 0 (l:Int)=some (dD p l (oD l A) (k.take A.length)):=by
   unfold aB;rw [if_pos ⟨by omega,by omega,by rw [o1.1];omega⟩]
   simp [t1]
  have lx:(dD p l (oD l A) (k.take A.length)).length=l:=by rw [←t1];simp [o1.1]
  have lz:(dD p r (sndL m B) (k.drop A.length)).length=r:=by rw [←t2];simp [o2.1]
  have a1:qA (l:Int) (m:Int)=some ((l+m:Nat):Int):=by rw [jB (by omega) (by omega)];congr 1
  have a2:qA (m:Int) (r:Int)=some ((m+r:Nat):Int):=by rw [jB (by omega) (by omega)];congr 1
  refine bnd (pA hj) (bnd a1 (bnd s1 (bnd c1 (bnd a2 (bnd s2 (bnd c2 (bnd s3 (bnd s4 (bnd (own_ (by omega)) (bnd (vB (by omega)) (bnd (vB (by simp at hs ⊢;omega)) rfl))))))))))))
 have hred:=yQ hf (Nat.le_refl (l+r)) (by omega) (BC_ hf hA hB) (m:=cmpP p l m r A B) (by simp [cmpP];omega)
 refine bnd (vI [] (by omega)) (bnd hrows (bnd (a:=((A.length+B.length:Nat):Int)) (by rw [jB (by dsimp only;omega) (by dsimp only;omega)];congr 1) (bnd hN (bnd hloop ?_))))
 refine bnd (bnd (jB (by dsimp only;omega) (by dsimp only;omega)) (bnd ?_ rfl)) rfl
 dsimp only
 rw [show ((l:Int)+(r:Int))=((l+r:Nat):Int) by omega]
 exact hred
end Go.Proofs.YtlggnmkelgplnaaGreatDoor
namespace Go.Proofs.YtlggnmkelgplnaaGreatDoor
abbrev Edg:=Int×Int×List Int×List Int
abbrev Gra:=Int×List Edg×List Int×List Int
def gB {α:Type} (n:Nat) (f:Nat→α):List α:=(List.range n).map f
theorem kF {α:Type} (n:Nat) (f:Nat→α):(gB n f).length=n:=by simp [gB]
theorem gV {α:Type}{n k:Nat} (f:Nat→α) (h:k<n):(gB n f)[k]?=some (f k):=by
 unfold gB;rw [List.getElem?_map,List.getElem?_range h];rfl
theorem cE {α:Type}{n k:Nat} (f:Nat→α) (h:k<n):idxO (gB n f) (k:Int)=some (f k):=pA (gV f h)
theorem dE {α:Type}{n:Nat}{f g:Nat→α} (h:∀ k,k<n→f k=g k):gB n f=gB n g:=by
 unfold gB;exact List.map_congr_left fun k hk=>h k (List.mem_range.1 hk)
theorem IA_ {α:Type}{n m:Nat} (f:Nat→α) (v:α):(gB n f).set m v=gB n (fun k=>if k=m then v else f k):=by
 apply List.ext_getElem?
 intro j
 rw [List.getElem?_set]
 by_cases hj:j<n
 ·
  rw [gV _ hj,gV _ hj]
  by_cases hm:m=j
  · rw [if_pos hm,if_pos hm.symm,if_pos (by rw [kF];omega)]
  · rw [if_neg hm,if_neg (fun h=>hm h.symm)]
 ·
  rw [List.getElem?_eq_none (by rw [kF];omega),List.getElem?_eq_none (by rw [kF];omega)]
  split <;> simp [kF] <;> omega
theorem jF {α:Type}{n m:Nat} (f:Nat→α) (v:α) (h:m<n):setO (gB n f) (m:Int) v=some (gB n (fun k=>if k=m then v else f k)):=by
 rw [gD _ (by rw [kF];exact h),IA_]
theorem AV_ {α:Type} (n:Nat) (z:α):List.replicate n z=gB n (fun _=>z):=by
 apply List.ext_getElem?
 intro j
 by_cases hj:j<n
 · rw [gV _ hj,List.getElem?_replicate,if_pos hj]
 · rw [List.getElem?_replicate,if_neg hj,List.getElem?_eq_none (by rw [kF];omega)]
theorem vJ {α:Type}{n:Nat} (z:α) (h:n≤iB):nD (n:Int) z=some (gB n fun _=>z):=by rw [vI z h,AV_]
def gG (k v:Int):Bool:=rng k 3 14&&(if k=7∨k=13 then rng v 0 96 else decide (v=0))
def kd (k:Int):Int×Int:=if k=2 then (2,2) else if k=3∨k=11 then (1,2) else if k=4∨k=12 then (1,0) else if k=5∨k=9 then (2,1) else if k=6∨k=10 then (0,1) else (1,1)
def arB (e:Edg):Bool:=gG e.1 e.2.1&&(decide ((e.2.2.1.length:Int)=(kd e.1).1)&&decide ((e.2.2.2.length:Int)=(kd e.1).2))
def wOk (n:Int) (l:List Int):Bool:=l.all fun x=>rng x 0 (n-1)
theorem tmKind_ (k:Int):rN k=some (kd k):=by
 unfold rN kd
 by_cases h2:k=2
 · simp [h2]
 by_cases h3:k=3∨k=11
 · rcases h3 with h3 | h3 <;> simp [h3]
 by_cases h4:k=4∨k=12
 · rcases h4 with h3 | h3 <;> simp [h3]
 by_cases h5:k=5∨k=9
 · rcases h5 with h3 | h3 <;> simp [h3]
 by_cases h6:k=6∨k=10
 · rcases h6 with h3 | h3 <;> simp [h3]
 rw [if_neg h2,if_neg h3,if_neg h4,if_neg h5,if_neg h6]
 simp only [not_or] at *
 simp [*]
theorem tQ {k v:Int} (hk:rng k 3 14=true):iH (k,v,.empty)=some (gG k v):=by
 have hr:=rng_true.1 hk
 unfold iH gG
 have h1:rng k 1 14=true:=rng_true.2 (by omega)
 by_cases h7:k=7
 · subst h7;simp [l1In,h1,hk]
 by_cases h13:k=13
 · subst h13;simp [l1In,h1,hk]
 have h0:¬k=1:=by omega
 simp [l1In,h1,hk,h7,h13,h0]
theorem hgEdge_ (e:Edg){n:Int} (h0:0≤n) (h1:n≤100):zT e n=some (arB e&&(wOk n e.2.2.1&&wOk n e.2.2.2)):=by
 obtain ⟨k,v,a,b⟩:=e
 unfold zT arB
 have hs:subO n 1=some (n-1):=fD (by omega) (by omega)
 cases hk:rng k 3 14 with
 | false=>
  have:gG k v=false:=by unfold gG;rw [hk];rfl
  simp [l1In,hk,this]
 | true=>
  cases hg:gG k v with
  | false=>simp [l1In,hk,tQ hk,hg]
  | true=>
   by_cases ha:(a.length:Int)=(kd k).1
   ·
    by_cases hb:(b.length:Int)=(kd k).2
    ·
     cases hw:wOk n a with
     | false=>unfold wOk at hw;simp [l1In,hk,tQ hk,hg,tmKind_,ha,hb,hs,l1All,hw]
     | true=>unfold wOk at hw;simp [l1In,hk,tQ hk,hg,tmKind_,ha,hb,hs,l1All,hw,wOk]
    · simp [l1In,hk,tQ hk,hg,tmKind_,ha,hb]
   · simp [l1In,hk,tQ hk,hg,tmKind_,ha]
theorem mY {k v:Int} (hk:rng k 3 14=true):fP k v=some (gG k v):=by
 unfold fP lN gG
 by_cases h7:k=7
 · subst h7;simp [within_,hk]
 by_cases h13:k=13
 · subst h13;simp [within_,hk]
 simp [hk,h7,h13]
theorem pP {k:Int} (hk:rng k 3 14=true):yL k=some (kd k):=by
 have hr:=rng_true.1 hk
 have:k=3∨k=4∨k=5∨k=6∨k=7∨k=8∨k=9∨k=10∨k=11∨k=12∨k=13∨k=14:=by omega
 rcases this with rfl | rfl | rfl | rfl | rfl | rfl | rfl | rfl | rfl | rfl | rfl | rfl <;> rfl
theorem isEdge_ (e:Edg):bT e=some (arB e):=by
 obtain ⟨k,v,a,b⟩:=e
 unfold bT arB iN
 cases hk:rng k 3 14 with
 | false=>
  have:gG k v=false:=by unfold gG;rw [hk];rfl
  simp [within_,hk,this]
 | true=>
  cases hg:gG k v with
  | false=>simp [within_,hk,mY hk,hg]
  | true=>
   simp only [within_,hk,mY hk,hg,pP hk,Option.bind_some,Bool.not_true,cond_false,Bool.true_and]
   congr 1
   rw [←Bool.decide_and]
   refine decide_eq_decide.2 ?_
   simp only [List.cons.injEq,and_true]
   exact ⟨fun ⟨x,y⟩=>⟨x.symm,y.symm⟩,fun ⟨x,y⟩=>⟨x.symm,y.symm⟩⟩
def edI (e:Edg):List Int:=e.2.2.1
def edO (e:Edg):List Int:=e.2.2.2
theorem yV {n:Nat} (l:List Int) (f:Nat→Int) (hl:∀ x∈l,0≤x∧x<(n:Int)) (B:Int) (hf:∀ k,k<n→0≤f k∧f k+l.length≤B) (hB:B≤4611686018427387904){g:Nat→List Int→Option (List Int)}
  (hg:∀ k s,g k s=((idxO l (k:Int)).bind fun a=>(idxO s a).bind fun b=>(qA b 1).bind fun c=>(setO s a c).bind fun t=>some t)) :
  forS g l.length 0 (gB n f)=some (gB n fun k=>f k+(l.count (k:Int):Nat)):=by
 have:=iD (f:=g) (n:=l.length) (fun j=>gB n fun k=>f k+((l.take j).count (k:Int):Nat)) (fun j hj=>by
  rw [hg]
  have hm:=hl l[j] (List.getElem_mem hj)
  obtain ⟨m,hme⟩:∃ m:Nat,l[j]=(m:Int):=⟨l[j].toNat,by omega⟩
  have hmn:m<n:=by omega
  refine bnd (pA (List.getElem?_eq_getElem hj)) ?_
  rw [hme]
  have hb:=hf m hmn
  have hc:((l.take j).count (m:Int))≤j:=Nat.le_trans List.count_le_length (by simp;omega)
  refine bnd (cE _ hmn) (bnd (jB (by omega) (by omega)) (bnd (jF _ _ hmn) (congrArg some (dE fun k hk=>?_))))
  rw [List.take_add_one,List.getElem?_eq_getElem hj,List.count_append,hme]
  by_cases h:k=m
  · subst h;simp;omega
  ·
   rw [if_neg h]
   have:¬(m:Int)=(k:Int):=by omega
   simp [this])
 have e0:(fun k=>f k+(((l.take 0).count ((k:Nat):Int):Nat):Int))=f:=by funext k;simp
 rw [List.take_length] at this
 rw [←this]
 congr 2
 exact e0.symm
def lE (E:List Edg) (s:Edg→List Int) (k:Nat):Nat:=((E.map s).flatten).count (k:Int)
def jD (E:List Edg) (s:Edg→List Int):Nat:=((E.map s).flatten).length
theorem mO {n:Nat}{l:List Int} (h:wOk n l=true):∀ x∈l,0≤x∧x<(n:Int):=by
 intro x hx
 have:=rng_true.1 (List.all_eq_true.1 h x hx)
 omega
def mD (g:Gra):List Int:=g.2.2.1++g.2.2.2++(g.2.1.map fun e=>edI e++edO e).flatten
def edW (n:Int) (e:Edg):Bool:=arB e&&(wOk n (edI e)&&wOk n (edO e))
def gOk (g:Gra):Bool:=rng g.1 0 100&&(decide (g.2.1.length≤60)&&(decide (g.2.2.1.length≤12)&&(decide (g.2.2.2.length≤12)&&(wOk g.1 g.2.2.1&&(wOk g.1 g.2.2.2&&(g.2.1.all (edW g.1)&&(List.range g.1.toNat).all fun k:Nat=>decide ((k:Int)∈mD g)))))))
theorem kd_le (k:Int):0≤(kd k).1∧(kd k).1≤2∧0≤(kd k).2∧(kd k).2≤2:=by
 unfold kd
 split <;> first | (refine ⟨?_,?_,?_,?_⟩ <;> decide) | skip
 split <;> first | (refine ⟨?_,?_,?_,?_⟩ <;> decide) | skip
 split <;> first | (refine ⟨?_,?_,?_,?_⟩ <;> decide) | skip
 split <;> first | (refine ⟨?_,?_,?_,?_⟩ <;> decide) | skip
 split <;> (refine ⟨?_,?_,?_,?_⟩ <;> decide)
theorem arB_len {e:Edg} (h:arB e=true):(edI e).length≤2∧(edO e).length≤2:=by
 unfold arB at h
 simp only [Bool.and_eq_true,decide_eq_true_eq] at h
 have:=kd_le e.1
 unfold edI edO
 omega
theorem Dx_ {n:Nat}{E:List Edg}{I O:List Int} (hn:n≤1048576) (hI:∀ x∈I,0≤x∧x<(n:Int)) (hO:∀ x∈O,0≤x∧x<(n:Int)) (hE:∀ e∈E,(∀ x∈edI e,0≤x∧x<(n:Int))∧(∀ x∈edO e,0≤x∧x<(n:Int)))
  (hB:I.length+O.length+jD E edI+jD E edO≤1099511627776) :
  kT ((n:Int),E,I,O)=some (gB n (fun k=>((I.count (k:Int)+lE E edO k:Nat):Int)),gB n (fun k=>((O.count (k:Int)+lE E edI k:Nat):Int))):=by
 have hm:iB=1099511627776:=rfl
 refine bnd (vJ _ (by omega)) (bnd (vJ _ (by omega)) ?_)
 have hc:∀ (l:List Int) (k:Nat),l.count (k:Int)≤l.length:=fun l k=>List.count_le_length
 refine bnd (yV I (fun _=>0) hI 1099511627776 (fun k _=>by omega) (by omega) (fun _ _=>rfl)) ?_
 refine bnd (yV O (fun _=>0) hO 1099511627776 (fun k _=>by omega) (by omega) (fun _ _=>rfl)) ?_
 have key:=iD (n:=E.length) (fun j=>(gB n (fun k=>((I.count (k:Int)+lE (E.take j) edO k:Nat):Int)),gB n (fun k=>((O.count (k:Int)+lE (E.take j) edI k:Nat):Int)))) (f:=fun (k215:Nat) (s652:List Int×List Int)=>
   (idxO E ((k215:Nat):Int)).bind fun a667=>
   (forS (fun (k679:Nat) (s738:List Int)=>
     (idxO a667.2.2.2 ((k679:Nat):Int)).bind fun a753=>
     (idxO s738 a753).bind fun a761=>
     (qA a761 1).bind fun a763=>
     (setO s738 a753 a763).bind fun a771=>
     some a771) a667.2.2.2.length 0 s652.1).bind fun (s776:List Int)=>
   (forS (fun (k778:Nat) (s837:List Int)=>
     (idxO a667.2.2.1 ((k778:Nat):Int)).bind fun a852=>
     (idxO s837 a852).bind fun a860=>
     (qA a860 1).bind fun a862=>
     (setO s837 a852 a862).bind fun a870=>
     some a870) a667.2.2.1.length 0 s652.2).bind fun (s875:List Int)=>
   some (s776,s875)) (fun j hj=>by
  have he:=hE _ (List.getElem_mem hj)
  have hsum:∀ s:Edg→List Int,jD (E.take (j+1)) s=jD (E.take j) s+(s E[j]).length:=fun s=>by
   unfold jD;rw [List.take_add_one,List.getElem?_eq_getElem hj,List.map_append,List.flatten_append,List.length_append];simp only [Option.toList_some,List.map_cons,List.map_nil,List.flatten_cons,List.flatten_nil,List.append_nil]
  have hle:∀ s:Edg→List Int,jD (E.take (j+1)) s≤jD E s:=fun s=>by
   unfold jD
   have:E=E.take (j+1)++E.drop (j+1):=(List.take_append_drop _ _).symm
   conv=>rhs;rw [this]
   rw [List.map_append,List.flatten_append,List.length_append];omega
  have hct:∀ (s:Edg→List Int) (k:Nat),lE (E.take j) s k≤jD (E.take j) s:=fun s k=>List.count_le_length
  have hcs:∀ (s:Edg→List Int) (k:Nat),lE (E.take (j+1)) s k=lE (E.take j) s k+(s E[j]).count (k:Int):=fun s k=>by
   unfold lE;rw [List.take_add_one,List.getElem?_eq_getElem hj,List.map_append,List.flatten_append,List.count_append];simp only [Option.toList_some,List.map_cons,List.map_nil,List.flatten_cons,List.flatten_nil,List.append_nil]
  have h1:=hsum edI;have h2:=hsum edO;have h3:=hle edI;have h4:=hle edO
  refine bnd (pA (List.getElem?_eq_getElem hj)) ?_
  refine bnd (yV (edO E[j]) _ he.2 1099511627776 (fun k _=>by have:=hct edO k;have:=hc I k;omega) (by omega) (fun _ _=>rfl)) ?_
  refine bnd (yV (edI E[j]) _ he.1 1099511627776 (fun k _=>by have:=hct edI k;have:=hc O k;omega) (by omega) (fun _ _=>rfl)) ?_
  refine congrArg some (Prod.ext (dE fun k hk=>?_) (dE fun k hk=>?_))
  · rw [hcs];push_cast;omega
  · rw [hcs];push_cast;omega)
 have e1:∀ (l:List Int) (s:Edg→List Int),gB n (fun k=>(0:Int)+(l.count (k:Int):Nat))=gB n (fun k=>((l.count (k:Int)+lE (E.take 0) s k:Nat):Int)):=fun l s=>dE fun k hk=>by
  unfold lE;simp
 rw [e1 I edO,e1 O edI]
 refine bnd key ?_
 rw [List.take_length]
theorem all_app (n:Int) (a b:List Int):wOk n (a++b)=(wOk n a&&wOk n b):=by unfold wOk;rw [List.all_append]
theorem tW {n:Int}{E:List Edg} (h:E.all (edW n)=true):E.all arB=true:=by
 rw [List.all_eq_true] at h ⊢
 intro e he
 have:=h e he
 unfold edW at this
 simp only [Bool.and_eq_true] at this
 exact this.1
theorem Er_ {E:List Edg} (h:E.all arB=true):jD E edI≤2*E.length∧jD E edO≤2*E.length:=by
 induction E with
 | nil=>exact ⟨Nat.le_refl _,Nat.le_refl _⟩
 | cons e E ih=>
  simp only [List.all_cons,Bool.and_eq_true] at h
  have h1:=arB_len h.1
  have h2:=ih h.2
  unfold jD at h2 ⊢
  simp only [List.map_cons,List.flatten_cons,List.length_append,List.length_cons]
  omega
theorem lW {E:List Edg}{s:Edg→List Int}{k:Nat}:lE E s k=0↔¬∃ e∈E,(k:Int)∈s e:=by
 unfold lE
 rw [List.count_eq_zero,List.mem_flatten]
 constructor
 · rintro h ⟨e,he,hk⟩;exact h ⟨s e,List.mem_map.2 ⟨e,he,rfl⟩,hk⟩
 ·
  rintro h ⟨l,hl,hk⟩
  obtain ⟨e,he,rfl⟩:=List.mem_map.1 hl
  exact h ⟨e,he,hk⟩
theorem DY_ {g:Gra}{k:Int}:k∈mD g↔k∈g.2.2.1∨k∈g.2.2.2∨∃ e∈g.2.1,k∈edI e∨k∈edO e:=by
 unfold mD
 rw [List.mem_append,List.mem_append,List.mem_flatten]
 constructor
 ·
  rintro ((h | h) | ⟨l,hl,h⟩)
  · exact .inl h
  · exact .inr (.inl h)
  ·
   obtain ⟨e,he,rfl⟩:=List.mem_map.1 hl
   exact .inr (.inr ⟨e,he,List.mem_append.1 h⟩)
 ·
  rintro (h | h | ⟨e,he,h⟩)
  · exact .inl (.inl h)
  · exact .inl (.inr h)
  · exact .inr ⟨_,List.mem_map.2 ⟨e,he,rfl⟩,List.mem_append.2 h⟩
theorem ES_ {n:Nat}{E:List Edg} (h:E.all (edW n)=true):∀ e∈E,(∀ x∈edI e,0≤x∧x<(n:Int))∧(∀ x∈edO e,0≤x∧x<(n:Int)):=by
 intro e he
 have:=List.all_eq_true.1 h e he
 unfold edW at this
 simp only [Bool.and_eq_true] at this
 exact ⟨mO this.2.1,mO this.2.2⟩
theorem D5_ (g:Gra):wP g=some (gOk g):=by
 obtain ⟨n,E,I,O⟩:=g
 unfold wP gOk
 cases hr:rng n 0 100 with
 | false=>simp [l1In,hr]
 | true=>
  have hn:=rng_true.1 hr
  have hs:subO n 1=some (n-1):=fD (by omega) (by omega)
  by_cases hE:E.length≤60
  case neg=>
   have:(60:Int)<(E.length:Int):=by omega
   simp [l1In,hr,hE,this]
  have hE':¬(60:Int)<(E.length:Int):=by omega
  by_cases hI:I.length≤12
  case neg=>
   have:(12:Int)<(I.length:Int):=by omega
   simp [l1In,hr,hE,hE',hI,this]
  have hI':¬(12:Int)<(I.length:Int):=by omega
  by_cases hO:O.length≤12
  case neg=>
   have:(12:Int)<(O.length:Int):=by omega
   simp [l1In,hr,hE,hE',hI,hI',hO,this]
  have hO':¬(12:Int)<(O.length:Int):=by omega
  cases hwI:wOk n I with
  | false=>unfold wOk at hwI;simp [l1In,hr,hE,hE',hI,hI',hO,hO',hs,l1All,hwI]
  | true=>
  cases hwO:wOk n O with
  | false=>unfold wOk at hwI hwO;simp [l1In,hr,hE,hE',hI,hI',hO,hO',hs,l1All,hwO]
  | true=>
  have hl1:yK I 0 (n-1)=some true:=by rw [l1All];exact congrArg some hwI
  have hl2:yK O 0 (n-1)=some true:=by rw [l1All];exact congrArg some hwO
  simp only [l1In,hr,dF hE',dF hI',dF hO',dT hE,dT hI,dT hO,hs,hl1,hl2,Option.bind_some,Bool.not_true,cond_false,Bool.true_and]
  refine sqW (nH (edW n) E 0 ?_ (t:=false)) ?_
  ·
   intro j e hj
   rw [Nat.zero_add]
   refine bnd (pA hj) (bnd (hgEdge_ e hn.1 hn.2) (stp ?_))
   have:(arB e&&(wOk n e.2.2.1&&wOk n e.2.2.2))=edW n e:=rfl
   rw [this]
   cases edW n e <;> rfl
  ·
   cases hall:E.all (edW n) with
   | false=>rfl
   | true=>
    rw [if_pos rfl,zI]
    obtain ⟨m,rfl⟩:∃ m:Nat,n=(m:Int):=⟨n.toNat,by omega⟩
    have h2:=Er_ (tW hall)
    refine bnd (Dx_ (by omega) (mO hwI) (mO hwO) (ES_ hall) (by omega)) ?_
    dsimp only
    have hlen:∀ f:Nat→Int,(gB m f).length=(List.range m).length:=fun f=>by rw [kF,List.length_range]
    rw [hlen]
    refine sqW (nH (fun k:Nat=>decide ((k:Int)∈mD ((m:Int),E,I,O))) (List.range m) 0 ?_ (t:=false)) ?_
    ·
     intro j k hj
     obtain ⟨hjm,hje⟩:=List.getElem?_eq_some_iff.1 hj
     rw [List.getElem_range] at hje
     subst hje
     rw [List.length_range] at hjm
     rw [Nat.zero_add]
     have c1:I.count (j:Int)≤I.length:=List.count_le_length
     have c2:O.count (j:Int)≤O.length:=List.count_le_length
     have c3:lE E edI j≤jD E edI:=List.count_le_length
     have c4:lE E edO j≤jD E edO:=List.count_le_length
     refine bnd (cE _ hjm) (bnd (cE _ hjm) (bnd (jB (by omega) (by omega)) (stp ?_)))
     have hiff:(j:Int)∈mD ((m:Int),E,I,O)↔¬(((I.count (j:Int)+lE E edO j:Nat):Int)+((O.count (j:Int)+lE E edI j:Nat):Int)=0):=by
      rw [DY_]
      dsimp only
      have z1:I.count (j:Int)=0↔¬(j:Int)∈I:=List.count_eq_zero
      have z2:O.count (j:Int)=0↔¬(j:Int)∈O:=List.count_eq_zero
      have z3:=lW (E:=E) (s:=edI) (k:=j)
      have z4:=lW (E:=E) (s:=edO) (k:=j)
      constructor
      ·
       intro h h0
       have y1:=z1.1 (by omega);have y2:=z2.1 (by omega);have y3:=z3.1 (by omega);have y4:=z4.1 (by omega)
       rcases h with h | h | ⟨e,he,h | h⟩
       · exact y1 h
       · exact y2 h
       · exact y3 ⟨e,he,h⟩
       · exact y4 ⟨e,he,h⟩
      ·
       intro h
       refine Decidable.byContradiction fun hc=>h ?_
       simp only [not_or] at hc
       have y1:=z1.2 hc.1;have y2:=z2.2 hc.2.1
       have y3:=z3.2 (fun ⟨e,he,hk⟩=>hc.2.2 ⟨e,he,.inl hk⟩)
       have y4:=z4.2 (fun ⟨e,he,hk⟩=>hc.2.2 ⟨e,he,.inr hk⟩)
       omega
     by_cases hk:(j:Int)∈mD ((m:Int),E,I,O)
     · rw [dT hk,dF (hiff.1 hk)];rfl
     · rw [dF hk,dT (Decidable.byContradiction fun hc=>hk (hiff.2 hc))];rfl
    ·
     rw [Int.toNat_natCast]
     cases (List.range m).all fun k:Nat=>decide ((k:Int)∈mD ((m:Int),E,I,O)) <;> rfl
def cJ (n:Nat) (d:List Int):List Bool:=gB n fun k=>decide ((k:Int)∈d)
def seenN (n:Nat) (d:List Int):Nat:=(List.range n).countP fun k:Nat=>decide ((k:Int)∈d)
theorem IE_ (n:Nat) (d:List Int):seenN n d≤n:=by
 have:=List.countP_le_length (p:=fun k:Nat=>decide ((k:Int)∈d)) (l:=List.range n)
 rwa [List.length_range] at this
theorem HP_ {n m:Nat} (h:m<n) (P:Nat→Bool) (hP:P m=false):(List.range n).countP (fun k=>decide (k=m)||P k)=(List.range n).countP P+1:=by
 induction n with
 | zero=>omega
 | succ n ih=>
  rw [List.range_succ,List.countP_append,List.countP_append]
  by_cases hm:m=n
  ·
   subst hm
   have:(List.range m).countP (fun k=>decide (k=m)||P k)=(List.range m).countP P:=by
    refine List.countP_congr fun k hk=>?_
    have:¬k=m:=by have:=List.mem_range.1 hk;omega
    simp [this]
   rw [this]
   simp [hP]
  ·
   rw [ih (by omega)]
   have:¬n=m:=by omega
   simp [this];omega
theorem H4_ (n:Nat) (d:List Int) (m:Nat) (hm:m<n) (h:¬(m:Int)∈d):seenN n (d++[(m:Int)])=seenN n d+1∧(gB n fun k=>if k=m then true else decide ((k:Int)∈d))=cJ n (d++[(m:Int)]):=by
 constructor
 ·
  unfold seenN
  rw [←HP_ hm (fun k:Nat=>decide ((k:Int)∈d)) (dF h)]
  refine List.countP_congr fun k _=>?_
  simp only [List.mem_append,List.mem_singleton,decide_eq_true_eq,Bool.or_eq_true]
  constructor
  ·
   rintro (h | h)
   · exact .inr h
   · exact .inl (by omega)
  ·
   rintro (h | h)
   · exact .inr (by omega)
   · exact .inl h
 ·
  refine dE fun k _=>?_
  by_cases hk:k=m
  · rw [if_pos hk,dT];simp [hk]
  ·
   rw [if_neg hk,decide_eq_decide]
   have:¬(k:Int)=(m:Int):=by omega
   simp [this]
theorem Dn_ (n:Nat) (d:List Int) (x:Int) (h:x∈d∨rng x 0 ((n:Int)-1)=false):seenN n (d++[x])=seenN n d∧cJ n (d++[x])=cJ n d:=by
 have:∀ k,k<n→decide ((k:Int)∈d++[x])=decide ((k:Int)∈d):=fun k hk=>by
  rw [decide_eq_decide,List.mem_append,List.mem_singleton]
  constructor
  ·
   rintro (h1 | h1)
   · exact h1
   ·
    rcases h with h | h
    · rw [h1];exact h
    ·
     have:rng x 0 ((n:Int)-1)=true:=rng_true.2 (by omega)
     rw [this] at h;cases h
  · exact .inl
 exact ⟨List.countP_congr fun k hk=>by rw [this k (List.mem_range.1 hk)],dE this⟩
theorem dV {n:Nat} (hn:n≤100) (E:List Edg) (I O l d:List Int):kJ l ((n:Int),E,I,O) (wOk n d) (cJ n d) ((seenN n d:Nat):Int)=some (wOk n (d++l),cJ n (d++l),((seenN n (d++l):Nat):Int)):=by
 unfold kJ
 have:=iD (n:=l.length) (fun j=>(wOk n (d++l.take j),((seenN n (d++l.take j):Nat):Int),cJ n (d++l.take j))) (f:=fun (k10:Nat) (s199:Bool×Int×List Bool)=>
   ((idxO l ((k10:Nat):Int)).bind fun a262=>
    (subO (n:Int) 1).bind fun a264=>
    (uG a262 0 a264).bind fun y266=>
    (some (!y266)).bind fun a269=>
    cond a269
    (some (false,s199.2.1,s199.2.2))
    ((idxO s199.2.2 a262).bind fun a278=>
     (some (!a278)).bind fun a280=>
     cond a280
     ((setO s199.2.2 a262 true).bind fun a290=>
      (qA s199.2.1 1).bind fun a293=>
      some (s199.1,a293,a290))
     (some (s199.1,s199.2.1,s199.2.2)))).bind fun (s250:Bool×Int×List Bool)=>
   some (s250.1,s250.2.1,s250.2.2)) (fun j hj=>by
  have hlen:=IE_ n (d++l.take j)
  have e1:d++l.take (j+1)=(d++l.take j)++[l[j]]:=by rw [List.take_add_one,List.getElem?_eq_getElem hj];simp
  have e2:wOk n (d++l.take (j+1))=(wOk n (d++l.take j)&&rng l[j] 0 (n-1)):=by rw [e1,all_app];congr 1;unfold wOk;simp
  refine bndW (bnd (pA (List.getElem?_eq_getElem hj)) (bnd (fD (by omega) (by omega)) (bnd (within_ _ _ _) (stp rfl)))) ?_
  cases hr:rng l[j] 0 ((n:Int)-1) with
  | false=>
   have h3:=Dn_ n (d++l.take j) l[j] (.inr hr)
   rw [←e1] at h3
   rw [e2,hr,h3.1,h3.2,Bool.and_false];rfl
  | true=>
   have hx:=rng_true.1 hr
   obtain ⟨m,hme⟩:∃ m:Nat,l[j]=(m:Int):=⟨l[j].toNat,by omega⟩
   rw [e2,hr,Bool.and_true,hme]
   refine bndW (bnd (cE _ (by omega)) (stp rfl)) ?_
   by_cases hm:(m:Int)∈d++l.take j
   ·
    have h3:=Dn_ n (d++l.take j) l[j] (.inl (by rw [hme];exact hm))
    rw [←e1] at h3
    rw [dT hm,h3.1,h3.2];rfl
   ·
    have h3:=H4_ n (d++l.take j) m (by omega) hm
    rw [←hme,← e1] at h3
    rw [dF hm]
    refine bndW (bnd (jF _ _ (by omega)) (bnd (jB (by dsimp only;omega) (by dsimp only;omega)) rfl)) ?_
    rw [h3.1]
    show some _=some _
    refine congrArg some (Prod.ext rfl (Prod.ext ?_ ?_))
    · dsimp only;push_cast;rfl
    · dsimp only;rw [←h3.2])
 simp only [List.take_zero,List.append_nil,List.take_length] at this
 rw [this];rfl
theorem Ij_ {n:Nat} (hn:n≤100) (E:List Edg) (I O:List Int):sS ((n:Int),E,I,O) ((n:Int),E,I,O) true (gB n fun _=>false) 0=some (wOk n (mD ((n:Int),E,I,O)),cJ n (mD ((n:Int),E,I,O)),((seenN n (mD ((n:Int),E,I,O)):Nat):Int)):=by
 unfold sS
 have h0:(gB n fun _=>false)=cJ n []:=by unfold cJ;simp
 have h1:(0:Int)=((seenN n []:Nat):Int):=by unfold seenN;simp
 have h2:true=wOk n []:=rfl
 rw [h0,h1,h2]
 refine bnd (dV hn E I O I []) (bnd (dV hn E I O O ([]++I)) ?_)
 have:=iD (n:=E.length) (fun j=>(((seenN n ([]++I++O++((E.take j).map fun e=>edI e++edO e).flatten):Nat):Int),wOk n ([]++I++O++((E.take j).map fun e=>edI e++edO e).flatten),cJ n ([]++I++O++((E.take j).map fun e=>edI e++edO e).flatten))) (f:=fun (k21:Nat) (s74:Int×Bool×List Bool)=>
   (idxO E ((k21:Nat):Int)).bind fun a89=>
   (kJ a89.2.2.1 ((n:Int),E,I,O) s74.2.1 s74.2.2 s74.1).bind fun y101=>
   (kJ a89.2.2.2 ((n:Int),E,I,O) y101.1 y101.2.1 y101.2.2).bind fun y104=>
   some (y104.2.2,y104.1,y104.2.1)) (fun j hj=>by
  have e1:[]++I++O++((E.take (j+1)).map fun e=>edI e++edO e).flatten=[]++I++O++((E.take j).map fun e=>edI e++edO e).flatten++edI E[j]++edO E[j]:=by
   rw [List.take_add_one,List.getElem?_eq_getElem hj,List.map_append,List.flatten_append]
   simp only [Option.toList_some,List.map_cons,List.map_nil,List.flatten_cons,List.flatten_nil,List.append_nil,List.append_assoc]
  rw [e1]
  exact bnd (pA (List.getElem?_eq_getElem hj)) (bnd (dV hn E I O (edI E[j]) _) (bnd (dV hn E I O (edO E[j]) _) rfl)))
 simp only [List.take_zero,List.take_length,List.map_nil,List.flatten_nil,List.append_nil] at this
 refine bnd this ?_
 unfold mD
 simp only [List.nil_append]
theorem Ix_ {n:Int}{E:List Edg}{I O:List Int} (h:E.all arB=true):wOk n (mD (n,E,I,O))=(wOk n I&&(wOk n O&&E.all (edW n))):=by
 unfold mD
 rw [all_app,all_app,Bool.and_assoc]
 congr 2
 show wOk n (E.map fun e=>edI e++edO e).flatten=E.all (edW n)
 clear I O
 induction E with
 | nil=>rfl
 | cons e E ih=>
  simp only [List.all_cons,Bool.and_eq_true] at h
  rw [List.map_cons,List.flatten_cons,all_app,all_app,List.all_cons]
  rw [ih h.2]
  unfold edW
  rw [h.1,Bool.true_and]
theorem A5_ (g:Gra):lJ g=some (gOk g):=by
 obtain ⟨n,E,I,O⟩:=g
 unfold lJ gOk
 cases hr:rng n 0 100 with
 | false=>simp [within_,hr]
 | true=>
  have hn:=rng_true.1 hr
  by_cases hE:E.length≤60
  case neg=>
   have:(60:Int)<(E.length:Int):=by omega
   simp [within_,hr,hE,this]
  have hE':¬(60:Int)<(E.length:Int):=by omega
  by_cases hI:I.length≤12
  case neg=>
   have:(12:Int)<(I.length:Int):=by omega
   simp [within_,hr,hE,hE',hI,this]
  have hI':¬(12:Int)<(I.length:Int):=by omega
  by_cases hO:O.length≤12
  case neg=>
   have:(12:Int)<(O.length:Int):=by omega
   simp [within_,hr,hE,hE',hI,hI',hO,this]
  have hO':¬(12:Int)<(O.length:Int):=by omega
  simp only [within_,hr,dF hE',dF hI',dF hO',dT hE,dT hI,dT hO,Option.bind_some,Bool.not_true,cond_false,Bool.true_and]
  obtain ⟨m,rfl⟩:∃ m:Nat,n=(m:Int):=⟨n.toNat,by omega⟩
  refine sqW (nH arB E 0 ?_ (t:=false)) ?_
  ·
   intro j e hj
   rw [Nat.zero_add]
   refine bnd (pA hj) (bnd (isEdge_ e) (stp ?_))
   cases arB e <;> rfl
  ·
   cases hall:E.all arB with
   | false=>
    have:E.all (edW (m:Int))=false:=by
     cases h:E.all (edW (m:Int)) with
     | false=>rfl
     | true=>rw [tW h] at hall;cases hall
    rw [this]
    simp [fC]
   | true=>
    rw [if_pos rfl,zI]
    refine bnd (vJ _ (by unfold iB;omega)) (bnd (Ij_ (by omega) E I O) ?_)
    dsimp only
    rw [Ix_ hall]
    have hcov:decide (((seenN m (mD ((m:Int),E,I,O)):Nat):Int)=(m:Int))=(List.range m).all fun k:Nat=>decide ((k:Int)∈mD ((m:Int),E,I,O)):=by
     rw [Bool.eq_iff_iff,decide_eq_true_eq,List.all_eq_true]
     have:seenN m (mD ((m:Int),E,I,O))=(List.range m).length↔_:=List.countP_eq_length
     rw [List.length_range] at this
     rw [←this];omega
    rw [hcov,Int.toNat_natCast]
    cases wOk (m:Int) I <;> cases wOk (m:Int) O <;> cases E.all (edW (m:Int)) <;> rfl
end Go.Proofs.YtlggnmkelgplnaaGreatDoor
namespace Go.Proofs.YtlggnmkelgplnaaGreatDoor
theorem CY_ {σ τ:Type}{f:σ→Option (σ⊕τ)} (I:σ→Prop) (Q:τ→Prop) (μ:σ→Nat) (h:∀ s,I s→(∃ s',f s=some (.inl s')∧I s'∧μ s'<μ s)∨(∃ t,f s=some (.inr t)∧Q t)){s:σ} (hs:I s):∃ t,zB f s=some t∧Q t:=by
 have key:∀ n s,μ s≤n→I s→∃ t,zB f s=some t∧Q t:=by
  intro n
  induction n with
  | zero=>
   intro s hn hs
   rcases h s hs with ⟨s',_,_,hl⟩ | ⟨t,ht,hq⟩
   · omega
   · exact ⟨t,eF ht,hq⟩
  | succ n ih=>
   intro s hn hs
   rcases h s hs with ⟨s',h1,h2,hl⟩ | ⟨t,ht,hq⟩
   ·
    obtain ⟨t,h3,h4⟩:=ih s' (by omega) h2
    exact ⟨t,by rw [jG h1];exact h3,h4⟩
   · exact ⟨t,eF ht,hq⟩
 exact key _ s (Nat.le_refl _) hs
theorem D8_ {σ:Type}{f:Nat→σ→Option σ} (I:Nat→σ→Prop):∀ (n k:Nat) (s:σ),I k s→(∀ j s,k≤j→j<k+n→I j s→∃ s',f j s=some s'∧I (j+1) s')→∃ r,forS f n k s=some r∧I (k+n) r
 | 0,k,s,h0,_=>⟨s,rfl,h0⟩
 | n+1,k,s,h0,h=>by
  obtain ⟨s',h1,h2⟩:=h k s (Nat.le_refl _) (by omega) h0
  obtain ⟨r,h3,h4⟩:=D8_ I n (k+1) s' h2 (fun j s hj hl hi=>h j s (by omega) (by omega) hi)
  refine ⟨r,?_,by rwa [show k+1+n=k+(n+1) by omega] at h4⟩
  show (f k s).bind _=_
  rw [h1];exact h3
theorem D7_ {σ:Type}{f:Nat→σ→Option σ}{n:Nat}{s:σ} (I:Nat→σ→Prop) (h0:I 0 s) (h:∀ j s,j<n→I j s→∃ s',f j s=some s'∧I (j+1) s'):∃ r,forS f n 0 s=some r∧I n r:=by
 obtain ⟨r,h1,h2⟩:=D8_ (f:=f) I n 0 s h0 (fun j s _ hl hi=>h j s (by omega) hi)
 exact ⟨r,h1,by rwa [Nat.zero_add] at h2⟩
theorem D9_ {σ τ:Type}{f:Nat→σ→Option (σ⊕τ)} (I:Nat→σ→Prop) (Q:τ→Prop):∀ (n k:Nat) (s:σ),I k s→(∀ j s,k≤j→j<k+n→I j s→(∃ s',f j s=some (.inl s')∧I (j+1) s')∨(∃ t,f j s=some (.inr t)∧Q t))→(∃ r,nC f n k s=some (.inl r)∧I (k+n) r)∨(∃ t,nC f n k s=some (.inr t)∧Q t)
 | 0,k,s,h0,_=>.inl ⟨s,rfl,h0⟩
 | n+1,k,s,h0,h=>by
  rcases h k s (Nat.le_refl _) (by omega) h0 with ⟨s',h1,h2⟩ | ⟨t,h1,h2⟩
  ·
   rcases D9_ I Q n (k+1) s' h2 (fun j s hj hl hi=>h j s (by omega) (by omega) hi) with ⟨r,h3,h4⟩ | ⟨t,h3,h4⟩
   ·
    refine .inl ⟨r,?_,by rwa [show k+1+n=k+(n+1) by omega] at h4⟩
    show (f k s).bind _=_
    rw [h1];exact h3
   ·
    refine .inr ⟨t,?_,h4⟩
    show (f k s).bind _=_
    rw [h1];exact h3
  ·
   refine .inr ⟨t,?_,h2⟩
   show (f k s).bind _=_
   rw [h1];rfl
theorem vV {σ τ:Type}{f:Nat→σ→Option (σ⊕τ)}{n:Nat}{s:σ} (I:Nat→σ→Prop) (Q:τ→Prop) (h0:I 0 s) (h:∀ j s,j<n→I j s→(∃ s',f j s=some (.inl s')∧I (j+1) s')∨(∃ t,f j s=some (.inr t)∧Q t)):(∃ r,nC f n 0 s=some (.inl r)∧I n r)∨(∃ t,nC f n 0 s=some (.inr t)∧Q t):=by
 rcases D9_ (f:=f) I Q n 0 s h0 (fun j s _ hl hi=>h j s (by omega) hi) with ⟨r,h1,h2⟩ | h
 · exact .inl ⟨r,h1,by rwa [Nat.zero_add] at h2⟩
 · exact .inr h
def M (s:List Bool) (x:Int):Prop:=idxO s x=some true
instance (s:List Bool) (x:Int):Decidable (M s x):=by unfold M;infer_instance
def left (s:List Bool):Nat:=s.count false
inductive Rch (E:List Edg) (S:Int→Prop):Int→Prop
 | base {x:Int}:S x→Rch E S x
 | step {e:Edg} {w v:Int}:e∈E→w∈edI e→Rch E S w→v∈edO e→Rch E S v
theorem Rch.mono {E:List Edg}{S S':Int→Prop} (h:∀ x,S x→Rch E S' x){x:Int} (hx:Rch E S x):Rch E S' x:=by
 induction hx with
 | base hs=>exact h _ hs
 | step he hw _ hv ih=>exact .step he hw ih hv
theorem Rch.sub {E:List Edg}{S T:Int→Prop} (h0:∀ x,S x→T x) (h1:∀ e∈E,∀ w∈edI e,T w→∀ v∈edO e,T v){x:Int} (hx:Rch E S x):T x:=by
 induction hx with
 | base hs=>exact h0 _ hs
 | step he hw _ hv ih=>exact h1 _ he _ hw ih _ hv
def sE (n:Nat) (l:List Int):Prop:=∀ x∈l,0≤x∧x<(n:Int)
def edRg (n:Nat) (E:List Edg):Prop:=∀ e∈E,sE n (edI e)∧sE n (edO e)
end Go.Proofs.YtlggnmkelgplnaaGreatDoor
namespace Go.Proofs.YtlggnmkelgplnaaGreatDoor
theorem el_app2 (a b:List Int) (q:Nat):el (a++b) q=if q<a.length then el a q else el b (q-a.length):=by
 unfold el
 rw [List.getD_eq_getElem?_getD]
 split
 · rw [List.getElem?_append_left ‹_›,List.getD_eq_getElem?_getD]
 · rw [List.getElem?_append_right (by omega),List.getD_eq_getElem?_getD]
theorem Ba_ {a:List Int}{k q:Nat} (h:q<k):el (a.take k) q=el a q:=by
 unfold el
 rw [List.getD_eq_getElem?_getD,List.getD_eq_getElem?_getD,List.getElem?_take,if_pos h]
theorem el_drop2 (a:List Int) (k q:Nat):el (a.drop k) q=el a (k+q):=by
 unfold el
 rw [List.getD_eq_getElem?_getD,List.getD_eq_getElem?_getD,List.getElem?_drop]
theorem ER_ {z:List Int}{i j:Nat}{v:Int} (h:i<z.length):el (z.set i v) j=if i=j then v else el z j:=by
 unfold el
 rw [List.getD_eq_getElem?_getD,List.getD_eq_getElem?_getD,List.getElem?_set]
 by_cases e:i=j
 · subst e;simp [h]
 · rw [if_neg e,if_neg e]
theorem C6_ {row:List Int}{W:Nat} (pos:Nat→Nat) (hinj:∀ i j,i<row.length→j<row.length→pos i=pos j→i=j) (hlt:∀ j,j<row.length→pos j<W){f:Nat→List Int→Option (List Int)}
  (hf:∀ j s,j<row.length→s.length=W→f j s=some (s.set (pos j) (el row j))):∃ r,forS f row.length 0 (List.replicate W 0)=some r∧r.length=W∧(∀ j,j<row.length→el r (pos j)=el row j)∧∀ q,(∀ j,j<row.length→pos j≠q)→el r q=0:=
 D7_ (fun k s=>s.length=W∧(∀ j,j<k→el s (pos j)=el row j)∧∀ q,(∀ j,j<k→pos j≠q)→el s q=0) ⟨by simp,fun j hj=>by omega,fun q _=>el_rep W q⟩ (fun j s hj ⟨h1,h2,h3⟩=>by
  have hp:=hlt j hj
  refine ⟨_,hf j s hj h1,by simpa using h1,fun i hi=>?_,fun q hq=>?_⟩
  ·
   rw [ER_ (by omega)]
   by_cases hij:i=j
   · subst hij;rw [if_pos rfl]
   ·
    rw [if_neg (fun e=>hij (hinj j i hj (by omega) e).symm)]
    exact h2 i (by omega)
  ·
   rw [ER_ (by omega),if_neg (hq j (by omega))]
   exact h3 q (fun i hi=>hq i (by omega)))
def mI (l1 l2 r2:Nat) (row:List Int):List Int:=row.take l1++(List.replicate l2 0++(row.drop l1++List.replicate r2 0))
def kK (l1 l2 r1:Nat) (row:List Int):List Int:=List.replicate l1 0++(row.take l2++(List.replicate r1 0++row.drop l2))
def tenP (l1 r1 l2 r2:Nat) (A B:Rows):Rows:=A.map (mI l1 l2 r2)++B.map (kK l1 l2 r1)
def tenR (p:Int) (l1 r1 l2 r2:Nat) (A B:Rows):Rows:=eC p (l1+l2+(r1+r2)) (tenP l1 r1 l2 r2 A B)
theorem Ev_ {p:Int}{l1 r1 l2 r2:Nat}{row:List Int} (hp:2≤p) (h:okR p (l1+r1) row):okR p (l1+l2+(r1+r2)) (mI l1 l2 r2 row):=by
 obtain ⟨h1,h2⟩:=h
 refine ⟨by simp [mI];omega,fun x hx=>?_⟩
 have z:(0:Int)≤0∧(0:Int)<p:=⟨by omega,by omega⟩
 rcases List.mem_append.1 hx with hx | hx
 · exact h2 x (List.mem_of_mem_take hx)
 ·
  rcases List.mem_append.1 hx with hx | hx
  · rw [List.eq_of_mem_replicate hx];exact z
  ·
   rcases List.mem_append.1 hx with hx | hx
   · exact h2 x (List.mem_of_mem_drop hx)
   · rw [List.eq_of_mem_replicate hx];exact z
theorem Eu_ {p:Int}{l1 r1 l2 r2:Nat}{row:List Int} (hp:2≤p) (h:okR p (l2+r2) row):okR p (l1+l2+(r1+r2)) (kK l1 l2 r1 row):=by
 obtain ⟨h1,h2⟩:=h
 refine ⟨by simp [kK];omega,fun x hx=>?_⟩
 have z:(0:Int)≤0∧(0:Int)<p:=⟨by omega,by omega⟩
 rcases List.mem_append.1 hx with hx | hx
 · rw [List.eq_of_mem_replicate hx];exact z
 ·
  rcases List.mem_append.1 hx with hx | hx
  · exact h2 x (List.mem_of_mem_take hx)
  ·
   rcases List.mem_append.1 hx with hx | hx
   · rw [List.eq_of_mem_replicate hx];exact z
   · exact h2 x (List.mem_of_mem_drop hx)
theorem Be_ {p:Int}{l1 r1 l2 r2:Nat}{A B:Rows} (hp:2≤p) (hA:okM p (l1+r1) A) (hB:okM p (l2+r2) B):okM p (l1+l2+(r1+r2)) (tenP l1 r1 l2 r2 A B):=by
 intro x hx
 rcases List.mem_append.1 hx with hx | hx
 ·
  obtain ⟨y,hy,rfl⟩:=List.mem_map.1 hx
  exact Ev_ hp (hA y hy)
 ·
  obtain ⟨y,hy,rfl⟩:=List.mem_map.1 hx
  exact Eu_ hp (hB y hy)
theorem tensor_ {p:Int}{l1 r1 l2 r2:Nat}{A B:Rows} (hf:fdB p=true) (hl:l1≤100) (hr:r1≤100) (hl2:l2≤100) (hr2:r2≤100) (hA:okM p (l1+r1) A) (hB:okM p (l2+r2) B) (lA:A.length≤1000) (lB:B.length≤1000) :
  fQ p ((l1:Int),(r1:Int),A) ((l2:Int),(r2:Int),B)=some (((l1+l2:Nat):Int),((r1+r2:Nat):Int),tenR p l1 r1 l2 r2 A B):=by
 have hmx:iB=1099511627776:=rfl
 have hp:=dC hf
 have e1:aY ((l1:Int),(r1:Int),A) ((l1:Int),(r1:Int),A) ((l2:Int),(r2:Int),B)=some (A.map (mI l1 l2 r2)):=by
  refine bnd (yE (mI l1 l2 r2) A [] (by simp;omega) (fun j x s hj hs=>?_)) rfl
  have hx:=(hA x (aD hj)).1
  have hjl:=(List.getElem?_eq_some_iff.1 hj).1
  have hjo:=xR (l:=[x.take l1,List.replicate l2 0,x.drop l1,List.replicate r2 0]) (by simp;omega)
  refine bnd (pA hj) (bnd (bnd (first_ (l:=l1) rfl (by omega)) (bnd (cK (by omega)) (bnd (iO (l:=l1) rfl (by omega)) (bnd (cK (by omega)) (bnd hjo rfl))))) (bnd (vB (by simp at hs ⊢;omega)) ?_))
  simp [mI]
 have e2:zX ((l2:Int),(r2:Int),B) ((l1:Int),(r1:Int),A) ((l2:Int),(r2:Int),B)=some (B.map (kK l1 l2 r1)):=by
  refine bnd (yE (kK l1 l2 r1) B [] (by simp;omega) (fun j x s hj hs=>?_)) rfl
  have hx:=(hB x (aD hj)).1
  have hjl:=(List.getElem?_eq_some_iff.1 hj).1
  have hjo:=xR (l:=[List.replicate l1 0,x.take l2,List.replicate r1 0,x.drop l2]) (by simp;omega)
  refine bnd (pA hj) (bnd (bnd (cK (by omega)) (bnd (first_ (l:=l2) rfl (by omega)) (bnd (cK (by omega)) (bnd (iO (l:=l2) rfl (by omega)) (bnd hjo rfl))))) (bnd (vB (by simp at hs ⊢;omega)) ?_))
  simp [kK]
 have hred:=lV hf (Nat.le_refl (l1+l2+(r1+r2))) (by omega) (Be_ hp.1 hA hB) (by simp [tenP];omega)
 refine bnd e1 (bnd e2 (bnd (vB (by simp;omega)) (bnd (a:=((l1+l2:Nat):Int)) (by rw [jB (by dsimp only;omega) (by dsimp only;omega)];congr 1) (bnd (a:=((r1+r2:Nat):Int)) (by rw [jB (by dsimp only;omega) (by dsimp only;omega)];congr 1) (bnd (bnd (a:=((l1+l2+(r1+r2):Nat):Int)) (by rw [jB (by omega) (by omega)];congr 1) (bnd hred rfl)) rfl)))))
theorem H7_ {p:Int}{l1 r1 l2 r2:Nat}{A B:Rows} (hf:fdB p=true) (hl:l1≤100) (hr:r1≤100) (hl2:l2≤100) (hr2:r2≤100) (hA:okM p (l1+r1) A) (hB:okM p (l2+r2) B) (lA:A.length≤1000) (lB:B.length≤1000) :
  rP p ((l1:Int),(r1:Int),A) ((l2:Int),(r2:Int),B)=some (((l1+l2:Nat):Int),((r1+r2:Nat):Int),tenR p l1 r1 l2 r2 A B):=by
 have hmx:iB=1099511627776:=rfl
 have hp:=dC hf
 have n1:qA ((l1+l2:Nat):Int) ((r1+r2:Nat):Int)=some ((l1+l2+(r1+r2):Nat):Int):=by rw [jB (by omega) (by omega)];congr 1
 have hred:=yQ hf (Nat.le_refl (l1+l2+(r1+r2))) (by omega) (Be_ hp.1 hA hB) (by simp [tenP];omega)
 refine bnd (a:=((l1+l2:Nat):Int)) (by rw [jB (by dsimp only;omega) (by dsimp only;omega)];congr 1) (bnd (a:=((r1+r2:Nat):Int)) (by rw [jB (by dsimp only;omega) (by dsimp only;omega)];congr 1) (bnd (a:=A.map (mI l1 l2 r2)) ?_ (bnd (a:=tenP l1 r1 l2 r2 A B) ?_ (bnd (bnd n1 (bnd hred rfl)) rfl))))
 ·
  refine (yE (mI l1 l2 r2) A [] (by simp;omega) (fun j x s hj hs=>?_)).trans (by simp)
  have hx:=(hA x (aD hj)).1
  have hjl:=(List.getElem?_eq_some_iff.1 hj).1
  refine bnd (pA hj) (bnd n1 (bnd (vI _ (by omega)) (bnd (a:=mI l1 l2 r2 x) ?_ (bnd (vB (by simp at hs ⊢;omega)) rfl))))
  obtain ⟨r,q1,q2,q3,q4⟩:=C6_ (row:=x) (W:=l1+l2+(r1+r2)) (fun j=>if j<l1 then j else l1+l2+(j-l1)) (fun i j hi hj h=>by
   skip
   split at h <;> split at h <;> omega) (fun j hj=>by split <;> omega) (f:=fun (k342:Nat) (s415:List Int)=>
     (idxO x ((k342:Nat):Int)).bind fun a430=>
     (some (decide (((k342:Nat):Int)<(l1:Int)))).bind fun a432=>
     cond a432
     ((setO s415 ((k342:Nat):Int) a430).bind fun a455=>
      some a455)
     ((qA ((l1+l2:Nat):Int) ((k342:Nat):Int)).bind fun a435=>
      (subO a435 (l1:Int)).bind fun a437=>
      (setO s415 a437 a430).bind fun a445=>
      some a445)) (fun i t hi ht=>by
    refine bnd (yD hi) ?_
    by_cases h:i<l1
    ·
     rw [if_pos h]
     exact stp (cTW (dT (by omega)) (bnd (gD _ (by omega)) rfl))
    ·
     rw [if_neg h]
     refine stp (cFW (dF (by omega)) (bnd (jB (by omega) (by omega)) (bnd (a:=((l1+l2+(i-l1):Nat):Int)) (by rw [fD (by omega) (by omega)];congr 1;omega) (bnd (gD _ (by omega)) rfl))))
   )
  refine q1.trans (congrArg some ?_)
  refine tO (by rw [q2,(Ev_ (p:=p) (r1:=r1) hp.1 (hA x (aD hj))).1]) (fun q hq=>?_)
  rw [q2] at hq
  unfold mI
  have ltk:(x.take l1).length=l1:=by simp;omega
  have ldr:(x.drop l1).length=r1:=by simp;omega
  rw [el_app2,ltk]
  by_cases c1:q<l1
  ·
   rw [if_pos c1,Ba_ c1]
   have:=q3 q (by omega)
   skip
   rwa [if_pos c1] at this
  ·
   rw [if_neg c1,el_app2,List.length_replicate]
   by_cases c2:q-l1<l2
   ·
    rw [if_pos c2,el_rep]
    exact q4 q (fun j hj=>by split <;> omega)
   ·
    rw [if_neg c2,el_app2,ldr]
    by_cases c3:q-l1-l2<r1
    ·
     rw [if_pos c3,el_drop2]
     have:=q3 (q-l2) (by omega)
     skip
     rw [if_neg (by omega),show l1+l2+(q-l2-l1)=q by omega] at this
     rw [this];congr 1;omega
    ·
     rw [if_neg c3,el_rep]
     exact q4 q (fun j hj=>by split <;> omega)
 ·
  refine (yE (kK l1 l2 r1) B (A.map (mI l1 l2 r2)) (by simp;omega) (fun j x s hj hs=>?_)).trans rfl
  have hx:=(hB x (aD hj)).1
  have hjl:=(List.getElem?_eq_some_iff.1 hj).1
  refine bnd (pA hj) (bnd n1 (bnd (vI _ (by omega)) (bnd (a:=kK l1 l2 r1 x) ?_ (bnd (vB (by simp at hs ⊢;omega)) rfl))))
  obtain ⟨r,q1,q2,q3,q4⟩:=C6_ (row:=x) (W:=l1+l2+(r1+r2)) (fun j=>if j<l2 then l1+j else l1+l2+r1+(j-l2)) (fun i j hi hj h=>by
   skip
   split at h <;> split at h <;> omega) (fun j hj=>by split <;> omega) (f:=fun (k822:Nat) (s903:List Int)=>
     (idxO x ((k822:Nat):Int)).bind fun a918=>
     (some (decide (((k822:Nat):Int)<(l2:Int)))).bind fun a920=>
     cond a920
     ((qA (l1:Int) ((k822:Nat):Int)).bind fun a939=>
      (setO s903 a939 a918).bind fun a947=>
      some a947)
     ((qA ((l1+l2:Nat):Int) (r1:Int)).bind fun a923=>
      (qA a923 ((k822:Nat):Int)).bind fun a925=>
      (subO a925 (l2:Int)).bind fun a927=>
      (setO s903 a927 a918).bind fun a935=>
      some a935)) (fun i t hi ht=>by
    refine bnd (yD hi) ?_
    by_cases h:i<l2
    ·
     rw [if_pos h]
     exact stp (cTW (dT (by omega)) (bnd (a:=((l1+i:Nat):Int)) (by rw [jB (by omega) (by omega)];congr 1) (bnd (gD _ (by omega)) rfl)))
    ·
     rw [if_neg h]
     refine stp (cFW (dF (by omega)) (bnd (jB (by omega) (by omega)) (bnd (jB (by omega) (by omega)) (bnd (a:=((l1+l2+r1+(i-l2):Nat):Int)) (by rw [fD (by omega) (by omega)];congr 1;omega) (bnd (gD _ (by omega)) rfl)))))
   )
  refine q1.trans (congrArg some ?_)
  refine tO (by rw [q2,(Eu_ (p:=p) (r2:=r2) hp.1 (hB x (aD hj))).1]) (fun q hq=>?_)
  rw [q2] at hq
  unfold kK
  have ltk:(x.take l2).length=l2:=by simp;omega
  have ldr:(x.drop l2).length=r2:=by simp;omega
  rw [el_app2,List.length_replicate]
  by_cases c1:q<l1
  ·
   rw [if_pos c1,el_rep]
   exact q4 q (fun j hj=>by split <;> omega)
  ·
   rw [if_neg c1,el_app2,ltk]
   by_cases c2:q-l1<l2
   ·
    rw [if_pos c2,Ba_ c2]
    have:=q3 (q-l1) (by omega)
    skip
    rwa [if_pos c2,show l1+(q-l1)=q by omega] at this
   ·
    rw [if_neg c2,el_app2,List.length_replicate]
    by_cases c3:q-l1-l2<r1
    ·
     rw [if_pos c3,el_rep]
     exact q4 q (fun j hj=>by split <;> omega)
    ·
     rw [if_neg c3,el_drop2]
     have:=q3 (q-l1-r1) (by omega)
     skip
     rw [if_neg (by omega),show l1+l2+r1+(q-l1-r1-l2)=q by omega] at this
     rw [this];congr 1;omega
end Go.Proofs.YtlggnmkelgplnaaGreatDoor
namespace Go.Proofs.YtlggnmkelgplnaaGreatDoor
set_option linter.unusedVariables false
theorem Fd_ {α:Type} (f:α→Nat) (l:List α):tot (fun x=>8*(1+f x)) l=8*(l.length+tot f l):=by
 induction l with
 | nil=>rfl
 | cons a l ih=>rw [tot_cons,tot_cons,ih,List.length_cons];omega
theorem totLe2 {α:Type}{f g:α→Nat} (h:∀ a,f a≤g a) (l:List α):tot f l≤tot g l:=by
 induction l with
 | nil=>exact Nat.le_refl _
 | cons a l ih=>rw [tot_cons,tot_cons];have:=h a;omega
theorem C8_ {α:Type} (mk:α→Int→α×Int) (n M:α→Nat) (hmk:∀ a k,(mk a k).2=k+n a) (hnM:∀ a,n a≤M a){f:List α×Int×Int→Option ((List α×Int×Int)⊕(List α×Int))} (N:Nat) (B:Int)
  (hf:∀ (j:Nat) (a:α) (s:List α) (q:Int),s[j]?=some a→s.length=N→j<N→0≤q→q+M a≤B→f (s,q,(j:Int))=some (.inl (s.set j (mk a q).1,(mk a q).2,(j:Int)+1)))
  (he:∀ (s:List α) (q:Int),s.length=N→f (s,q,(N:Int))=some (.inr (s,q))):∀ (rest pre:List α) (q:Int),pre.length+rest.length=N→0≤q→q+tot M rest≤B→zB f (pre++rest,q,(pre.length:Int))=some (pre++(mkL mk rest q).1,(mkL mk rest q).2)
 | [],pre,q,hN,_,_=>by
  have h1:pre.length=N:=by simpa using hN
  have:=he pre q h1
  rw [←h1] at this
  rw [List.append_nil,eF this];simp [mkL]
 | a::rest,pre,q,hN,h0,hB=>by
  rw [tot_cons] at hB
  have hn:=hnM a
  have h1:=hf pre.length a (pre++a::rest) q (aI _ _ _) (by simpa using hN) (by simp at hN;omega) h0 (by omega)
  have ih:=C8_ mk n M hmk hnM N B hf he rest (pre++[(mk a q).1]) (mk a q).2 (by simp at hN ⊢;omega) (by rw [hmk];omega) (by rw [hmk];omega)
  rw [iW,wH pre rest (mk a q).1,← len1 pre (mk a q).1] at h1
  rw [jG h1,ih]
  simp [mkL]
end Go.Proofs.YtlggnmkelgplnaaGreatDoor
namespace Go.Proofs.YtlggnmkelgplnaaGreatDoor
structure GOk (g:Gra) (n:Nat):Prop where
 w:g.1=(n:Int)
 n100:n≤100
 e60:g.2.1.length≤60
 i12:g.2.2.1.length≤12
 o12:g.2.2.2.length≤12
 i:sE n g.2.2.1
 o:sE n g.2.2.2
 e:edRg n g.2.1
 ar:g.2.1.all arB=true
 ti:jD g.2.1 edI≤120
 to:jD g.2.1 edO≤120
 cov:∀ k:Nat,k<n→(k:Int)∈mD g
theorem AN_ {g:Gra} (h:gOk g=true):∃ n,GOk g n:=by
 unfold gOk at h
 simp only [Bool.and_eq_true,decide_eq_true_eq] at h
 obtain ⟨h1,h2,h3,h4,h5,h6,h7,h8⟩:=h
 have hr:=rng_true.1 h1
 obtain ⟨n,hn⟩:∃ n:Nat,g.1=(n:Int):=⟨g.1.toNat,by omega⟩
 rw [hn] at h5 h6 h7 h8
 have h9:=Er_ (tW h7)
 refine ⟨n,hn,by omega,h2,h3,h4,mO h5,mO h6,ES_ h7,tW h7,by omega,by omega,fun k hk=>?_⟩
 rw [Int.toNat_natCast] at h8
 exact of_decide_eq_true (List.all_eq_true.1 h8 k (List.mem_range.2 hk))
end Go.Proofs.YtlggnmkelgplnaaGreatDoor
