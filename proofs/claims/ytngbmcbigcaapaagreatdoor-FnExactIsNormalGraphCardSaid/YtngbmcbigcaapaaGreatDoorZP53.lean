/-
  Plain laws: leads, reduced lists of rows, spaces and relations that are valid, coordinates. No program in sight. No condition.
-/
import Derived.Test.YtngbmcbigcaapaaGreatDoorZP13
import Derived.Test.YtngbmcbigcaapaaGreatDoorZP94
import Derived.Test.YtngbmcbigcaapaaGreatDoorZFn
namespace Go.Proofs.YtngbmcbigcaapaaGreatDoor
def leadN:List Int→Nat
 | []=>0
 | x::xs=>if x=0 then leadN xs+1 else 0
theorem BB_:∀ r:List Int,leadN r≤r.length
 | []=>Nat.le_refl _
 | x::xs=>by
  unfold leadN;have:=BB_ xs
  split
  · simp only [List.length_cons];omega
  · omega
theorem Cz_ (x:Int) (xs:List Int):el (x::xs) 0=x:=by unfold el;simp
theorem CA_ (x:Int) (xs:List Int) (j:Nat):el (x::xs) (j+1)=el xs j:=by unfold el;simp
theorem el_out {r:List Int}{j:Nat} (h:r.length≤j):el r j=0:=by unfold el;rw [List.getD_eq_getElem?_getD,List.getElem?_eq_none h];rfl
theorem rL:∀ (r:List Int) (j:Nat),j<leadN r→el r j=0
 | [],j,h=>by simp [leadN] at h
 | x::xs,j,h=>by
  unfold leadN at h
  split at h
  ·
   rename_i h0
   cases j with
   | zero=>rw [Cz_];exact h0
   | succ j=>rw [CA_];exact rL xs j (by omega)
  · omega
theorem xR:∀ (r:List Int),leadN r<r.length→el r (leadN r)≠0
 | [],h=>by simp at h
 | x::xs,h=>by
  unfold leadN at h ⊢
  split at h
  ·
   rename_i h0
   rw [if_pos h0,CA_]
   exact xR xs (by simpa using h)
  ·
   rename_i h0
   rw [if_neg h0,Cz_];exact h0
theorem BC_ {r:List Int}{k:Nat} (hz:∀ j,j<k→el r j=0) (hk:el r k≠0):leadN r=k:=by
 rcases Nat.lt_trichotomy (leadN r) k with h | h | h
 ·
  have h1:=hz _ h
  rcases Nat.lt_or_ge (leadN r) r.length with h2 | h2
  · exact absurd h1 (xR r h2)
  ·
   have:el r k=0:=el_out (by omega)
   exact absurd this hk
 · exact h
 · exact absurd (rL r k h) hk
theorem Ca_ {r:List Int} (hr:r.length≤9223372036854775806):kQ r=some (leadN r:Int):=by
 have hle:=BB_ r
 refine bnd (sN (fun j=>(j:Int)) (t:=(leadN r:Int)) (leadN r) ?_ ?_) rfl
 ·
  intro j hj
  have hjl:j<r.length:=by omega
  refine bnd (a:=true) (stp (cTW (dT (by omega)) (bnd (iD hjl) (stp (by rw [rL r j hj];rfl))))) (cTW rfl (bnd (bC (by omega) (by omega)) rfl))
 ·
  by_cases h:leadN r<r.length
  · refine bnd (a:=false) (stp (cTW (dT (by omega)) (bnd (iD h) (stp (by rw [dF (xR r h)]))))) (cFW rfl rfl)
  · exact bnd (a:=false) (stp (cFW (dF (by omega)) rfl)) (cFW rfl rfl)
theorem yY {a b:List Int} (hl:a.length=b.length) (h:∀ j,j<a.length→el a j=el b j):a=b:=by
 apply List.ext_getElem?
 intro j
 by_cases hj:j<a.length
 · rw [fI hj,fI (by omega),h j hj]
 · rw [List.getElem?_eq_none (by omega),List.getElem?_eq_none (by omega)]
theorem CY_ {a b:Rows} (hl:a.length=b.length) (h:∀ j,j<a.length→gr a j=gr b j):a=b:=by
 apply List.ext_getElem?
 intro j
 by_cases hj:j<a.length
 · rw [iE hj,iE (by omega),h j hj]
 · rw [List.getElem?_eq_none (by omega),List.getElem?_eq_none (by omega)]
theorem rO {g:Nat→Int→Int}{r:List Int}{j:Nat} (h:j<r.length):el (yC g r) j=g j (el r j):=by
 have h1:=fI (r:=yC g r) (c:=j) (by rw [wR];exact h)
 unfold yC at h1
 rw [List.getElem?_mapIdx,fI h] at h1
 exact (Option.some.inj h1).symm
theorem dH {m:Rows}{r k i:Nat} (hr:r<m.length) (hk:k<m.length):gr (mB m r k) i=if i=k then gr m r else if i=r then gr m k else gr m i:=by
 unfold mB
 rw [eI (by rw [List.length_set];exact hk)]
 by_cases h:k=i
 · rw [if_pos h,if_pos h.symm]
 ·
  rw [if_neg h,if_neg (Ne.symm h),eI hr]
  by_cases h2:r=i
  · rw [if_pos h2,if_pos h2.symm]
  · rw [if_neg h2,if_neg (Ne.symm h2)]
theorem nO {p:Int}{c:Nat}{m a:Rows}{r k i:Nat} (hr:r<a.length):gr (eB p c m a r k) i=if i=r then yC (xF p (rD p (el (gr (mB m r k) r) c))) (gr (mB a r k) r) else gr (mB a r k) i:=by
 unfold eB bI
 rw [eI (by rw [kF];exact hr)]
 by_cases h:r=i
 · rw [if_pos h,if_pos h.symm]
 · rw [if_neg h,if_neg (Ne.symm h)]
structure RedI (c r:Nat) (m:Rows):Prop where
 le:r≤m.length
 lt:∀ i,i<r→leadN (gr m i)<c
 one:∀ i,i<r→el (gr m i) (leadN (gr m i))=1
 zero:∀ i j,i<r→j<m.length→i≠j→el (gr m j) (leadN (gr m i))=0
 inc:∀ i j,i<j→j<r→leadN (gr m i)<leadN (gr m j)
 rest:∀ i,r≤i→i<m.length→∀ q,q<c→el (gr m i) q=0
theorem RedI.start (m:Rows):RedI 0 0 m:=⟨Nat.zero_le _,fun _ h=>by omega,fun _ h=>by omega,fun _ _ h=>by omega,fun _ _ _ h=>by omega,fun _ _ _ _ h=>by omega⟩
theorem RedI.skip {c r:Nat}{m:Rows} (h:RedI c r m) (hz:∀ i,r≤i→i<m.length→el (gr m i) c=0):RedI (c+1) r m:=
 ⟨h.le,fun i hi=>by have:=h.lt i hi;omega,h.one,h.zero,h.inc,fun i h1 h2 q hq=>by
  rcases Nat.lt_or_ge q c with h3 | h3
  · exact h.rest i h1 h2 q h3
  · rw [show q=c by omega];exact hz i h1 h2⟩
theorem AH_ (m:Rows) (c:Nat):∀ (d k:Nat),∀ i,k≤i→i<scanN m c d k→el (gr m i) c=0
 | 0,k,i,h1,h2=>by simp only [scanN] at h2;omega
 | d+1,k,i,h1,h2=>by
  unfold scanN at h2
  split at h2
  ·
   rename_i h0
   rcases Nat.lt_or_ge k i with h3 | h3
   · exact AH_ m c d (k+1) i h3 h2
   · rw [show i=k by omega];exact h0
  · omega
theorem uL {p x:Int} (h:0≤x∧x<p):x % p=x:=Int.emod_eq_of_lt h.1 h.2
theorem step_el {p:Int}{c r k N:Nat}{m:Rows} (hf:fdB p=true) (h:okM p N m) (hr:r<m.length) (hk:k<m.length) (hc:c<N) (hne:el (gr m k) c≠0) :
  let s:=mB m r k
  let iv:=rD p (el (gr m k) c)
  (∀ q,q<N→el (gr (gB p c m m r k) r) q=(el (gr m k) q*iv) % p)∧(el (gr m k) c*iv) % p=1 ∧
  ∀ i,i<m.length→i≠r→∀ q,q<N→el (gr (gB p c m m r k) i) q=(el (gr s i) q-el (gr s i) c*((el (gr m k) q*iv) % p)) % p:=by
 intro s iv
 have hp:=aC hf
 have hel:=fH h hk hc
 obtain ⟨_,i1,i2,i3⟩:=gO hf (x:=el (gr m k) c) ⟨by omega,hel.2⟩
 have hsr:gr s r=gr m k:=nL hr hk
 have hsl:s.length=m.length:=kF m r k
 have hso:okM p N s:=aK h hr hk
 have hpl:(eB p c m m r k).length=m.length:=oL p c m m r k
 have hpr:gr (eB p c m m r k) r=yC (xF p iv) (gr m k):=by
  rw [nO hr,if_pos rfl]
  show yC (xF p (rD p (el (gr s r) c))) (gr s r)=_
  rw [hsr]
 have hrow:=zB h hk
 have hpe:∀ q,q<N→el (gr (eB p c m m r k) r) q=(el (gr m k) q*iv) % p:=fun q hq=>by
  rw [hpr,rO (by omega)];rfl
 have hst:∀ i,i<m.length→gr (gB p c m m r k) i=jB p c r (eB p c m m r k) (eB p c m m r k) i (gr (eB p c m m r k) i):=fun i hi=>BT_ (by rw [hpl];exact hi)
 refine ⟨fun q hq=>?_,i1,fun i hi hir q hq=>?_⟩
 ·
  rw [hst r hr]
  unfold jB
  rw [if_pos (.inl rfl)]
  exact hpe q hq
 ·
  rw [hst i hi]
  have hpi:gr (eB p c m m r k) i=gr s i:=by rw [nO hr,if_neg hir]
  have hsi:=zB hso (i:=i) (by rw [hsl];exact hi)
  have hb:=fH hso (i:=i) (by rw [hsl];exact hi) hq
  unfold jB
  by_cases h0:el (gr (eB p c m m r k) i) c=0
  ·
   rw [if_pos (.inr h0),hpi]
   rw [hpi] at h0
   rw [h0,Int.zero_mul,Int.sub_zero,uL hb]
  ·
   rw [if_neg (by intro h1;rcases h1 with h1 | h1;exact hir h1;exact h0 h1)]
   rw [rO (by rw [hpi];omega)]
   unfold cE
   rw [hpi,hpe q hq]
theorem RedI.step {p:Int}{c r N:Nat}{m:Rows} (hf:fdB p=true) (ho:okM p N m) (h:RedI c r m) (hr:r<m.length) (hc:c<N) (hk:scanN m c (m.length-r) r≠m.length) :
  RedI (c+1) (r+1) (gB p c m m r (scanN m c (m.length-r) r)):=by
 obtain ⟨s1,s2,s3⟩:=cH m c (m.length-r) r (by omega)
 have hp:=aC hf
 generalize scanN m c (m.length-r) r=k at s1 s2 s3 hk ⊢
 have hkl:k<m.length:=by omega
 have hne:=s3 hkl
 obtain ⟨e1,e2,e3⟩:=step_el hf ho hr hkl hc hne
 have hsl:(gB p c m m r k).length=m.length:=nD p c m m r k
 have hz:∀ q,q<c→(el (gr m k) q*rD p (el (gr m k) c)) % p=0:=fun q hq=>by
  rw [h.rest k (by omega) hkl q hq,Int.zero_mul];exact Int.zero_emod p
 have hswap:∀ i,i<r→gr (mB m r k) i=gr m i:=fun i hi=>by
  rw [dH hr hkl,if_neg (by omega),if_neg (by omega)]
 have hrow:∀ i,i<r→∀ q,q<c→el (gr (gB p c m m r k) i) q=el (gr m i) q:=fun i hi q hq=>by
  have hb:=fH ho (i:=i) (by omega) (c:=q) (by omega)
  rw [e3 i (by omega) (by omega) q (by omega),hswap i hi,hz q hq,Int.mul_zero,Int.sub_zero,uL hb]
 have hlead:∀ i,i<r→leadN (gr (gB p c m m r k) i)=leadN (gr m i):=fun i hi=>by
  have hl:=h.lt i hi
  refine BC_ (fun j hj=>?_) ?_
  · rw [hrow i hi j (by omega)];exact rL _ j hj
  · rw [hrow i hi _ hl,h.one i hi];omega
 have hnew:leadN (gr (gB p c m m r k) r)=c:=by
  refine BC_ (fun j hj=>?_) ?_
  · rw [e1 j (by omega)];exact hz j hj
  · rw [e1 c hc,e2];omega
 refine ⟨by omega,fun i hi=>?_,fun i hi=>?_,fun i j hi hj hij=>?_,fun i j hij hj=>?_,fun i h1 h2 q hq=>?_⟩
 ·
  rcases Nat.lt_or_ge i r with h1 | h1
  · rw [hlead i h1];have:=h.lt i h1;omega
  · rw [show i=r by omega,hnew];omega
 ·
  rcases Nat.lt_or_ge i r with h1 | h1
  · rw [hlead i h1,hrow i h1 _ (h.lt i h1)];exact h.one i h1
  · rw [show i=r by omega,hnew,e1 c hc,e2]
 ·
  rw [hsl] at hj
  rcases Nat.lt_or_ge i r with h1 | h1
  ·
   have hl:=h.lt i h1
   rw [hlead i h1]
   by_cases hjr:j=r
   · rw [hjr,e1 _ (by omega)];exact hz _ hl
   ·
    rw [e3 j hj hjr _ (by omega),hz _ hl,Int.mul_zero,Int.sub_zero]
    have hs:el (gr (mB m r k) j) (leadN (gr m i))=0:=by
     rw [dH hr hkl]
     by_cases hjk:j=k
     · rw [if_pos hjk];exact h.zero i r h1 hr (by omega)
     · rw [if_neg hjk,if_neg hjr];exact h.zero i j h1 hj hij
    rw [hs];exact Int.zero_emod p
  ·
   have hi2:i=r:=by omega
   subst hi2
   rw [hnew,e3 j hj (Ne.symm hij) c hc,e2,Int.mul_one,Int.sub_self];exact Int.zero_emod p
 ·
  rcases Nat.lt_or_ge j r with h1 | h1
  · rw [hlead i (by omega),hlead j h1];exact h.inc i j hij h1
  · rw [show j=r by omega,hnew,hlead i (by omega)];exact h.lt i (by omega)
 ·
  rw [hsl] at h2
  rw [e3 i h2 (by omega) q (by omega)]
  rcases Nat.lt_or_ge q c with h3 | h3
  ·
   rw [hz q h3,Int.mul_zero,Int.sub_zero]
   have hs:el (gr (mB m r k) i) q=0:=by
    rw [dH hr hkl]
    split
    · exact h.rest r (Nat.le_refl _) hr q h3
    ·
     split
     · exact h.rest k s1 hkl q h3
     · exact h.rest i (by omega) h2 q h3
   rw [hs];exact Int.zero_emod p
  · rw [show q=c by omega,e2,Int.mul_one,Int.sub_self];exact Int.zero_emod p
theorem kN {p:Int}{N:Nat} (hf:fdB p=true):∀ (d c:Nat) (m:Rows) (r:Nat),c+d≤N→okM p N m→RedI c r m→RedI (c+d) (lB p d c m m r).2.2 (lB p d c m m r).1
 | 0,c,m,r,_,_,h=>h
 | d+1,c,m,r,hN,ho,h=>by
  unfold lB
  by_cases hr:r<m.length
  ·
   rw [if_pos hr]
   obtain ⟨s1,s2,s3⟩:=cH m c (m.length-r) r (by omega)
   split
   ·
    rename_i hk
    have:=kN hf d (c+1) m r (by omega) ho (h.skip (fun i h1 h2=>AH_ m c (m.length-r) r i h1 (by omega)))
    rw [show c+(d+1)=c+1+d by omega];exact this
   ·
    rename_i hk
    have:=kN hf d (c+1) _ (r+1) (by omega) (uF (aC hf).1 ho hr (by omega)) (h.step hf ho hr (by omega) hk)
    rw [show c+(d+1)=c+1+d by omega];exact this
  ·
   rw [if_neg hr]
   exact (⟨h.le,fun i hi=>by have:=h.lt i hi;omega,h.one,h.zero,h.inc,fun i h1 h2=>by have:=h.le;omega⟩:RedI (c+(d+1)) r m)
structure Red (p:Int) (n:Nat) (b:Rows):Prop where
 ok:okM p n b
 lt:∀ i,i<b.length→leadN (gr b i)<n
 one:∀ i,i<b.length→el (gr b i) (leadN (gr b i))=1
 zero:∀ i j,i<b.length→j<b.length→i≠j→el (gr b j) (leadN (gr b i))=0
 inc:∀ i j,i<j→j<b.length→leadN (gr b i)<leadN (gr b j)
theorem yH {m:Rows}{k i:Nat} (h:i<k):gr (m.take k) i=gr m i:=by
 unfold gr;rw [List.getD_eq_getElem?_getD,List.getD_eq_getElem?_getD,List.getElem?_take,if_pos h]
theorem vF {p:Int}{n:Nat}{m:Rows} (hf:fdB p=true) (h:okM p n m):Red p n (eC p n m):=by
 have h1:=kN hf n 0 m 0 (by omega) h (RedI.start m)
 have h2:=(wX (n:=n) (aC hf).1 h).1
 rw [Nat.zero_add] at h1
 unfold eC at h2 ⊢
 generalize lB p n 0 m m 0=t at h1 h2
 have hl:(t.1.take t.2.2).length=t.2.2:=by rw [List.length_take];have:=h1.le;omega
 refine ⟨h2,fun i hi=>?_,fun i hi=>?_,fun i j hi hj hij=>?_,fun i j hij hj=>?_⟩
 · rw [hl] at hi;rw [yH hi];exact h1.lt i hi
 · rw [hl] at hi;rw [yH hi];exact h1.one i hi
 · rw [hl] at hi hj;rw [yH hi,yH hj];exact h1.zero i j hi (by have:=h1.le;omega) hij
 · rw [hl] at hj;rw [yH hj,yH (by omega)];exact h1.inc i j hij hj
end Go.Proofs.YtngbmcbigcaapaaGreatDoor
namespace Go.Proofs.YtngbmcbigcaapaaGreatDoor
def sg:Nat→(Nat→Int)→Int
 | 0,_=>0
 | k+1,f=>sg k f+f k
theorem zC {f g:Nat→Int}:∀ {k:Nat},(∀ i,i<k→f i=g i)→sg k f=sg k g
 | 0,_=>rfl
 | k+1,h=>by
  show sg k f+f k=sg k g+g k
  rw [zC (fun i hi=>h i (by omega)),h k (by omega)]
theorem cJ {f:Nat→Int}{k:Nat} (h:∀ i,i<k→f i=0):sg k f=0:=by
 induction k with
 | zero=>rfl
 | succ k ih=>
  show sg k f+f k=0
  rw [ih (fun i hi=>h i (by omega)),h k (by omega)];rfl
theorem rG {f:Nat→Int}{k i0:Nat} (h0:i0<k) (h:∀ i,i<k→i≠i0→f i=0):sg k f=f i0:=by
 induction k with
 | zero=>omega
 | succ k ih=>
  show sg k f+f k=f i0
  by_cases hk:k=i0
  ·
   subst hk
   rw [cJ (fun i hi=>h i (by omega) (by omega)),Int.zero_add]
  · rw [ih (by omega) (fun i hi hn=>h i (by omega) hn),h k (by omega) hk,Int.add_zero]
theorem sg_add (f g:Nat→Int):∀ k,sg k (fun i=>f i+g i)=sg k f+sg k g
 | 0=>rfl
 | k+1=>by
  show sg k (fun i=>f i+g i)+(f k+g k)=(sg k f+f k)+(sg k g+g k)
  rw [sg_add f g k];omega
theorem sg_mul (c:Int) (f:Nat→Int):∀ k,sg k (fun i=>c*f i)=c*sg k f
 | 0=>by show (0:Int)=c*0;rw [Int.mul_zero]
 | k+1=>by
  show sg k (fun i=>c*f i)+c*f k=c*(sg k f+f k)
  rw [sg_mul c f k,Int.mul_add]
theorem jS (f:Nat→Nat→Int) (n:Nat):∀ k,sg k (fun i=>sg n (fun j=>f i j))=sg n (fun j=>sg k (fun i=>f i j))
 | 0=>by
  show (0:Int)=_
  rw [cJ (k:=n) (f:=fun j=>sg 0 fun i=>f i j) (fun _ _=>rfl)]
 | k+1=>by
  show sg k (fun i=>sg n (fun j=>f i j))+sg n (fun j=>f k j)=sg n (fun j=>sg k (fun i=>f i j)+f k j)
  rw [jS f n k,sg_add]
theorem aI {p:Int}{f g:Nat→Int}:∀ {k:Nat},(∀ i,i<k→f i % p=g i % p)→sg k f % p=sg k g % p
 | 0,_=>rfl
 | k+1,h=>by
  show (sg k f+f k) % p=(sg k g+g k) % p
  rw [Int.add_emod,aI (fun i hi=>h i (by omega)),h k (by omega),← Int.add_emod]
theorem eS (p a b:Int):(a % p+b) % p=(a+b) % p:=by rw [Int.add_emod,Int.emod_emod_of_dvd _ (Int.dvd_refl p),← Int.add_emod]
theorem add_mod2 (p a b:Int):(a+b % p) % p=(a+b) % p:=by rw [Int.add_emod,Int.emod_emod_of_dvd _ (Int.dvd_refl p),← Int.add_emod]
theorem sub_mod1 (p a b:Int):(a % p-b) % p=(a-b) % p:=by rw [Int.sub_emod,Int.emod_emod_of_dvd _ (Int.dvd_refl p),← Int.sub_emod]
theorem mod_mod (p a:Int):a % p % p=a % p:=Int.emod_emod_of_dvd _ (Int.dvd_refl p)
theorem eK (p a b:Int):(a % p*b) % p=(a*b) % p:=by rw [Int.mul_emod,mod_mod,← Int.mul_emod]
theorem mul_mod2 (p a b:Int):(a*(b % p)) % p=(a*b) % p:=by rw [Int.mul_emod,mod_mod,← Int.mul_emod]
theorem Cm_ (x:List Int) (xs:Rows):gr (x::xs) 0=x:=by unfold gr;simp
theorem gY (x:List Int) (xs:Rows) (j:Nat):gr (x::xs) (j+1)=gr xs j:=by unfold gr;simp
theorem C2_ (n j:Nat):el (List.replicate n 0) j=0:=by
 unfold el;rw [List.getD_eq_getElem?_getD,List.getElem?_replicate];split <;> rfl
abbrev Rel:=Int×Int×Rows
structure RlOk (p:Int) (l r:Nat) (R:Rel):Prop where
 hf:fdB p=true
 left:R.1=(l:Int)
 right:R.2.1=(r:Int)
 n24:l+r≤24
 red:Red p (l+r) R.2.2
 len:R.2.2.length≤l+r
end Go.Proofs.YtngbmcbigcaapaaGreatDoor
namespace Go.Proofs.YtngbmcbigcaapaaGreatDoor
end Go.Proofs.YtngbmcbigcaapaaGreatDoor
namespace Go.Proofs.YtngbmcbigcaapaaGreatDoor
set_option linter.unusedVariables false
theorem CV_ {p a:Int} (hp:2≤p∧p≤97) (ha:0≤a∧a<p):vQ p a=some ((p-a) % p):=by
 refine bnd (gE (by omega) (by omega)) (bnd (nG (by omega)) ?_)
 rw [Int.tmod_eq_emod_of_nonneg (by omega)]
def sG (n i:Nat):List Int:=(List.replicate n 0).set i 1
def idN (n:Nat):Rows:=(List.range n).map (sG n)
theorem Bi_ {p:Int} (hp:2≤p) (n i:Nat):okR p n (sG n i):=by
 refine ⟨by simp [sG],fun x hx=>?_⟩
 rcases List.mem_or_eq_of_mem_set hx with h | rfl
 · have:=List.eq_of_mem_replicate h;omega
 · omega
theorem tL (n:Nat):(idN n).length=n:=by simp [idN]
theorem bP {p:Int} (hp:2≤p) (n:Nat):okM p n (idN n):=by
 intro x hx
 obtain ⟨i,hi,rfl⟩:=List.mem_map.1 hx
 exact Bi_ hp n i
theorem unit_ {n i:Nat} (hi:i<n) (hn:n≤aB):mN (n:Int) (i:Int)=some (sG n i):=
 bnd (wL hn) (bnd (nC _ (by simpa using hi)) rfl)
theorem Gf_ (n k:Nat):(List.range (k+1)).map (sG n)=(List.range k).map (sG n)++[sG n k]:=by simp [List.range_succ]
theorem EA_ {n:Nat} (hn:n≤1048576):tU (n:Int)=some (idN n):=by
 have hm:aB=1099511627776:=rfl
 refine bnd (rK ⟨by omega,by omega⟩) ?_
 rw [Int.toNat_natCast]
 refine bnd (kC (fun k=>(List.range k).map (sG n)) ?_) rfl
 intro k hk
 exact bnd (unit_ hk (by omega)) (bnd (yB (by simp;omega)) (by rw [Gf_]))
def kB (p:Int) (n:Nat) (m:Rows):Rows×Rows×Nat:=lB p n 0 m (idN m.length) 0
theorem oN {p:Int}{n:Nat}{m:Rows} (hf:fdB p=true) (h:okM p n m):(kB p n m).2.2≤m.length∧(kB p n m).1.length=m.length∧(kB p n m).2.1.length=m.length∧okM p m.length (kB p n m).2.1∧okM p n (kB p n m).1∧Red p n ((kB p n m).1.take (kB p n m).2.2):=by
 have hp:=aC hf
 obtain ⟨k1,k2,k3,k4,k5,k6,k7⟩:=kL hp.1 n 0 m (idN m.length) 0 h (bP hp.1 m.length) (tL _) (by omega)
 have e:(kB p n m).1.take (kB p n m).2.2=eC p n m:=by
  obtain ⟨e1,e2⟩:=lN p n 0 m (idN m.length) m 0
  unfold kB eC;rw [e1,e2]
 exact ⟨k6,k3,k4,k2,k1,by rw [e];exact vF hf h⟩
end Go.Proofs.YtngbmcbigcaapaaGreatDoor
namespace Go.Proofs.YtngbmcbigcaapaaGreatDoor
set_option linter.unusedVariables false
theorem CC_:∀ (l:Nat),Dw [] (ug l).reverse [] (ug l).reverse l (ug l) [] 0 [] l
 | 0=>⟨fun x=>by unfold inN;rw [if_neg (by omega)];rfl,fun x=>by unfold inN;rw [if_neg (by omega)];rfl,trivial,fun x=>by unfold inN;rw [if_neg (by omega)];rfl,fun x=>by unfold inN;rw [if_neg (by omega)];rfl,fun S _ _ _ x h0 h1=>by omega,Nat.le_refl _,Nat.le_refl _,Nat.le_refl _⟩
 | l+1=>by
  have h:=(CC_ l).wireS
  unfold ug at h ⊢
  rw [List.range_succ,List.map_append,List.reverse_append]
  exact h
theorem A9_ {U D:List Int}{n:Nat}{I:List Int}{E:List Edg}{B:Nat} (h:Dw [] U [] D n I E 0 [] B):∀ k,Dw [] U (ug k).reverse D n I E k [] (B+k)
 | 0=>h
 | k+1=>by
  have h:=(A9_ h k).wireI
  unfold ug at h ⊢
  rw [List.range_succ,List.map_append,List.reverse_append]
  exact h
theorem B2_ {k n:Nat} (h:k<n):(ug n).drop k=(k:Int)::(ug n).drop (k+1):=by
 have hl:k<(ug n).length:=by rw [mK];exact h
 rw [List.drop_eq_getElem_cons hl]
 congr 1
 simp [ug]
theorem uO {k n:Nat} (h:k<n):(ug n)[k]?=some (k:Int):=by
 unfold ug
 rw [List.getElem?_map,List.getElem?_range h];rfl
theorem Er_ {p:Int}{l r:Nat}{R:Rel} (hR:RlOk p l r R) (hl:l≤12) (hr:r≤12):∃ G,fV R=some G∧pU R=some G∧nGraph G.1≤1048576:=by
 obtain ⟨R1,R2,rows⟩:=R
 obtain ⟨hf,h1,h2,h24,hred,hlen⟩:=hR
 dsimp only at h1 h2 hred hlen
 subst h1 h2
 have hm:aB=1099511627776:=rfl
 have hrl:∀ row∈rows,row.length=l+r:=fun row hr=>(hred.ok row hr).1
 have d0:Dw [] (ug l) (ug rows.length) (ug l) l (ug l) [] rows.length [] 100:=by
  have h:=A9_ (CC_ l) rows.length
  refine ⟨fun x=>?_,fun x=>?_,h.ed,h.og,fun x=>?_,fun S k1 k2 k3=>h.co S k1 (fun x hx=>k2 x (List.mem_reverse.1 hx)) k3,by omega,by omega,by simp⟩
  · have:=h.pa x;rwa [List.count_reverse] at this
  · have:=h.pb x;rwa [List.count_reverse] at this
  · have:=h.en x;rwa [List.count_reverse] at this
 obtain ⟨s,t,s1,s2,P1,n1,E1,E1',ins,rfl,rfl,s3,s4,s5⟩:=zJ (f:=fun (k17:Nat) (s66:Int×(List (Int×Int×List Int×List Int))×List Int)=>
   (xE (s66.1,s66.2.1,ug l,[])).bind fun y79=>
   (rE (y79.1.1,s66.2.1,ug l,[]) 10 0 [] [y79.2]).bind fun y86=>
   (xA s66.2.2 [y79.2]).bind fun a94=>
   some (y86.1,y86.2.1,a94))
  (g:=fun (k37:Nat) (s78:Int×(List (Int×Int×List Int×List Int)))=>
    (idxO (ug rows.length) ((k37:Nat):Int)).bind fun a95=>
    (qE (s78.1,s78.2,[],[]) 10 0 [] [a95]).bind fun y101=>
    some (y101.1,y101.2.1))
  (fun j s t=>∃ P1 n1 E1 E1' ins,s=(((n1:Nat):Int),E1,ins)∧t=(((rows.length:Nat):Int),E1')∧LsR P1 ins ((ug rows.length).take j)∧ins.length=j∧Dw P1 (ug l) ((ug rows.length).drop j) (ins++ug l) n1 (ug l) E1 rows.length E1' (100+j)) rows.length 0 (((l:Nat):Int),[],[]) (((rows.length:Nat):Int),[])
  ⟨[],l,[],[],[],rfl,rfl,trivial,rfl,d0⟩ (by
   rintro j s t _ hj ⟨P1,n1,E1,E1',ins,rfl,rfl,hi,hil,hd⟩
   rw [Nat.zero_add] at hj
   have b1:=hd.b1;have b2:=hd.b2;have b3:=hd.b3;have el:=hd.ed.len
   rw [B2_ hj] at hd
   have hd2:=Dw.edge1 (ins:=[]) (ins':=[]) 10 0 (D:=ins++ug l) hd trivial
   refine ⟨_,_,bnd (dJ (by omega)) (bnd (gJ (by dsimp only;omega) _ _ _ _) (bnd (yB (by simp;omega)) rfl)),bnd (pA (uO hj)) (bnd (iJ (by dsimp only;omega) _ _ _ _) rfl),_,n1+1,_,_,ins++[(n1:Int)],rfl,rfl,?_,by simp [hil],(hd2.perm fun x=>?_).up (by omega)⟩
   ·
    rw [List.take_add_one,uO hj]
    exact (hi.mono fun p hp=>List.mem_append_left _ hp).app (m:=[(n1:Int)]) (m':=[(j:Int)]) ⟨by simp,trivial⟩
   ·
    rw [cntC]
    simp only [List.count_append,cnt1];omega)
 rw [Nat.zero_add] at s3 s4 s5
 have s3:LsR P1 ins (ug rows.length):=by
  have:=s3
  rwa [List.take_of_length_le (by rw [mK];exact Nat.le_refl _)] at this
 have s5:Dw P1 (ug l) [] (ins++ug l) n1 (ug l) E1 rows.length E1' (100+rows.length):=by
  have:=s5
  rwa [show (ug rows.length).drop rows.length=[] from List.drop_of_length_le (by rw [mK];exact Nat.le_refl _)] at this
 obtain ⟨P2,n2,E2,n2',E2',out,out',m1,m2,m3,m4,m5,m6⟩:=E6_ (ug l) [] [] [] hrl h24 (by omega) s5 s3 s4 (fun i row w hrow _ hz=>by
  obtain ⟨q1,q2⟩:=List.getElem?_eq_some_iff.1 hrow
  have k1:=hred.lt i q1
  have k2:=hred.one i q1
  have hgr:gr rows i=row:=by unfold gr;rw [List.getD_eq_getElem?_getD,hrow];rfl
  rw [hgr] at k1 k2
  have hll:=hrl row (List.mem_of_getElem? hrow)
  have:=Cf_ row row.length (Nat.le_refl _) hz (leadN row) (by omega) (by omega)
  have e:el row (leadN row)=row[leadN row]'(by omega):=by
   unfold el;rw [List.getD_eq_getElem?_getD,List.getElem?_eq_getElem (by omega)];rfl
  rw [e,this] at k2
  cases k2) (by omega)
 have hsz:uA (l:Int) (r:Int)=some ((l+r:Nat):Int):=by rw [bC (by omega) (by omega)];rfl
 have hout:out'.length=l+r:=m4.len.symm.trans m5
 obtain ⟨s,t,t1,t2,P3,n3,E3,n3',E3',I3,rfl,rfl,t3,t4,t5,t6⟩:=zJ (f:=fun (k114:Nat) (s198:Int×(List (Int×Int×List Int×List Int)))=>
   (idxO (ug l) ((k114:Nat):Int)).bind fun a214=>
   (xE (s198.1,s198.2,ug l,[])).bind fun y216=>
   (idxO out ((k114:Nat):Int)).bind fun a225=>
   (rE (y216.1.1,s198.2,ug l,[]) 9 0 [a214,a225] [y216.2]).bind fun y233=>
   (rE (y233.1,y233.2.1,ug l,[]) 4 0 [y216.2] []).bind fun y242=>
   some (y242.1,y242.2.1))
  (g:=fun (k126:Nat) (s220:Int×(List (Int×Int×List Int×List Int))×List Int)=>
    (idxO (out'.take l) ((k126:Nat):Int)).bind fun a238=>
    (dG (s220.1,s220.2.1,s220.2.2,[])).bind fun y240=>
    (dG (y240.1.1,s220.2.1,s220.2.2,[])).bind fun y243=>
    (xA s220.2.2 [y240.2]).bind fun a249=>
    (qE (y243.1.1,s220.2.1,a249,[]) 9 0 [y240.2,a238] [y243.2]).bind fun y261=>
    (qE (y261.1,y261.2.1,a249,[]) 4 0 [y243.2] []).bind fun y270=>
    some (y270.1,y270.2.1,a249))
  (fun j s t=>∃ P3 n3 E3 n3' E3' I3,s=(((n3:Nat):Int),E3)∧t=(((n3':Nat):Int),E3',I3)∧(∀ p∈P2,p∈P3)∧LsR P3 ((ug l).take j) I3∧I3.length=j∧Dw P3 ((ug l).drop j) [] (out.drop j++(ug l).drop j) n3 (ug l) E3 n3' E3' (20000+2*j)) l 0 (((n2:Nat):Int),E2) (((n2':Nat):Int),E2',[])
  ⟨P2,n2,E2,n2',E2',[],rfl,rfl,fun p hp=>hp,trivial,rfl,m6⟩ (by
   rintro j s t _ hj ⟨P3,n3,E3,n3',E3',I3,rfl,rfl,hP,hi,hil,hd⟩
   rw [Nat.zero_add] at hj
   have b1:=hd.b1;have b2:=hd.b2;have b3:=hd.b3;have el:=hd.ed.len
   obtain ⟨x,y,hx,hy,hxy⟩:=(m4.mono hP).get (i:=j) (by omega)
   have hxr:out.drop j=x::out.drop (j+1):=by
    obtain ⟨q1,q2⟩:=List.getElem?_eq_some_iff.1 hx
    rw [List.drop_eq_getElem_cons q1,q2]
   have hy':(out'.take l)[j]?=some y:=by rw [List.getElem?_take,if_pos hj];exact hy
   rw [B2_ hj,hxr] at hd
   have hd1:=hd.wireI.pair.wireI
   have hd2:=hd1.perm (D1:=[(j:Int),x]++(out.drop (j+1)++(ug l).drop (j+1))) (fun z=>by
    simp only [List.count_append,List.cons_append,cntC]
    rw [show List.count z ([]:List Int)=0 from rfl];omega)
   have hsub:∀ p∈P3,p∈P3++[((j:Int),(n3':Int))]:=fun p hp=>List.mem_append_left _ hp
   have hd3:=Dw.edge1 (ins:=[(j:Int),x]) (ins':=[(n3':Int),y]) 9 0 hd2 ⟨by simp,hsub _ hxy,trivial⟩
   have hj':(j:Int)∈ug l:=List.mem_of_getElem? (uO hj)
   have hd4:=hd3.edge0 (w:=(n3:Int)) (w':=((n3'+1:Nat):Int)) 4 0 (by simp) (fun S h1 h2=>h2 _ (List.mem_append_right _ (.head _)) ⟨(j:Int),by simp [edI],h1 _ hj'⟩ _ (by simp [edO]))
   refine ⟨_,_,bnd (pA (uO hj)) (bnd (dJ (by omega)) (bnd (pA hx) (bnd (gJ (by dsimp only;omega) _ _ _ _) (bnd (gJ (by simp;omega) _ _ _ _) rfl)))),bnd (pA hy') (bnd (yL (by omega)) (bnd (yL (by omega)) (bnd (yB (by simp;omega)) (bnd (iJ (by dsimp only;omega) _ _ _ _) (bnd (iJ (by simp;omega) _ _ _ _) rfl))))),_,n3+1,_,n3'+1+1,_,I3++[(n3':Int)],rfl,rfl,fun p hp=>List.mem_append_left _ (hsub p (hP p hp)),?_,by simp [hil],hd4.setB (by omega) (by omega) (by simp;omega)⟩
   rw [List.take_add_one,uO hj]
   exact (hi.mono fun p hp=>List.mem_append_left _ (hsub p hp)).app (m:=[(j:Int)]) (m':=[(n3':Int)]) ⟨by simp,trivial⟩)
 rw [Nat.zero_add] at t4 t5 t6
 have hul:(ug l).length≤l:=by rw [mK];exact Nat.le_refl _
 rw [List.take_of_length_le hul] at t4
 rw [List.drop_of_length_le hul,List.append_nil] at t6
 have hrd:=(m4.mono t3).drop l
 obtain ⟨G,g1,g2,g3⟩:=EX_ t6 t4 hrd
 have hs1:gC out (l:Int) ((out.length:Nat):Int)=some (out.drop l):=by
  unfold gC
  rw [if_pos (by omega)]
  congr 1
  exact List.take_of_length_le (by rw [List.length_drop];omega)
 have hs2:gC out' (l:Int) ((out'.length:Nat):Int)=some (out'.drop l):=by
  unfold gC
  rw [if_pos (by omega)]
  congr 1
  exact List.take_of_length_le (by rw [List.length_drop];omega)
 have hs3:gC out' 0 (l:Int)=some (out'.take l):=by
  unfold gC
  rw [if_pos (by omega)];rfl
 refine ⟨G,?_,?_,g3⟩
 ·
  refine bnd (inputs_ (by omega)) (bnd s1 (bnd hsz (bnd m1 ?_)))
  dsimp only
  rw [mK]
  exact bnd t1 (bnd hs1 (bnd (own_ (by rw [List.length_drop];omega)) (bnd g1 rfl)))
 ·
  refine bnd (a:=false) (stp (cFW (dF (by dsimp only;omega)) (stp (congrArg some (dF (by dsimp only;omega)))))) (cFW rfl (bnd (wires0_ (n:=rows.length) (by omega)) ?_))
  dsimp only
  rw [mK]
  refine bnd s2 (bnd (bnd hsz rfl) (bnd m2 (bnd hs3 ?_)))
  rw [List.length_take,Nat.min_eq_left (by omega)]
  exact bnd t2 (bnd hs2 (bnd g2 rfl))
end Go.Proofs.YtngbmcbigcaapaaGreatDoor
namespace Go.Proofs.YtngbmcbigcaapaaGreatDoor
set_option linter.unusedVariables false
def pD (p:Int) (n:Nat) (m:Rows) (v:List Int):Prop:=∃ x:Nat→Int,∀ j,j<n→el v j % p=sg m.length (fun i=>x i*el (gr m i) j) % p
def Indep (p:Int) (n:Nat) (m:Rows):Prop:=∀ x:Nat→Int,(∀ j,j<n→sg m.length (fun i=>x i*el (gr m i) j) % p=0)→∀ i,i<m.length→x i % p=0
def aD (p:Int) (n:Nat) (a b:Rows):Prop:=∀ i,i<a.length→pD p n b (gr a i)
theorem Cb_ (c:Int) (f:Nat→Int) (k:Nat):sg k (fun i=>f i*c)=sg k f*c:=by
 rw [zC (g:=fun i=>c*f i) (fun i _=>Int.mul_comm _ _),sg_mul,Int.mul_comm]
theorem CN_ (f:Nat→Int) (k:Nat):sg k (fun i=>- f i) = - sg k f:=by
 rw [zC (g:=fun i=>(-1)*f i) (fun i _=>by omega),sg_mul];omega
theorem Bo_ {f:Nat→Int}{k r:Nat} (h:r<k):sg k f=sg k (fun i=>if i=r then 0 else f i)+f r:=by
 have h1:sg k (fun i=>if i=r then f i else 0)=f r:=by
  rw [rG h (fun i _ hn=>if_neg hn),if_pos rfl]
 rw [←h1,← sg_add]
 exact zC fun i _=>by by_cases hi:i=r <;> simp [hi]
theorem vW {p a b:Int} (h:(a-b) % p=0):a % p=b % p:=by
 have h2:a=(a-b)+b:=by omega
 rw [h2,Int.add_emod,h,Int.zero_add,mod_mod]
theorem As_ {p a b:Int} (h:a % p=0):(a*b) % p=0:=by rw [←eK,h,Int.zero_mul];exact Int.zero_emod p
theorem Ev_ {p a b:Int} (h:b % p=0):(a*b) % p=0:=by rw [Int.mul_comm];exact As_ h
theorem eE {p:Int}{n:Nat}{m:Rows}{i:Nat} (h:i<m.length):pD p n m (gr m i):=by
 refine ⟨fun t=>if t=i then 1 else 0,fun j _=>?_⟩
 rw [rG h (fun t _ hn=>by show (if t=i then (1:Int) else 0)*_=0;rw [if_neg hn,Int.zero_mul])]
 show _=(if i=i then (1:Int) else 0)*_ % p
 rw [if_pos rfl,Int.one_mul]
theorem fL {p:Int}{n:Nat}{a b:Rows}{v:List Int} (hab:aD p n a b) (hv:pD p n a v):pD p n b v:=by
 obtain ⟨x,hx⟩:=hv
 have hY:∃ Y:Nat→Nat→Int,∀ i,i<a.length→∀ j,j<n→el (gr a i) j % p=sg b.length (fun t=>Y i t*el (gr b t) j) % p:=by
  refine ⟨fun i=>if h:i<a.length then Classical.choose (hab i h) else fun _=>0,fun i hi=>?_⟩
  simp only [dif_pos hi]
  exact Classical.choose_spec (hab i hi)
 obtain ⟨Y,hY⟩:=hY
 refine ⟨fun t=>sg a.length (fun i=>x i*Y i t),fun j hj=>?_⟩
 rw [hx j hj]
 have e:sg b.length (fun t=>sg a.length (fun i=>x i*Y i t)*el (gr b t) j)=sg a.length (fun i=>x i*sg b.length (fun t=>Y i t*el (gr b t) j)):=by
  rw [zC (g:=fun t=>sg a.length (fun i=>x i*Y i t*el (gr b t) j)) (fun t _=>(Cb_ _ _ _).symm),jS]
  refine zC fun i _=>?_
  rw [←sg_mul]
  exact zC fun t _=>Int.mul_assoc _ _ _
 rw [e]
 refine aI fun i hi=>?_
 rw [←mul_mod2,hY i hi j hj,mul_mod2]
theorem rQ (p:Int) (n:Nat) (a:Rows):aD p n a a:=fun i hi=>eE hi
theorem qH {p:Int}{n:Nat}{a b c:Rows} (h:aD p n a b) (k:aD p n b c):aD p n a c:=fun i hi=>fL k (h i hi)
theorem uQ {p:Int}{n:Nat}{m:Rows}{u v w:List Int} (c d:Int) (hu:pD p n m u) (hv:pD p n m v) (h:∀ j,j<n→el w j % p=(c*el u j+d*el v j) % p):pD p n m w:=by
 obtain ⟨x,hx⟩:=hu
 obtain ⟨y,hy⟩:=hv
 refine ⟨fun i=>c*x i+d*y i,fun j hj=>?_⟩
 rw [h j hj,Int.add_emod,← mul_mod2,← mul_mod2 p d,hx j hj,hy j hj,mul_mod2,mul_mod2,← Int.add_emod,← sg_mul,← sg_mul,← sg_add]
 congr 1
 exact zC fun i _=>by rw [Int.add_mul,Int.mul_assoc,Int.mul_assoc]
theorem EV_ {p:Int}{n:Nat}{m:Rows}{v:List Int} (h:∀ j,j<n→el v j % p=0):pD p n m v:=
 ⟨fun _=>0,fun j hj=>by rw [h j hj,cJ (fun i _=>Int.zero_mul _)];exact (Int.zero_emod p).symm⟩
theorem Fm_ {p:Int}{n:Nat}{m:Rows}{r k:Nat} (hr:r<m.length) (hk:k<m.length):aD p n (mB m r k) m∧aD p n m (mB m r k):=by
 have hl:=kF m r k
 constructor
 ·
  intro i hi
  rw [hl] at hi
  rw [dH hr hk]
  split
  · exact eE hr
  ·
   split
   · exact eE hk
   · exact eE hi
 ·
  intro i hi
  by_cases h1:i=k
  ·
   subst h1
   have:=eE (p:=p) (n:=n) (m:=mB m r i) (i:=r) (by rw [hl];exact hr)
   rw [dH hr hk] at this
   by_cases h2:r=i
   · subst h2;rw [if_pos rfl] at this;exact this
   · rw [if_neg h2,if_pos rfl] at this;exact this
  ·
   by_cases h2:i=r
   ·
    subst h2
    have:=eE (p:=p) (n:=n) (m:=mB m i k) (i:=k) (by rw [hl];exact hk)
    rw [dH hr hk,if_pos rfl] at this;exact this
   ·
    have:=eE (p:=p) (n:=n) (m:=mB m r k) (i:=i) (by rw [hl];exact hi)
    rw [dH hr hk,if_neg h1,if_neg h2] at this;exact this
theorem qR {p:Int}{c r k N q:Nat}{m a:Rows} (hf:fdB p=true) (h:okM p N m) (ha:okM p q a) (hl:a.length=m.length) (hr:r<m.length) (hk:k<m.length) (hc:c<N) (hne:el (gr m k) c≠0) :
  let iv:=rD p (el (gr m k) c)
  (el (gr m k) c*iv) % p=1∧(∀ j,j<q→el (gr (gB p c m a r k) r) j=(el (gr a k) j*iv) % p) ∧
  ∀ i,i<m.length→i≠r→∀ j,j<q→el (gr (gB p c m a r k) i) j=(el (gr (mB a r k) i) j-el (gr (mB m r k) i) c*el (gr (gB p c m a r k) r) j) % p:=by
 intro iv
 have hp:=aC hf
 have hel:=fH h hk hc
 obtain ⟨_,i1,i2,i3⟩:=gO hf (x:=el (gr m k) c) ⟨by omega,hel.2⟩
 have hra:r<a.length:=by omega
 have hka:k<a.length:=by omega
 have hsr:gr (mB m r k) r=gr m k:=nL hr hk
 have hsra:gr (mB a r k) r=gr a k:=nL hra hka
 have hso:okM p q (mB a r k):=aK ha hra hka
 have hpl:(eB p c m a r k).length=a.length:=oL p c m a r k
 have hpr:gr (eB p c m a r k) r=yC (xF p iv) (gr a k):=by
  rw [nO hra,if_pos rfl,hsr,hsra]
 have hrow:=zB ha hka
 have hpe:∀ j,j<q→el (gr (eB p c m a r k) r) j=(el (gr a k) j*iv) % p:=fun j hj=>by
  rw [hpr,rO (by omega)];rfl
 have hst:∀ i,i<m.length→gr (gB p c m a r k) i=jB p c r (eB p c m m r k) (eB p c m a r k) i (gr (eB p c m a r k) i):=fun i hi=>BT_ (by rw [hpl];omega)
 have hstr:∀ j,j<q→el (gr (gB p c m a r k) r) j=(el (gr a k) j*iv) % p:=fun j hj=>by
  rw [hst r hr]
  unfold jB
  rw [if_pos (.inl rfl)]
  exact hpe j hj
 refine ⟨i1,hstr,fun i hi hir j hj=>?_⟩
 rw [hstr j hj,hst i hi]
 have hpi:gr (eB p c m a r k) i=gr (mB a r k) i:=by rw [nO hra,if_neg hir]
 have hpm:gr (eB p c m m r k) i=gr (mB m r k) i:=by rw [nO hr,if_neg hir]
 have hsi:=zB hso (i:=i) (by rw [kF];omega)
 have hb:=fH hso (i:=i) (by rw [kF];omega) hj
 unfold jB
 by_cases h0:el (gr (eB p c m m r k) i) c=0
 ·
  rw [if_pos (.inr h0),hpi]
  rw [hpm] at h0
  rw [h0,Int.zero_mul,Int.sub_zero,uL hb]
 ·
  rw [if_neg (by intro h1;rcases h1 with h1 | h1;exact hir h1;exact h0 h1)]
  rw [rO (by rw [hpi];omega)]
  unfold cE
  rw [hpi,hpe j hj,hpm]
theorem Fn_ {p:Int}{c r k N q:Nat}{m a:Rows} (hf:fdB p=true) (h:okM p N m) (ha:okM p q a) (hl:a.length=m.length) (hr:r<m.length) (hk:k<m.length) (hc:c<N) (hne:el (gr m k) c≠0) :
  aD p q (gB p c m a r k) a∧aD p q a (gB p c m a r k):=by
 obtain ⟨e1,e2,e3⟩:=qR hf h ha hl hr hk hc hne
 have hsl:(gB p c m a r k).length=m.length:=by rw [nD,hl]
 have hra:r<a.length:=by omega
 have hka:k<a.length:=by omega
 obtain ⟨w1,w2⟩:=Fm_ (p:=p) (n:=q) (m:=a) hra hka
 have hnr:pD p q a (gr (gB p c m a r k) r):=by
  refine uQ (rD p (el (gr m k) c)) 0 (eE hka) (eE hka) fun j hj=>?_
  rw [e2 j hj,mod_mod,Int.zero_mul,Int.add_zero,Int.mul_comm]
 constructor
 ·
  intro i hi
  rw [hsl] at hi
  by_cases hir:i=r
  · rw [hir];exact hnr
  ·
   refine uQ 1 (- el (gr (mB m r k) i) c) (w1 i (by rw [kF];omega)) hnr fun j hj=>?_
   rw [e3 i hi hir j hj,mod_mod,Int.one_mul,Int.neg_mul,Int.sub_eq_add_neg]
 ·
  refine qH w2 ?_
  have hrr:pD p q (gB p c m a r k) (gr (gB p c m a r k) r):=eE (by rw [hsl];exact hr)
  intro i hi
  rw [kF] at hi
  by_cases hir:i=r
  ·
   rw [hir,nL hra hka]
   refine uQ (el (gr m k) c) 0 hrr hrr fun j hj=>?_
   rw [e2 j hj,Int.zero_mul,Int.add_zero,mul_mod2,← Int.mul_assoc,Int.mul_comm (el (gr m k) c),Int.mul_assoc,← mul_mod2,e1,Int.mul_one]
  ·
   refine uQ 1 (el (gr (mB m r k) i) c) (eE (i:=i) (by rw [hsl];omega)) hrr fun j hj=>?_
   rw [e3 i (by omega) hir j hj,Int.one_mul,eS]
   congr 1;omega
theorem uN {p:Int}{N q:Nat} (hf:fdB p=true):∀ (d c:Nat) (m a:Rows) (r:Nat),c+d≤N→okM p N m→okM p q a→a.length=m.length→r≤m.length→aD p q (lB p d c m a r).2.1 a∧aD p q a (lB p d c m a r).2.1
 | 0,_,_,a,_,_,_,_,_,_=>⟨rQ p q a,rQ p q a⟩
 | d+1,c,m,a,r,hN,h,ha,hl,hr=>by
  unfold lB
  by_cases hrl:r<m.length
  ·
   rw [if_pos hrl]
   obtain ⟨s1,s2,s3⟩:=cH m c (m.length-r) r (by omega)
   split
   · exact uN hf d (c+1) m a r (by omega) h ha hl hr
   ·
    rename_i hk
    have hkl:scanN m c (m.length-r) r<m.length:=by omega
    have ha2:okM p q (gB p c m a r (scanN m c (m.length-r) r)):=uF (aC hf).1 ha (by omega) (by omega)
    obtain ⟨k1,k2⟩:=uN hf d (c+1) (gB p c m m r (scanN m c (m.length-r) r)) (gB p c m a r (scanN m c (m.length-r) r)) (r+1) (by omega) (uF (aC hf).1 h hrl hkl) ha2 (by rw [nD,nD];exact hl) (by rw [nD];omega)
    obtain ⟨w1,w2⟩:=Fn_ hf h ha hl hrl hkl (show c<N by omega) (s3 hkl)
    exact ⟨qH k1 w1,qH w2 k2⟩
  · rw [if_neg hrl];exact ⟨rQ p q a,rQ p q a⟩
theorem mW (p:Int):∀ (d c:Nat) (m:Rows) (r:Nat),(lB p d c m m r).2.1=(lB p d c m m r).1
 | 0,_,_,_=>rfl
 | d+1,c,m,r=>by
  unfold lB
  split
  ·
   split
   · exact mW p d (c+1) m r
   · exact mW p d (c+1) _ (r+1)
  · rfl
theorem Fk_ {p:Int}{n k:Nat}{m:Rows} (hz:∀ i,k≤i→i<m.length→∀ j,j<n→el (gr m i) j=0):aD p n (m.take k) m∧aD p n m (m.take k):=by
 constructor
 ·
  intro i hi
  rw [List.length_take] at hi
  rw [yH (by omega)]
  exact eE (by omega)
 ·
  intro i hi
  rcases Nat.lt_or_ge i k with h | h
  ·
   have:=eE (p:=p) (n:=n) (m:=m.take k) (i:=i) (by rw [List.length_take];omega)
   rw [yH h] at this;exact this
  · exact EV_ fun j hj=>by rw [hz i h hi j hj];exact Int.zero_emod p
theorem tI {p:Int}{n:Nat}{m:Rows} (hf:fdB p=true) (h:okM p n m):aD p n (eC p n m) m∧aD p n m (eC p n m):=by
 obtain ⟨k1,k2⟩:=uN hf n 0 m m 0 (by omega) h h rfl (by omega)
 rw [mW] at k1 k2
 have h1:=kN hf n 0 m 0 (by omega) h (RedI.start m)
 rw [Nat.zero_add] at h1
 obtain ⟨w1,w2⟩:=Fk_ (p:=p) (n:=n) (m:=(lB p n 0 m m 0).1) (k:=(lB p n 0 m m 0).2.2) h1.rest
 exact ⟨qH w1 k1,qH k2 w2⟩
theorem Red.indep {p:Int}{n:Nat}{b:Rows} (h:Red p n b):Indep p n b:=by
 intro x hx i hi
 have:=hx _ (h.lt i hi)
 rw [rG hi (fun t ht hn=>by rw [h.zero i t hi ht (Ne.symm hn),Int.mul_zero]),h.one i hi,Int.mul_one] at this
 exact this
theorem AF_ {p:Int}{n:Nat}{b:Rows}{v:List Int} (hb:Red p n b) (hv:pD p n b v):∀ j,j<n→el v j % p=sg b.length (fun i=>el v (leadN (gr b i))*el (gr b i) j) % p:=by
 obtain ⟨x,hx⟩:=hv
 intro j hj
 rw [hx j hj]
 refine aI fun i hi=>?_
 have h1:=hx _ (hb.lt i hi)
 rw [rG hi (fun t ht hn=>by rw [hb.zero i t hi ht (Ne.symm hn),Int.mul_zero]),hb.one i hi,Int.mul_one] at h1
 rw [←eK,← h1,eK]
theorem Fq_ {p:Int}{n:Nat}{b:Rows}{v:List Int} (hp:2≤p) (hb:Red p n b) (hv:okR p n v) (hs:pD p n b v) (h0:leadN v<n):∃ i,i<b.length∧leadN (gr b i)=leadN v:=by
 apply Classical.byContradiction
 intro hno
 have hno:∀ i,i<b.length→leadN (gr b i)≠leadN v:=fun i hi he=>hno ⟨i,hi,he⟩
 have h1:=AF_ hb hs _ h0
 have h2:sg b.length (fun i=>el v (leadN (gr b i))*el (gr b i) (leadN v))=0:=by
  refine cJ fun i hi=>?_
  rcases Nat.lt_trichotomy (leadN (gr b i)) (leadN v) with h | h | h
  · rw [rL v _ h,Int.zero_mul]
  · exact absurd h (hno i hi)
  · rw [rL (gr b i) _ h,Int.mul_zero]
 rw [h2,Int.zero_emod,uL (hv.2 _ (uE (by rw [hv.1];exact h0)))] at h1
 exact xR v (by rw [hv.1];exact h0) h1
theorem BA_ {p:Int}{n:Nat}{b b':Rows} (hp:2≤p) (hb:Red p n b) (hb':Red p n b') (hs:aD p n b b'):∀ k,k≤b.length→∃ g:Nat→Nat,(∀ i,i<k→g i<b'.length∧leadN (gr b' (g i))=leadN (gr b i))∧(∀ i,i<k→i≤g i):=by
 intro k hk
 have hex:∀ i,i<b.length→∃ t,t<b'.length∧leadN (gr b' t)=leadN (gr b i):=fun i hi=>Fq_ hp hb' (zB hb.ok hi) (hs i hi) (hb.lt i hi)
 refine ⟨fun i=>if h:i<b.length then Classical.choose (hex i h) else 0,fun i hi=>?_,fun i hi=>?_⟩
 ·
  simp only [dif_pos (Nat.lt_of_lt_of_le hi hk)]
  exact Classical.choose_spec (hex i (Nat.lt_of_lt_of_le hi hk))
 ·
  induction i with
  | zero=>exact Nat.zero_le _
  | succ i ih=>
   have h1:=ih (by omega)
   have hi1:i<b.length:=by omega
   have hi2:i+1<b.length:=by omega
   simp only [dif_pos hi1] at h1
   simp only [dif_pos hi2]
   have s1:=Classical.choose_spec (hex i hi1)
   have s2:=Classical.choose_spec (hex (i+1) hi2)
   generalize Classical.choose (hex i hi1)=t1 at s1 h1
   generalize Classical.choose (hex (i+1) hi2)=t2 at s2
   have hlt:=hb.inc i (i+1) (by omega) hi2
   have:t1<t2:=by
    rcases Nat.lt_trichotomy t1 t2 with h | h | h
    · exact h
    · rw [h] at s1;omega
    · have:=hb'.inc t2 t1 h s1.1;omega
   omega
theorem AJ_ {p:Int}{n:Nat}{b b':Rows} (hp:2≤p) (hb:Red p n b) (hb':Red p n b') (hs:aD p n b b'):b.length≤b'.length:=by
 obtain ⟨g,h1,h2⟩:=BA_ hp hb hb' hs b.length (Nat.le_refl _)
 rcases Nat.eq_zero_or_pos b.length with h0 | h0
 · omega
 ·
  have:=(h1 (b.length-1) (by omega)).1
  have:=h2 (b.length-1) (by omega)
  omega
theorem red_eq {p:Int}{n:Nat}{b b':Rows} (hp:2≤p) (hb:Red p n b) (hb':Red p n b') (hs:aD p n b b') (hl:b.length=b'.length):b=b':=by
 obtain ⟨g,h1,h2⟩:=BA_ hp hb hb' hs b.length (Nat.le_refl _)
 have hg:∀ d i,i+d+1=b.length→g i=i:=by
  intro d
  induction d with
  | zero=>
   intro i hi
   have:=(h1 i (by omega)).1
   have:=h2 i (by omega)
   omega
  | succ d ih=>
   intro i hi
   have e1:=ih (i+1) (by omega)
   have a1:=h1 i (by omega)
   have a2:=h1 (i+1) (by omega)
   have a3:=hb.inc i (i+1) (by omega) (by omega)
   have a4:=h2 i (by omega)
   rw [e1] at a2
   rcases Nat.lt_trichotomy (g i) (i+1) with h | h | h
   · omega
   · rw [h] at a1;omega
   · have:=hb'.inc (i+1) (g i) h a1.1;omega
 have hlead:∀ i,i<b.length→leadN (gr b' i)=leadN (gr b i):=fun i hi=>by
  have:=(h1 i hi).2
  rw [hg (b.length-1-i) i (by omega)] at this;exact this
 refine CY_ hl fun i hi=>?_
 have r1:=zB hb.ok hi
 have r2:=zB hb'.ok (i:=i) (by omega)
 refine yY (by rw [r1.1,r2.1]) fun j hj=>?_
 rw [r1.1] at hj
 have h3:=AF_ hb' (hs i hi) j hj
 rw [rG (i0:=i) (by omega) (fun t ht hn=>by rw [hlead t (by omega),hb.zero t i (by omega) hi hn,Int.zero_mul]),hlead i hi,hb.one i hi,Int.one_mul] at h3
 rw [uL (r1.2 _ (uE (by omega))),uL (r2.2 _ (uE (by omega)))] at h3
 exact h3
theorem bR {p:Int}{n:Nat}{b b':Rows} (hp:2≤p) (hb:Red p n b) (hb':Red p n b') (h1:aD p n b b') (h2:aD p n b' b):b=b':=
 red_eq hp hb hb' h1 (Nat.le_antisymm (AJ_ hp hb hb' h1) (AJ_ hp hb' hb h2))
theorem ES_ {p:Int}{n:Nat}{a b:Rows} (hf:fdB p=true) (ha:okM p n a) (hb:okM p n b) (h1:aD p n a b) (h2:aD p n b a):eC p n a=eC p n b:=by
 obtain ⟨a1,a2⟩:=tI hf ha
 obtain ⟨b1,b2⟩:=tI hf hb
 exact bR (aC hf).1 (vF hf ha) (vF hf hb) (qH a1 (qH h1 b2)) (qH b1 (qH h2 a2))
theorem Fu_ {p:Int}{n:Nat}{b:Rows} (hf:fdB p=true) (h:Red p n b):eC p n b=b:=by
 obtain ⟨a1,a2⟩:=tI hf h.ok
 exact bR (aC hf).1 (vF hf h.ok) h a1 a2
end Go.Proofs.YtngbmcbigcaapaaGreatDoor
namespace Go.Proofs.YtngbmcbigcaapaaGreatDoor
theorem Fs_ {p:Int}{n:Nat}{m:List (List Int)} (h:rowsP p n m) (hn:n≤1048576):∀ r∈m,r.length≤aB:=by
 intro r hr;have:=(h r hr).1;have hm:aB=1099511627776:=rfl;omega
end Go.Proofs.YtngbmcbigcaapaaGreatDoor
namespace Go.Proofs.YtngbmcbigcaapaaGreatDoor
end Go.Proofs.YtngbmcbigcaapaaGreatDoor
namespace Go.Proofs.YtngbmcbigcaapaaGreatDoor
theorem pX {α:Type} [DecidableEq α] {f:Nat→Unit→Option (Unit⊕Bool)}:∀ (L M:List α) (k:Nat),L.length=M.length →
  (∀ (j:Nat) (a b:α),L[j]?=some a→M[j]?=some b→f (k+j) ()=some (if a=b then .inl () else .inr false))→uC f L.length k ()=some (if L=M then .inl () else .inr false)
 | [],[],_,_,_=>rfl
 | [],_::_,_,h,_=>by simp at h
 | _::_,[],_,h,_=>by simp at h
 | a::L,b::M,k,hl,h=>by
  have h0:f k ()=_:=h 0 a b rfl rfl
  show (f k ()).bind _=_
  rw [h0]
  by_cases hab:a=b
  ·
   rw [if_pos hab]
   have ih:=pX L M (k+1) (by simpa using hl) (fun j x y hx hy=>by
    have:=h (j+1) x y (by simpa using hx) (by simpa using hy)
    rw [show k+1+j=k+(j+1) by omega];exact this)
   show uC f L.length (k+1) ()=_
   rw [ih]
   by_cases h2:L=M
   · rw [if_pos h2,if_pos (by rw [hab,h2])]
   · rw [if_neg h2,if_neg (fun h3=>h2 (List.cons.inj h3).2)]
  · rw [if_neg hab,if_neg (fun h3=>hab (List.cons.inj h3).1)];rfl
theorem uX {α:Type} [DecidableEq α] {f:Nat→Unit→Option (Unit⊕Bool)} (L M:List α)
  (h:L.length=M.length→∀ (j:Nat) (a b:α),L[j]?=some a→M[j]?=some b→f j ()=some (if a=b then .inl () else .inr false)) :
  ((some (!decide (((L.length:Nat):Int)=((M.length:Nat):Int)))).bind fun c=>cond c (some false) (vC (uC f L.length 0 ()) fun (_:Unit)=>some true))=some (decide (L=M)):=by
 refine stp ?_
 by_cases hl:L.length=M.length
 ·
  refine cFW (nT (dT (by omega))) (sqW (pX L M 0 hl (fun j a b ha hb=>by rw [Nat.zero_add];exact h hl j a b ha hb)) ?_)
  by_cases h2:L=M
  · rw [if_pos h2,show decide (L=M)=true from dT h2];rfl
  · rw [if_neg h2,show decide (L=M)=false from dF h2];rfl
 ·
  rw [show decide (L=M)=false from dF (fun h2=>hl (by rw [h2]))]
  exact cTW (nF (dF (by omega))) rfl
theorem stepE {α:Type}{a b:α} [DecidableEq α]:(some (!decide (a=b))).bind (fun c=>cond c (some (Sum.inr false)) (some (Sum.inl ())))=some (if a=b then (.inl ():Unit⊕Bool) else .inr false):=by
 by_cases h:a=b
 · rw [if_pos h];exact stp (cFW (nT (dT h)) rfl)
 · rw [if_neg h];exact stp (cTW (nF (dF h)) rfl)
theorem eM (a b:List Int):oI a b=some (decide (a=b)):=
 uX a b (fun _ _ _ _ hx hy=>bnd (pA hx) (bnd (pA hy) stepE))
theorem iS (a b:List Int):vK a b=some (decide (a=b)):=
 uX a b (fun _ _ _ _ hx hy=>bnd (pA hx) (bnd (pA hy) stepE))
end Go.Proofs.YtngbmcbigcaapaaGreatDoor
namespace Go.Proofs.YtngbmcbigcaapaaGreatDoor
set_option linter.unusedVariables false
theorem gr_app1 {a b:Rows}{i:Nat} (h:i<a.length):gr (a++b) i=gr a i:=by
 unfold gr;rw [List.getD_eq_getElem?_getD,List.getD_eq_getElem?_getD,List.getElem?_append_left h]
theorem gr_app2 {a b:Rows} (i:Nat):gr (a++b) (a.length+i)=gr b i:=by
 unfold gr;rw [List.getD_eq_getElem?_getD,List.getD_eq_getElem?_getD,List.getElem?_append_right (by omega),Nat.add_sub_cancel_left]
theorem okM_app {p:Int}{n:Nat}{a b:Rows} (h1:okM p n a) (h2:okM p n b):okM p n (a++b):=
 fun r hr=>(List.mem_append.1 hr).elim (h1 r) (h2 r)
section
variable {p:Int}{n:Nat}{A B:Rows}
end
end Go.Proofs.YtngbmcbigcaapaaGreatDoor
namespace Go.Proofs.YtngbmcbigcaapaaGreatDoor
theorem FO_ {α:Type} (l:List (List α)) (j:Nat):(l.take j).flatten.length≤l.flatten.length:=by
 have:l.flatten=(l.take j).flatten++(l.drop j).flatten:=by rw [←List.flatten_append,List.take_append_drop]
 rw [this,List.length_append];omega
theorem FP_ {α:Type} (l:List (List α)){j:Nat}{x:List α} (h:l[j]?=some x):(l.take (j+1)).flatten=(l.take j).flatten++x:=by
 rw [List.take_add_one,h]
 simp only [Option.toList_some,List.flatten_append,List.flatten_cons,List.flatten_nil,List.append_nil]
theorem fY {l:Rows} (h:l.flatten.length≤aB):xD l=some l.flatten:=by
 have:=kC (n:=l.length) (fun j=>(l.take j).flatten) (f:=fun (k5:Nat) (s41:List Int)=>
   (idxO l ((k5:Nat):Int)).bind fun a57=>
   (xA s41 a57).bind fun a61=>
   some a61) (by
  intro j hj
  have h1:=iE hj
  have h2:=FP_ l h1
  have h3:=FO_ l (j+1)
  refine bnd (xC hj) (bnd (yB ?_) (by rw [h2]))
  rw [h2,List.length_append] at h3;omega)
 exact bnd this (by rw [List.take_of_length_le (Nat.le_refl _)])
theorem okR_app {p:Int}{l r:Nat}{x y:List Int} (hx:okR p l x) (hy:okR p r y):okR p (l+r) (x++y):=
 ⟨by rw [List.length_append,hx.1,hy.1],fun z hz=>by rcases List.mem_append.1 hz with h | h;exact hx.2 z h;exact hy.2 z h⟩
end Go.Proofs.YtngbmcbigcaapaaGreatDoor
namespace Go.Proofs.YtngbmcbigcaapaaGreatDoor
set_option linter.unusedVariables false
end Go.Proofs.YtngbmcbigcaapaaGreatDoor
namespace Go.Proofs.YtngbmcbigcaapaaGreatDoor
set_option linter.unusedVariables false
def oC (m a:Rows):Rows:=List.zipWith (fun x y=>x++y) m a
theorem wH {m a:Rows} (h:a.length=m.length):(oC m a).length=m.length:=by simp [oC,h]
theorem zH:∀ {m a:Rows}{i:Nat},a.length=m.length→gr (oC m a) i=gr m i++gr a i
 | [],[],i,_=>by simp [oC,gr]
 | [],_::_,_,h=>by simp at h
 | _::_,[],_,h=>by simp at h
 | x::m,y::a,0,_=>by rw [Cm_,Cm_];rfl
 | x::m,y::a,i+1,h=>by
  rw [gY,gY]
  show gr ((x++y)::oC m a) (i+1)=_
  rw [gY]
  exact zH (by simpa using h)
theorem el_app {x y:List Int}{j:Nat}:el (x++y) j=if j<x.length then el x j else el y (j-x.length):=by
 unfold el
 rw [List.getD_eq_getElem?_getD,List.getD_eq_getElem?_getD,List.getD_eq_getElem?_getD]
 split
 · rename_i h;rw [List.getElem?_append_left h]
 · rename_i h;rw [List.getElem?_append_right (by omega)]
theorem CH_ {p:Int}{k q:Nat}{m a:Rows} (hl:a.length=m.length) (h:okM p k m) (ha:okM p q a):okM p (k+q) (oC m a):=by
 intro x hx
 obtain ⟨i,hi,rfl⟩:=List.mem_iff_getElem.1 hx
 rw [wH hl] at hi
 have e:gr (oC m a) i=(oC m a)[i]'(by rw [wH hl];exact hi):=by have:=iE (m:=oC m a) (i:=i) (by rw [wH hl];exact hi);rw [List.getElem?_eq_getElem] at this;exact (Option.some.inj this).symm
 rw [←e,zH hl]
 exact okR_app (zB h hi) (zB ha (by omega))
theorem kY {p:Int}{k:Nat}{m a:Rows} (hl:a.length=m.length) (h:okM p k m){i c:Nat} (hi:i<m.length) (hc:c<k):el (gr (oC m a) i) c=el (gr m i) c:=by
 rw [zH hl,el_app,if_pos (by rw [(zB h hi).1];exact hc)]
theorem Ba_ {p:Int}{k:Nat}{m a:Rows} (hl:a.length=m.length) (h:okM p k m){c:Nat} (hc:c<k):∀ (d i:Nat),i+d≤m.length→scanN (oC m a) c d i=scanN m c d i
 | 0,_,_=>rfl
 | d+1,i,hi=>by
  unfold scanN
  rw [kY hl h (by omega) hc,Ba_ hl h hc d (i+1) (by omega)]
theorem FX_ {m a:Rows}{r k i:Nat} (hl:a.length=m.length) (hr:r<m.length) (hk:k<m.length):gr (mB (oC m a) r k) i=gr (mB m r k) i++gr (mB a r k) i:=by
 have hcl:=wH hl
 rw [dH (by rw [hcl];exact hr) (by rw [hcl];exact hk),dH hr hk,dH (m:=a) (by omega) (by omega)]
 split
 · exact zH hl
 · split <;> exact zH hl
theorem FY_ {p:Int}{c r k w q:Nat}{m a:Rows} (hf:fdB p=true) (h:okM p w m) (ha:okM p q a) (hl:a.length=m.length) (hr:r<m.length) (hk:k<m.length) (hc:c<w) (hne:el (gr m k) c≠0) :
  gB p c (oC m a) (oC m a) r k=oC (gB p c m m r k) (gB p c m a r k):=by
 have hp:=aC hf
 have hcl:=wH hl
 have hco:=CH_ hl h ha
 have hne2:el (gr (oC m a) k) c≠0:=by rw [kY hl h hk hc];exact hne
 obtain ⟨f1,f2,f3⟩:=qR hf hco hco rfl (by rw [hcl];exact hr) (by rw [hcl];exact hk) (by omega) hne2
 obtain ⟨g1,g2,g3⟩:=qR hf h h rfl hr hk hc hne
 obtain ⟨k1,k2,k3⟩:=qR hf h ha hl hr hk hc hne
 have l1:(gB p c (oC m a) (oC m a) r k).length=m.length:=by rw [nD,hcl]
 have l2:(gB p c m m r k).length=m.length:=nD p c m m r k
 have l3:(gB p c m a r k).length=m.length:=by rw [nD,hl]
 have o1:okM p (w+q) (gB p c (oC m a) (oC m a) r k):=uF hp.1 hco (by rw [hcl];exact hr) (by rw [hcl];exact hk)
 have o2:okM p w (gB p c m m r k):=uF hp.1 h hr hk
 have o3:okM p q (gB p c m a r k):=uF hp.1 ha (by omega) (by omega)
 rw [hcl] at f3
 have hrow:∀ j,j<w+q→el (gr (gB p c (oC m a) (oC m a) r k) r) j=el (gr (gB p c m m r k) r++gr (gB p c m a r k) r) j:=fun j hj=>by
  rw [f2 j hj,kY hl h hk hc,zH hl,el_app,el_app,(zB h hk).1,(zB o2 (i:=r) (by omega)).1]
  split
  · rw [g2 j (by omega)]
  · rw [k2 _ (by omega)]
 refine CY_ (by rw [wH (by rw [l3,l2]),l1,l2]) fun i hi=>?_
 rw [l1] at hi
 rw [zH (by rw [l3,l2])]
 have wi:=(zB o2 (i:=i) (by omega)).1
 refine yY (by rw [List.length_append,(zB o1 (i:=i) (by omega)).1,wi,(zB o3 (i:=i) (by omega)).1]) fun j hj=>?_
 rw [(zB o1 (i:=i) (by omega)).1] at hj
 by_cases hir:i=r
 · subst hir;exact hrow j hj
 ·
  have hsm:okM p w (mB m r k):=aK h hr hk
  have ws:=(zB hsm (i:=i) (by rw [kF];exact hi)).1
  have wr:=(zB o2 (i:=r) (by omega)).1
  rw [f3 i hi hir j hj,hrow j hj,FX_ hl hr hk,el_app,el_app,el_app,el_app,ws,wr,wi,if_pos hc]
  split
  · rename_i hjw;rw [g3 i hi hir j hjw]
  · rename_i hjw;rw [k3 i hi hir _ (by omega)]
theorem jX {p:Int}{w q:Nat} (hf:fdB p=true):∀ (d c:Nat) (m a:Rows) (r:Nat),c+d≤w→okM p w m→okM p q a→a.length=m.length→r≤m.length →
  lB p d c (oC m a) (oC m a) r=(oC (lB p d c m a r).1 (lB p d c m a r).2.1,oC (lB p d c m a r).1 (lB p d c m a r).2.1,(lB p d c m a r).2.2)
 | 0,_,_,_,_,_,_,_,_,_=>rfl
 | d+1,c,m,a,r,hd,h,ha,hl,hr=>by
  have hcl:=wH hl
  unfold lB
  rw [hcl]
  by_cases hrl:r<m.length
  ·
   rw [if_pos hrl,if_pos hrl,Ba_ hl h (by omega) (m.length-r) r (by omega)]
   obtain ⟨s1,s2,s3⟩:=cH m c (m.length-r) r (by omega)
   split
   · exact jX hf d (c+1) m a r (by omega) h ha hl hr
   ·
    rename_i hk
    have hkl:scanN m c (m.length-r) r<m.length:=by omega
    rw [FY_ hf h ha hl hrl hkl (by omega) (s3 hkl)]
    have ha2:okM p q (gB p c m a r (scanN m c (m.length-r) r)):=uF (aC hf).1 ha (by omega) (by omega)
    exact jX hf d (c+1) (gB p c m m r (scanN m c (m.length-r) r)) (gB p c m a r (scanN m c (m.length-r) r)) (r+1) (by omega) (uF (aC hf).1 h hrl hkl) ha2 (by rw [nD,nD];exact hl) (by rw [nD];omega)
  · rw [if_neg hrl,if_neg hrl]
end Go.Proofs.YtngbmcbigcaapaaGreatDoor
namespace Go.Proofs.YtngbmcbigcaapaaGreatDoor
set_option linter.unusedVariables false
theorem wO (f:Nat→Int) (a:Nat):∀ b,sg (a+b) f=sg a f+sg b (fun t=>f (a+t))
 | 0=>by show sg a f=sg a f+0;omega
 | b+1=>by
  show sg (a+b) f+f (a+b)=sg a f+(sg b (fun t=>f (a+t))+f (a+b))
  rw [wO f a b];omega
theorem cS {p:Int}{n:Nat}{m:Rows}{v:List Int} (f:Nat→Int) (h:∀ i,i<m.length→sg n (fun j=>f j*el (gr m i) j) % p=0) (hv:pD p n m v):sg n (fun j=>f j*el v j) % p=0:=by
 obtain ⟨x,hx⟩:=hv
 have e1:sg n (fun j=>f j*el v j) % p=sg n (fun j=>f j*sg m.length (fun i=>x i*el (gr m i) j)) % p:=
  aI fun j hj=>by rw [←mul_mod2,hx j hj,mul_mod2]
 rw [e1]
 have e2:sg n (fun j=>f j*sg m.length (fun i=>x i*el (gr m i) j))=sg m.length (fun i=>x i*sg n (fun j=>f j*el (gr m i) j)):=by
  rw [zC (g:=fun j=>sg m.length (fun i=>f j*(x i*el (gr m i) j))) (fun j _=>(sg_mul _ _ _).symm),jS]
  refine zC fun i _=>?_
  rw [←sg_mul]
  exact zC fun j _=>Int.mul_left_comm _ _ _
 rw [e2,aI (g:=fun _=>0) (fun i hi=>by rw [Ev_ (h i hi)];exact (Int.zero_emod p).symm),cJ (fun _ _=>rfl)]
 exact Int.zero_emod p
def tC (p:Int) (n:Nat) (m:Rows) (x:List Int):Prop:=∀ i,i<m.length→sg n (fun j=>el (gr m i) j*el x j) % p=0
theorem dX {p:Int}{n:Nat}{m:Rows}{x v:List Int} (h:tC p n m x) (hv:pD p n m v):sg n (fun j=>el v j*el x j) % p=0:=by
 have:=cS (m:=m) (v:=v) (fun j=>el x j) (fun i hi=>by rw [←h i hi];exact congrArg (· % p) (zC fun j _=>Int.mul_comm _ _)) hv
 rw [←this];exact congrArg (· % p) (zC fun j _=>Int.mul_comm _ _)
theorem tR {p:Int}{n:Nat}{a b:Rows}{x:List Int} (h:tC p n b x) (hs:aD p n a b):tC p n a x:=fun i hi=>dX h (hs i hi)
def vT (p:Int) (n:Nat) (m:Rows) (x:List Int):Prop:=∀ c,c<n→sg m.length (fun t=>el x t*el (gr m t) c) % p=0
theorem E7_ {p:Int}{n:Nat}{m b:Rows}{v:List Int} (h:∀ i,i<b.length→vT p n m (gr b i)) (hv:pD p m.length b v):vT p n m v:=by
 intro c hc
 have:=cS (n:=m.length) (m:=b) (v:=v) (fun t=>el (gr m t) c) (fun i hi=>by rw [←h i hi c hc];exact congrArg (· % p) (zC fun j _=>Int.mul_comm _ _)) hv
 rw [←this];exact congrArg (· % p) (zC fun j _=>Int.mul_comm _ _)
theorem vY {n i:Nat} (hi:i<n):gr (idN n) i=sG n i:=by
 have h:=iE (m:=idN n) (i:=i) (by rw [tL];exact hi)
 unfold idN at h
 rw [List.getElem?_map,List.getElem?_range hi] at h
 exact (Option.some.inj h).symm
theorem yN {n i j:Nat} (hi:i<n):el (sG n i) j=if i=j then 1 else 0:=by
 unfold sG el
 rw [List.getD_eq_getElem?_getD,List.getElem?_set]
 by_cases h:i=j
 · subst h;rw [if_pos rfl,if_pos (by rw [List.length_replicate];exact hi),if_pos rfl];rfl
 · rw [if_neg h,if_neg h,← List.getD_eq_getElem?_getD];exact C2_ n j
theorem idN_all {p:Int}{n:Nat} (v:List Int):pD p n (idN n) v:=by
 refine ⟨fun i=>el v i,fun j hj=>?_⟩
 rw [tL,rG (i0:=j) hj (fun i hi hne=>by rw [vY hi,yN hi,if_neg hne,Int.mul_zero]),vY hj,yN hj,if_pos rfl,Int.mul_one]
theorem F3_ {p:Int}{n:Nat}{m:Rows} (hf:fdB p=true) (h:okM p n m):∀ i,i<m.length→∀ c,c<n→el (gr (kB p n m).1 i) c % p=sg m.length (fun t=>el (gr (kB p n m).2.1 i) t*el (gr m t) c) % p:=by
 have hp:=aC hf
 obtain ⟨f1,f2,f3,f4,f5,f6⟩:=oN hf h
 have hl:(idN m.length).length=m.length:=tL _
 have h1:=jX hf n 0 m (idN m.length) 0 (by omega) h (bP hp.1 _) hl (Nat.zero_le _)
 have hC:=CH_ hl h (bP hp.1 m.length)
 have h2:=(uN hf n 0 (oC m (idN m.length)) (oC m (idN m.length)) 0 (by omega) hC hC rfl (Nat.zero_le _)).1
 rw [h1] at h2
 change aD p (n+m.length) (oC (kB p n m).1 (kB p n m).2.1) (oC m (idN m.length)) at h2
 intro i hi c hc
 have hv:=h2 i (by rw [wH (by omega)];omega)
 rw [zH (by omega)] at hv
 have key:∀ a b:List Int,a.length=n→sg (n+m.length) (fun j=>(if j<n then (if c=j then 1 else 0) else -(el (gr m (j-n)) c))*el (a++b) j)=el a c-sg m.length (fun t=>el b t*el (gr m t) c):=by
  intro a b ha
  rw [wO,rG (i0:=c) hc (fun j hj hne=>by rw [if_pos hj,if_neg (fun hh=>hne hh.symm),Int.zero_mul]),if_pos hc,if_pos rfl,Int.one_mul,el_app,if_pos (by omega),Int.sub_eq_add_neg,← CN_]
  congr 1
  refine zC fun t _=>?_
  rw [if_neg (by omega),el_app,if_neg (by omega),show n+t-n=t by omega,show n+t-a.length=t by omega,Int.neg_mul,Int.mul_comm]
 have hd:=cS (n:=n+m.length) (m:=oC m (idN m.length)) _ (fun i hi=>by
  rw [wH hl] at hi
  rw [zH hl,key _ _ (h _ (nK hi)).1,vY hi,rG (i0:=i) hi (fun t _ hne=>by rw [yN hi,if_neg (fun hh=>hne hh.symm),Int.zero_mul]),yN hi,if_pos rfl,Int.one_mul,Int.sub_self]
  exact Int.zero_emod p) hv
 rw [key _ _ (f5 _ (nK (by omega))).1] at hd
 exact vW hd
theorem Ft_ {p:Int}{n:Nat}{m:Rows} (hf:fdB p=true) (h:okM p n m):∀ i,(kB p n m).2.2≤i→i<m.length→∀ c,c<n→el (gr (kB p n m).1 i) c=0:=by
 have h1:=kN hf n 0 m 0 (by omega) h (RedI.start m)
 obtain ⟨e1,e2⟩:=lN p n 0 m m (idN m.length) 0
 have f2:=(oN hf h).2.1
 rw [e1,e2,Nat.zero_add] at h1
 intro i h2 h3 c hc
 exact h1.rest i h2 (by rw [←f2] at h3;exact h3) c hc
theorem F4_ {p:Int}{n:Nat}{m:Rows} (hf:fdB p=true) (h:okM p n m) (v:List Int):pD p m.length (kB p n m).2.1 v:=by
 have hp:=aC hf
 exact fL (uN hf n 0 m (idN m.length) 0 (by omega) h (bP hp.1 _) (tL _) (Nat.zero_le _)).2 (idN_all v)
theorem Cn_ (m:Rows) (k i:Nat):gr (m.drop k) i=gr m (k+i):=by
 unfold gr;rw [List.getD_eq_getElem?_getD,List.getD_eq_getElem?_getD,List.getElem?_drop]
def kerM (p:Int) (n:Nat) (m:Rows):Rows:=eC p m.length ((kB p n m).2.1.drop (kB p n m).2.2)
theorem uY {p:Int}{n:Nat}{m:Rows} (hf:fdB p=true) (h:okM p n m):okM p m.length ((kB p n m).2.1.drop (kB p n m).2.2):=
 fun r hr=>(oN hf h).2.2.2.1 r (List.mem_of_mem_drop hr)
theorem Gc_ {p:Int}{n:Nat}{m:Rows} (hf:fdB p=true) (h:okM p n m):Red p m.length (kerM p n m):=vF hf (uY hf h)
theorem Gd_ {p:Int}{n:Nat}{m:Rows} (hf:fdB p=true) (h:okM p n m) (x:List Int):pD p m.length (kerM p n m) x↔vT p n m x:=by
 have hp:=aC hf
 obtain ⟨f1,f2,f3,f4,f5,f6⟩:=oN hf h
 have hrel:=F3_ hf h
 have hrest:=Ft_ hf h
 have hsp:=tI hf (uY hf h)
 constructor
 ·
  intro hx
  refine E7_ (b:=(kB p n m).2.1.drop (kB p n m).2.2) (fun i hi c hc=>?_) (fL hsp.1 hx)
  rw [List.length_drop] at hi
  rw [Cn_,← hrel _ (by omega) c hc,hrest _ (by omega) (by omega) c hc]
  exact Int.zero_emod p
 ·
  intro hx
  refine fL hsp.2 ?_
  obtain ⟨y,hy⟩:=F4_ hf h x
  rw [f3] at hy
  have hL:(kB p n m).2.2+(m.length-(kB p n m).2.2)=m.length:=by omega
  have hz:∀ i,i<(kB p n m).2.2→y i % p=0:=by
   have hi:=f6.indep y (fun c hc=>?_)
   · intro i h1;exact hi i (by rw [List.length_take];omega)
   ·
    have hlen:((kB p n m).1.take (kB p n m).2.2).length=(kB p n m).2.2:=by rw [List.length_take];omega
    rw [hlen,zC (g:=fun i=>y i*el (gr (kB p n m).1 i) c) (fun i h1=>by rw [yH h1])]
    have e0:sg m.length (fun i=>y i*el (gr (kB p n m).1 i) c)=sg (kB p n m).2.2 (fun i=>y i*el (gr (kB p n m).1 i) c):=by
     conv=>lhs;rw [←hL]
     rw [wO,cJ (k:=m.length-(kB p n m).2.2) (fun t ht=>by rw [hrest _ (by omega) (by omega) c hc,Int.mul_zero])]
     omega
    rw [←e0,aI (g:=fun i=>y i*sg m.length (fun t=>el (gr (kB p n m).2.1 i) t*el (gr m t) c)) (fun i hi=>by rw [←mul_mod2,hrel i hi c hc,mul_mod2])]
    rw [←hx c hc]
    have e1:sg m.length (fun i=>y i*sg m.length (fun t=>el (gr (kB p n m).2.1 i) t*el (gr m t) c))=sg m.length (fun t=>sg m.length (fun i=>y i*el (gr (kB p n m).2.1 i) t)*el (gr m t) c):=by
     rw [zC (g:=fun i=>sg m.length (fun t=>y i*(el (gr (kB p n m).2.1 i) t*el (gr m t) c))) (fun i _=>(sg_mul _ _ _).symm),jS]
     refine zC fun t _=>?_
     rw [←Cb_]
     exact zC fun i _=>(Int.mul_assoc _ _ _).symm
    rw [e1]
    exact aI fun t ht=>by rw [←eK,← hy t ht,eK]
  refine ⟨fun t=>y ((kB p n m).2.2+t),fun j hj=>?_⟩
  rw [hy j hj,List.length_drop,f3]
  conv=>lhs;rw [←hL]
  rw [wO,Int.add_emod,aI (k:=(kB p n m).2.2) (g:=fun _=>0) (fun i hi=>by rw [As_ (hz i hi)];exact (Int.zero_emod p).symm),cJ (k:=(kB p n m).2.2) (f:=fun _=>0) (fun _ _=>rfl),Int.zero_emod,Int.zero_add,mod_mod]
  exact congrArg (· % p) (zC fun t _=>by rw [Cn_])
end Go.Proofs.YtngbmcbigcaapaaGreatDoor
namespace Go.Proofs.YtngbmcbigcaapaaGreatDoor
set_option linter.unusedVariables false
theorem kernel_ {p:Int}{n:Nat}{m:Rows} (hf:fdB p=true) (hn:n≤1048576) (h:okM p n m) (hL:m.length≤1048576):jW p m (n:Int)=some (kerM p n m):=by
 have hm:aB=1099511627776:=rfl
 have hp:=aC hf
 obtain ⟨f1,f2,f3,f4,f5,f6⟩:=oN hf h
 refine bnd (CG_ (by omega) (Fs_ h (by omega))) (bnd (EA_ hL) (bnd (AI_ hf (Nat.le_refl n) hn h (bP hp.1 m.length) (by omega) (tL _)) ?_))
 change (gC (kB p n m).2.1 ((kB p n m).2.2:Int) (((kB p n m).2.1.length:Nat):Int)).bind _=_
 have e:gC (kB p n m).2.1 ((kB p n m).2.2:Int) (((kB p n m).2.1.length:Nat):Int)=some ((kB p n m).2.1.drop (kB p n m).2.2):=by
  unfold gC
  rw [if_pos ⟨by omega,by omega,by rw [Int.toNat_natCast];omega⟩,Int.toNat_natCast,Int.toNat_natCast,List.take_of_length_le (by rw [List.length_drop];omega)]
 refine bnd e (bnd (Br_ hf (Nat.le_refl m.length) hL (uY hf h) (by rw [List.length_drop];omega)) rfl)
def isL (b:Rows) (j:Nat):Bool:=b.any fun r=>decide (leadN r=j)
theorem isL_iff {b:Rows}{j:Nat}:isL b j=true↔∃ t,t<b.length∧leadN (gr b t)=j:=by
 unfold isL
 rw [List.any_eq_true]
 constructor
 ·
  rintro ⟨r,hr,h⟩
  obtain ⟨t,ht,rfl⟩:=List.mem_iff_getElem.1 hr
  refine ⟨t,ht,?_⟩
  have e:gr b t=b[t]:=by have:=iE ht;rw [List.getElem?_eq_getElem ht] at this;exact (Option.some.inj this).symm
  rw [e];exact of_decide_eq_true h
 ·
  rintro ⟨t,ht,h⟩
  exact ⟨gr b t,nK ht,decide_eq_true h⟩
def ldL (n:Nat) (b:Rows):Nat→List Int
 | 0=>yC (fun _ _=>-1) (List.replicate n 0)
 | i+1=>(ldL n b i).set (leadN (gr b i)) (i:Int)
theorem qS (n:Nat) (b:Rows):∀ i,(ldL n b i).length=n
 | 0=>by unfold ldL;rw [wR,List.length_replicate]
 | i+1=>by unfold ldL;rw [List.length_set];exact qS n b i
theorem jY {z:List Int}{i j:Nat}{v:Int} (h:i<z.length):el (z.set i v) j=if i=j then v else el z j:=by
 unfold el
 rw [List.getD_eq_getElem?_getD,List.getD_eq_getElem?_getD,List.getElem?_set]
 by_cases hij:i=j
 · rw [if_pos hij,if_pos hij,if_pos (by omega)];rfl
 · rw [if_neg hij,if_neg hij]
theorem CS_ {n:Nat}{b:Rows} (hlt:∀ i,i<b.length→leadN (gr b i)<n){j:Nat} (hj:j<n):∀ i,i≤b.length→(0≤el (ldL n b i) j↔∃ t,t<i∧leadN (gr b t)=j)
 | 0,_=>by
  unfold ldL
  rw [rO (by rw [List.length_replicate];exact hj)]
  exact ⟨fun h=>by omega,fun ⟨t,ht,_⟩=>by omega⟩
 | i+1,hi=>by
  have ih:=CS_ hlt hj i (by omega)
  show 0≤el ((ldL n b i).set (leadN (gr b i)) (i:Int)) j↔_
  rw [jY (by rw [qS];exact hlt i (by omega))]
  by_cases h:leadN (gr b i)=j
  · rw [if_pos h];exact ⟨fun _=>⟨i,by omega,h⟩,fun _=>by omega⟩
  ·
   rw [if_neg h,ih]
   constructor
   · rintro ⟨t,ht,h2⟩;exact ⟨t,by omega,h2⟩
   ·
    rintro ⟨t,ht,h2⟩
    by_cases hti:t=i
    · rw [hti] at h2;exact absurd h2 h
    · exact ⟨t,by omega,h2⟩
def nvL (p:Int) (n:Nat) (b:Rows) (j:Nat):Nat→List Int
 | 0=>(List.replicate n 0).set j 1
 | i+1=>(nvL p n b j i).set (leadN (gr b i)) ((p-el (gr b i) j) % p)
theorem zO {p:Int}{n:Nat}{b:Rows}{j:Nat} (hp:2≤p):∀ i,okR p n (nvL p n b j i)
 | 0=>Bi_ hp n j
 | i+1=>by
  have ih:=zO (n:=n) (b:=b) (j:=j) hp i
  unfold nvL
  refine ⟨by rw [List.length_set];exact ih.1,fun x hx=>?_⟩
  rcases List.mem_or_eq_of_mem_set hx with h | rfl
  · exact ih.2 x h
  · exact ⟨Int.emod_nonneg _ (by omega),Int.emod_lt_of_pos _ (by omega)⟩
theorem eO {p:Int}{n:Nat}{b:Rows}{j:Nat} (hp:2≤p) (hlt:∀ i,i<b.length→leadN (gr b i)<n) (hj:j<n){c:Nat}:∀ i,i≤b.length→(∀ t,t<i→leadN (gr b t)≠c)→el (nvL p n b j i) c=if j=c then 1 else 0
 | 0,_,_=>yN hj
 | i+1,hi,h=>by
  unfold nvL
  rw [jY (by rw [(zO hp i).1];exact hlt i (by omega)),if_neg (h i (by omega))]
  exact eO hp hlt hj i (by omega) (fun t ht=>h t (by omega))
theorem aY {p:Int}{n:Nat}{b:Rows}{j:Nat} (hp:2≤p) (hb:Red p n b){t:Nat} (ht:t<b.length):∀ i,i≤b.length→t<i→el (nvL p n b j i) (leadN (gr b t))=(p-el (gr b t) j) % p
 | 0,_,h=>by omega
 | i+1,hi,h=>by
  unfold nvL
  rw [jY (by rw [(zO hp i).1];exact hb.lt i (by omega))]
  by_cases hti:t=i
  · subst hti;rw [if_pos rfl]
  ·
   have:=hb.inc t i (by omega) (by omega)
   rw [if_neg (by omega)]
   exact aY hp hb ht i (by omega) (by omega)
def nuP (p:Int) (n:Nat) (b:Rows):Nat→Rows
 | 0=>[]
 | j+1=>if isL b j then nuP p n b j else nuP p n b j++[nvL p n b j b.length]
theorem bM {p:Int}{n:Nat}{b:Rows} (hp:2≤p):∀ j,okM p n (nuP p n b j)∧(nuP p n b j).length≤j
 | 0=>⟨(fun r hr=>nomatch hr),Nat.le_refl _⟩
 | j+1=>by
  obtain ⟨h1,h2⟩:=bM (n:=n) (b:=b) hp j
  unfold nuP
  split
  · exact ⟨h1,by omega⟩
  ·
   refine ⟨okM_app h1 (fun r hr=>?_),by rw [List.length_append];show _+1≤_;omega⟩
   rw [List.mem_singleton.1 hr];exact zO hp _
theorem bY {p:Int}{n:Nat}{b:Rows}{v:List Int}:∀ k,v∈nuP p n b k→∃ j,j<k∧isL b j=false∧v=nvL p n b j b.length
 | 0,h=>nomatch h
 | k+1,h=>by
  unfold nuP at h
  split at h
  · obtain ⟨j,h1,h2⟩:=bY k h;exact ⟨j,by omega,h2⟩
  ·
   rename_i hn
   rcases List.mem_append.1 h with h | h
   · obtain ⟨j,h1,h2⟩:=bY k h;exact ⟨j,by omega,h2⟩
   · exact ⟨k,by omega,by cases hk:isL b k with | false=>rfl | true=>exact absurd hk hn,List.mem_singleton.1 h⟩
theorem Ch_ {p:Int}{n:Nat}{b:Rows} (x:Nat→Int):∀ k,∃ X:Nat→Int,∀ c,sg (nuP p n b k).length (fun i=>X i*el (gr (nuP p n b k) i) c)=sg k (fun j=>if isL b j=true then 0 else x j*el (nvL p n b j b.length) c)
 | 0=>⟨fun _=>0,fun c=>rfl⟩
 | k+1=>by
  obtain ⟨X,hX⟩:=Ch_ (p:=p) (n:=n) (b:=b) x k
  unfold nuP
  split
  ·
   rename_i h
   refine ⟨X,fun c=>?_⟩
   show _=sg k _+(if isL b k=true then 0 else _)
   rw [if_pos h,hX c];omega
  ·
   rename_i h
   refine ⟨fun i=>if i<(nuP p n b k).length then X i else x k,fun c=>?_⟩
   rw [List.length_append,show [nvL p n b k b.length].length=1 from rfl,wO]
   show _=sg k _+(if isL b k=true then 0 else _)
   rw [if_neg h,← hX c]
   congr 1
   · exact zC fun i hi=>by dsimp only;rw [if_pos hi,gr_app1 hi]
   ·
    show 0+_=_
    dsimp only
    rw [if_neg (by omega),gr_app2,Int.zero_add]
    rfl
def lE (p:Int) (n:Nat) (m:Rows):Rows:=eC p n (nuP p n (eC p n m) n)
theorem dK {p:Int}{n:Nat}{m:Rows} (hf:fdB p=true):Red p n (lE p n m):=vF hf (bM (aC hf).1 n).1
theorem zI {p:Int}{n:Nat}{m:Rows} (hf:fdB p=true) (h:okM p n m) (x:List Int):pD p n (lE p n m) x↔tC p n m x:=by
 have hp:=aC hf
 have hb:=vF hf h
 have hs:=tI hf h
 have hn:=tI hf (bM (n:=n) (b:=eC p n m) hp.1 n).1
 unfold lE
 generalize eC p n m=b at hb hs hn ⊢
 constructor
 ·
  intro hx
  refine tR ?_ hs.2
  intro i hi
  refine cS (m:=nuP p n b n) (fun c=>el (gr b i) c) (fun k hk=>?_) (fL hn.1 hx)
  obtain ⟨j,hj,hl,e⟩:=bY n (nK hk)
  have hnl:∀ t,t<b.length→leadN (gr b t)≠j:=fun t ht he=>by
   have:=isL_iff.2 ⟨t,ht,he⟩
   rw [this] at hl;cases hl
  rw [e,Bo_ (hb.lt i hi),rG (i0:=j) hj (fun c hc hne=>by
   by_cases h1:c=leadN (gr b i)
   · rw [if_pos h1]
   ·
    rw [if_neg h1]
    by_cases h2:isL b c=true
    ·
     obtain ⟨t,ht,h3⟩:=isL_iff.1 h2
     rw [←h3,hb.zero t i ht hi (fun h4=>h1 (by rw [←h3,h4])),Int.zero_mul]
    · rw [eO hp.1 hb.lt hj b.length (Nat.le_refl _) (fun t ht he=>h2 (isL_iff.2 ⟨t,ht,he⟩)),if_neg (fun h4=>hne h4.symm),Int.mul_zero])]
  rw [if_neg (fun h1=>hnl i hi h1.symm),eO hp.1 hb.lt hj b.length (Nat.le_refl _) hnl,if_pos rfl,hb.one i hi,aY hp.1 hb hi b.length (Nat.le_refl _) hi,Int.mul_one,Int.one_mul,Int.add_emod,mod_mod,← Int.add_emod,show el (gr b i) j+(p-el (gr b i) j)=p by omega]
  exact Int.emod_self
 ·
  intro hx
  have hx':tC p n b x:=tR hx hs.1
  refine fL hn.2 ?_
  obtain ⟨X,hX⟩:=Ch_ (p:=p) (n:=n) (b:=b) (fun j=>el x j) n
  refine ⟨X,fun c hc=>?_⟩
  rw [hX c]
  by_cases h2:isL b c=true
  ·
   obtain ⟨t,ht,h3⟩:=isL_iff.1 h2
   have h4:=hx' t ht
   rw [Bo_ (hb.lt t ht),hb.one t ht,Int.one_mul] at h4
   rw [←h3]
   have e1:sg n (fun j=>if isL b j=true then 0 else el x j*el (nvL p n b j b.length) (leadN (gr b t))) % p=sg n (fun j=>- (if j=leadN (gr b t) then 0 else el (gr b t) j*el x j)) % p:=by
    refine aI fun j hj=>?_
    by_cases h5:isL b j=true
    ·
     rw [if_pos h5]
     by_cases h6:j=leadN (gr b t)
     · rw [if_pos h6];rfl
     ·
      obtain ⟨t',ht',h7⟩:=isL_iff.1 h5
      rw [if_neg h6,← h7,hb.zero t' t ht' ht (fun h8=>h6 (by rw [←h7,h8])),Int.zero_mul];rfl
    ·
     have h6:j≠leadN (gr b t):=fun h7=>h5 (isL_iff.2 ⟨t,ht,h7.symm⟩)
     rw [if_neg h5,if_neg h6,aY hp.1 hb ht b.length (Nat.le_refl _) ht,mul_mod2]
     refine vW ?_
     rw [show el x j*(p-el (gr b t) j) - -(el (gr b t) j*el x j)=el x j*p from by rw [Int.mul_sub,Int.mul_comm (el (gr b t) j)];omega]
     exact Int.mul_emod_left _ _
   rw [e1,CN_]
   refine vW ?_
   rw [Int.sub_neg,Int.add_comm]
   exact h4
  ·
   rw [rG (i0:=c) hc (fun j hj hne=>by
    by_cases h3:isL b j=true
    · rw [if_pos h3]
    · rw [if_neg h3,eO hp.1 hb.lt hj b.length (Nat.le_refl _) (fun t ht he=>h2 (isL_iff.2 ⟨t,ht,he⟩)),if_neg hne,Int.mul_zero]),if_neg h2,eO hp.1 hb.lt hc b.length (Nat.le_refl _) (fun t ht he=>h2 (isL_iff.2 ⟨t,ht,he⟩)),if_pos rfl,Int.mul_one]
end Go.Proofs.YtngbmcbigcaapaaGreatDoor
namespace Go.Proofs.YtngbmcbigcaapaaGreatDoor
set_option linter.unusedVariables false
theorem F9_ (p:Int) (n:Nat) (b:Rows) (j:Nat):nuP p n b (j+1)=if isL b j then nuP p n b j else nuP p n b j++[nvL p n b j b.length]:=rfl
theorem spNull_ {p:Int}{n:Nat}{m:Rows} (hf:fdB p=true) (hn:n≤1048576) (h:okM p n m) (hL:m.length≤1048576):bW p (n:Int) m=some (lE p n m):=by
 have hm:aB=1099511627776:=rfl
 have hp:=aC hf
 have hb:=vF hf h
 have hbl:=(wX (n:=n) hp.1 h).2.2
 refine bnd (bX hf (Nat.le_refl n) hn h hL) ?_
 unfold lE
 generalize eC p n m=b at hb hbl ⊢
 refine bnd (wF 0 (by omega)) ?_
 have hlen:(List.replicate n (0:Int)).length=n:=List.length_replicate
 refine bnd (a:=ldL n b 0) ((kC (fun j=>part (fun _ _=>-1) (List.replicate n 0) j) ?_).trans (by rw [eP];rfl)) ?_
 ·
  intro j hj
  refine bnd (nC _ (by rw [dO];exact hj)) ?_
  exact congrArg some (cO (fun _ _=>-1) (List.replicate n 0) hj)
 refine bnd (kC (fun i=>ldL n b i) ?_) ?_
 ·
  intro i hi
  have hw:=(zB hb.ok hi).1
  exact bnd (xC hi) (bnd (Ca_ (by omega)) (bnd (nC _ (by rw [qS];exact hb.lt i hi)) rfl))
 refine bnd (sN (fun j=>(nuP p n b j,(j:Int))) (t:=nuP p n b n) n ?_ ?_) ?_
 ·
  intro j hj
  dsimp only
  refine stp (cTW (dT (by omega)) (bnd (a:=nuP p n b (j+1)) ?_ (bnd (bC (by omega) (by omega)) rfl)))
  refine bnd (iD (by rw [qS];exact hj)) (stp ?_)
  have h1:=CS_ hb.lt hj b.length (Nat.le_refl _)
  rw [←isL_iff] at h1
  rw [F9_]
  by_cases h2:isL b j=true
  · rw [if_pos h2];exact cTW (dT (h1.2 h2)) rfl
  ·
   rw [if_neg h2]
   refine cFW (dF (fun h3=>h2 (h1.1 h3))) (bnd (wF 0 (by omega)) (bnd (nC _ (by rw [hlen];exact hj)) (bnd (kC (fun i=>nvL p n b j i) ?_) (bnd (yB (by have:=(bM (n:=n) (b:=b) hp.1 j).2;show _+1≤_;omega)) rfl))))
   intro i hi
   have hw:=(zB hb.ok hi).1
   exact bnd (xC hi) (bnd (xC hi) (bnd (iD (by omega)) (bnd (Ca_ (by omega)) (bnd (CV_ hp (fH hb.ok hi hj)) (bnd (nC _ (by rw [(zO hp.1 i).1];exact hb.lt i hi)) rfl)))))
 ·
  dsimp only
  exact stp (cFW (dF (by omega)) rfl)
 exact bnd (bX hf (Nat.le_refl n) hn (bM hp.1 n).1 (by have:=(bM (n:=n) (b:=b) hp.1 n).2;omega)) rfl
def sF (m:Rows) (j:Nat):List Int:=m.map fun r=>el r j
def trM (m:Rows) (cols:Nat):Rows:=(List.replicate cols ([]:List Int)).mapIdx fun j _=>sF m j
theorem qL (m:Rows) (cols:Nat):(trM m cols).length=cols:=by simp [trM]
theorem CJ_ {m:Rows}{cols j:Nat} (hj:j<cols):gr (trM m cols) j=sF m j:=by
 unfold trM gr
 rw [List.getD_eq_getElem?_getD,List.getElem?_mapIdx,List.getElem?_replicate,if_pos hj]
 rfl
theorem colM_el {m:Rows}{i j:Nat} (hi:i<m.length):el (sF m j) i=el (gr m i) j:=by
 have h1:=fI (r:=sF m j) (c:=i) (by simp [sF];exact hi)
 unfold sF at h1
 rw [List.getElem?_map,iE hi] at h1
 exact (Option.some.inj h1).symm
theorem trM_ok {p:Int}{w cols:Nat}{m:Rows} (h:okM p w m) (hc:cols≤w):okM p m.length (trM m cols):=by
 intro r hr
 obtain ⟨j,hj,rfl⟩:=List.mem_iff_getElem.1 hr
 rw [qL] at hj
 have e:(trM m cols)[j]=sF m j:=by
  rw [←CJ_ hj]
  have:=iE (m:=trM m cols) (i:=j) (by rw [qL];exact hj)
  rw [List.getElem?_eq_getElem (by rw [qL];exact hj)] at this;exact Option.some.inj this
 rw [e]
 refine ⟨by simp [sF],fun x hx=>?_⟩
 obtain ⟨r,hr,rfl⟩:=List.mem_map.1 hx
 have h1:=h r hr
 exact h1.2 _ (uE (by omega))
section
variable {p:Int}{n o:Nat}{A C:Rows}
end
section
variable {p:Int}{n:Nat}{A B:Rows}
end
section
variable {p:Int}{n o:Nat}{A C:Rows}
end
theorem iK {p:Int}{n:Nat}{b:Rows} (hf:fdB p=true) (h:Red p n b):b.length≤n:=by
 have:=(wX (n:=n) (aC hf).1 h.ok).2.2
 rw [Fu_ hf h] at this;exact this
end Go.Proofs.YtngbmcbigcaapaaGreatDoor
namespace Go.Proofs.YtngbmcbigcaapaaGreatDoor
theorem first_ {l:Nat}{R:Rel}{row:List Int} (h1:R.1=(l:Int)) (hl:l≤row.length):kU R row=some (row.take l):=by
 refine bnd (a:=row.take l) ?_ rfl
 unfold gC
 rw [if_pos ⟨by omega,by omega,by omega⟩,h1];simp
theorem second_ {l:Nat}{R:Rel}{row:List Int} (h1:R.1=(l:Int)) (hl:l≤row.length):gU R row=some (row.drop l):=by
 refine bnd (a:=row.drop l) ?_ rfl
 unfold gC
 rw [if_pos ⟨by omega,by omega,by omega⟩,h1]
 simp only [Int.toNat_natCast]
 rw [List.take_of_length_le (by simp)]
end Go.Proofs.YtngbmcbigcaapaaGreatDoor
namespace Go.Proofs.YtngbmcbigcaapaaGreatDoor
theorem el_app2 (a b:List Int) (q:Nat):el (a++b) q=if q<a.length then el a q else el b (q-a.length):=by
 unfold el
 rw [List.getD_eq_getElem?_getD]
 split
 · rw [List.getElem?_append_left ‹_›,List.getD_eq_getElem?_getD]
 · rw [List.getElem?_append_right (by omega),List.getD_eq_getElem?_getD]
theorem Gn_ {a:List Int}{k q:Nat} (h:q<k):el (a.take k) q=el a q:=by
 unfold el
 rw [List.getD_eq_getElem?_getD,List.getD_eq_getElem?_getD,List.getElem?_take,if_pos h]
theorem el_drop2 (a:List Int) (k q:Nat):el (a.drop k) q=el a (k+q):=by
 unfold el
 rw [List.getD_eq_getElem?_getD,List.getD_eq_getElem?_getD,List.getElem?_drop]
theorem el_setP {z:List Int}{i j:Nat}{v:Int} (h:i<z.length):el (z.set i v) j=if i=j then v else el z j:=by
 unfold el
 rw [List.getD_eq_getElem?_getD,List.getD_eq_getElem?_getD,List.getElem?_set]
 by_cases e:i=j
 · subst e;simp [h]
 · rw [if_neg e,if_neg e]
end Go.Proofs.YtngbmcbigcaapaaGreatDoor
namespace Go.Proofs.YtngbmcbigcaapaaGreatDoor
end Go.Proofs.YtngbmcbigcaapaaGreatDoor
namespace Go.Proofs.YtngbmcbigcaapaaGreatDoor
instance:Nice ByteArray:=⟨fun s=>(s.size:Int)≤9223372036854775807⟩
end Go.Proofs.YtngbmcbigcaapaaGreatDoor
namespace Go.Proofs.YtngbmcbigcaapaaGreatDoor
abbrev Nod:=Int×Int×ByteArray
def lfB (n:Nod):Bool:=decide (n.2.2=.empty)&&(rng n.1 1 14&&(if n.1=1 then rng n.2.1 0 12 else if n.1=7∨n.1=13 then rng n.2.1 0 96 else decide (n.2.1=0)))
end Go.Proofs.YtngbmcbigcaapaaGreatDoor
namespace Go.Proofs.YtngbmcbigcaapaaGreatDoor
theorem lfB_k {n:Nod} (h:lfB n=true):1≤n.1∧n.1≤14:=by
 unfold lfB at h;simp only [Bool.and_eq_true] at h
 exact rng_true.1 h.2.1
theorem cT (k:Int):∃ a b:Nat,kd k=((a:Int),(b:Int))∧a≤2∧b≤2:=by
 have h:=kd_le k
 refine ⟨(kd k).1.toNat,(kd k).2.toNat,Prod.ext (by dsimp only;omega) (by dsimp only;omega),by omega,by omega⟩
end Go.Proofs.YtngbmcbigcaapaaGreatDoor
namespace Go.Proofs.YtngbmcbigcaapaaGreatDoor
def selR (ends:List Nat) (v:List Int):List Int:=ends.map fun q=>el v q
theorem cP {ends:List Nat}{v:List Int}{j:Nat} (h:j<ends.length):el (selR ends v) j=el v (ends.getD j 0):=by
 unfold selR el
 rw [List.getD_eq_getElem?_getD,List.getElem?_map,List.getElem?_eq_getElem h,List.getD_eq_getElem?_getD (l:=ends),List.getElem?_eq_getElem h]
 rfl
theorem wY {f:List Int→List Int}{m:Rows}{i:Nat} (h:i<m.length):gr (m.map f) i=f (gr m i):=by
 unfold gr
 rw [List.getD_eq_getElem?_getD,List.getD_eq_getElem?_getD,List.getElem?_map,List.getElem?_eq_getElem h];rfl
theorem Bm_ {p:Int}{W:Nat}{V:Rows}{ends:List Nat} (hlt:∀ q∈ends,q<W){x y:List Int} (hx:pD p W V x) (hy:∀ j,j<ends.length→el y j % p=el x (ends.getD j 0) % p):pD p ends.length (V.map (selR ends)) y:=by
 obtain ⟨c,hc⟩:=hx
 refine ⟨c,fun j hj=>?_⟩
 have hm:ends.getD j 0<W:=by
  rw [List.getD_eq_getElem?_getD,List.getElem?_eq_getElem hj]
  exact hlt _ (List.getElem_mem hj)
 rw [hy j hj,hc _ hm,List.length_map]
 congr 1
 exact zC fun i hi=>by rw [wY hi,cP hj]
theorem bT {p:Int}{W:Nat}{V:Rows}{ends:List Nat} (hlt:∀ q∈ends,q<W) (h:okM p W V):okM p ends.length (V.map (selR ends)):=by
 intro r hr
 obtain ⟨v,hv,rfl⟩:=List.mem_map.1 hr
 obtain ⟨h1,h2⟩:=h v hv
 refine ⟨by simp [selR],fun x hx=>?_⟩
 obtain ⟨q,hq,rfl⟩:=List.mem_map.1 hx
 exact h2 _ (uE (by rw [h1];exact hlt q hq))
def fP (p k v:Int):Rows:=
 if k=3 then [[p-1,1,0],[p-1,0,1]] else if k=5 then [[p-1,p-1,1]] else if k=6 then [[1]] else if k=7 then [[(p-v) % p,1]] else
 if k=9 then [[1,0,p-1],[0,1,p-1]] else if k=11 then [[1,p-1,p-1]] else if k=12 then [[1]] else if k=13 then [[1,(p-v) % p]] else []
def xH (k v:Int):Rows:=
 if k=3 then [[1,1,1]] else if k=4 then [[1]] else if k=5 then [[1,0,1],[0,1,1]] else if k=7 then [[1,v]] else
 if k=9 then [[1,1,1]] else if k=10 then [[1]] else if k=11 then [[1,1,0],[1,0,1]] else if k=13 then [[v,1]] else []
theorem CU_ {ends:List Nat}{v:List Int}{W:Nat} (hv:v.length=W) (hlt:∀ q∈ends,q<W) (hl:ends.length≤1000):sH (ends.map fun q:Nat=>(q:Int)) v=some (selR ends v):=by
 have hm:aB=1099511627776:=rfl
 have loop:=mG (f:=fun (k3:Nat) (s58:List Int)=>
   (idxO (ends.map fun q:Nat=>(q:Int)) ((k3:Nat):Int)).bind fun a75=>
   (idxO v a75).bind fun a83=>
   (xA s58 [a83]).bind fun a88=>
   some a88) (fun a:Int=>el v a.toNat) (ends.map fun q:Nat=>(q:Int)) [] (by simp;omega) (fun j a s hj hs=>by
  have hjl:=(List.getElem?_eq_some_iff.1 hj).1
  rw [List.length_map] at hjl
  rw [List.getElem?_map,List.getElem?_eq_getElem hjl] at hj
  obtain rfl:=Option.some.inj hj
  have hq:=hlt _ (List.getElem_mem hjl)
  refine bnd (pA (by rw [List.getElem?_map,List.getElem?_eq_getElem hjl];rfl)) (bnd (iD (by omega)) (bnd (yB (by simp at hs ⊢;omega)) ?_))
  rw [Int.toNat_natCast])
 refine bnd loop (congrArg some ?_)
 rw [List.nil_append,List.map_map]
 unfold selR
 exact List.map_congr_left fun q _=>by show el v ((q:Int)).toNat=_;rw [Int.toNat_natCast]
theorem AW_ (k:Int):tP k=some (decide (k≠8∧k≠14)):=by
 unfold tP
 by_cases h1:k=8
 · simp [h1]
 · by_cases h2:k=14 <;> simp [h1,h2]
theorem asked_ {p:Int}{g:Gra} (hf:fdB p=true) (hg:gOk g=true) (he:∀ e∈g.2.1,e.2.1<p∧e.1≠8∧e.1≠14):xP p g=some true:=by
 have h1:fN p g=some true:=by
  refine bnd (a:=false) (bnd (eT p) (stp (by rw [hf];exact cFW rfl (bnd (jO g) (stp (by rw [hg];rfl)))))) (cFW rfl (sqW (fG (fun e:Edg=>decide (¬p≤e.2.1)) g.2.1 0 (t:=false) (fun j e hj=>?_)) ?_))
  ·
   rw [Nat.zero_add]
   have:=(he e (dE hj)).1
   refine bnd (pA hj) (stp (cFW (dF (by omega)) ?_))
   rw [show decide (¬p≤e.2.1)=true from dT (by omega)];rfl
  · rw [List.all_eq_true.2 fun e h=>dT (by have:=(he e h).1;omega)];rfl
 refine bnd h1 (stp (cFW rfl (sqW (fG (fun e:Edg=>decide (e.1≠8∧e.1≠14)) g.2.1 0 (t:=false) (fun j e hj=>?_)) ?_)))
 ·
  rw [Nat.zero_add]
  have:=(he e (dE hj)).2
  refine bnd (pA hj) (bnd (AW_ e.1) (stp ?_))
  rw [dT this];rfl
 · rw [List.all_eq_true.2 fun e h=>dT (he e h).2];rfl
theorem Go_ {p:Int}{W a b:Nat}{E:List Edg}{I O:List Int}{ends:List Nat}{eqs:Rows} (hf:fdB p=true) (hg:gOk ((W:Int),E,I,O)=true) (he:∀ e∈E,e.2.1<p∧e.1≠8∧e.1≠14)
  (hI:I.length=a) (hO:O.length=b) (hends:I++O=ends.map fun q:Nat=>(q:Int)) (hlt:∀ q∈ends,q<W) (hq:okM p W eqs) (hql:eqs.length≤1000)
  (hrows:jA (fun (k7:Nat) (s70:List (List Int))=>
   (idxO E ((k7:Nat):Int)).bind fun a87=>
   (oE p (W:Int) (a87.1,a87.2.1,a87.2.2.1,a87.2.2.2)).bind fun y99=>
   (xA s70 y99).bind fun a104=>
   some a104) E.length 0 []=some eqs):cN p ((W:Int),E,I,O)=some (((a:Int),(b:Int),eC p (a+b) ((lE p W eqs).map (selR ends))),true):=by
 have hm:aB=1099511627776:=rfl
 obtain ⟨n,hgk⟩:=vN hg
 have hW:W≤100:=by have:=hgk.w;have:=hgk.n100;dsimp only at *;omega
 have hi12:=hgk.i12;have ho12:=hgk.o12
 dsimp only at hi12 ho12
 have hel:ends.length=a+b:=by
  have:=congrArg List.length hends
  rw [List.length_append,List.length_map] at this;omega
 have hN:=dK (n:=W) (m:=eqs) hf
 have hNl:=iK hf hN
 have hV:rV p ((W:Int),E,I,O)=some (lE p W eqs):=bnd hrows (bnd (spNull_ hf (by omega) hq (by omega)) rfl)
 have hsel:=mG (f:=fun (k32:Nat) (s111:List (List Int))=>
    (idxO (lE p W eqs) ((k32:Nat):Int)).bind fun a128=>
    (sH (I++O) a128).bind fun y132=>
    (xA s111 [y132]).bind fun a140=>
    some a140) (selR ends) (lE p W eqs) [] (by simp;omega) (fun j v s hj hs=>by
  have hv:=(hN.ok v (dE hj)).1
  have hjl:=(List.getElem?_eq_some_iff.1 hj).1
  have:=CU_ hv hlt (by omega)
  rw [←hends] at this
  exact bnd (pA hj) (bnd this (bnd (yB (by simp at hs ⊢;omega)) rfl)))
 have hok:=bT hlt hN.ok
 rw [hel] at hok
 have hred:=bX hf (Nat.le_refl (a+b)) (by omega) hok (by simp;omega)
 refine bnd (asked_ hf hg he) (stp (cFW rfl (bnd (own_ (by dsimp only;omega)) (bnd (yB (by dsimp only;omega)) (bnd hV (bnd hsel ?_))))))
 refine bnd (a:=((a:Int),(b:Int),eC p (a+b) ((lE p W eqs).map (selR ends)))) ?_ rfl
 dsimp only
 rw [hI,hO]
 refine bnd (a:=((a+b:Nat):Int)) (by rw [bC (by omega) (by omega)];congr 1) (bnd ?_ rfl)
 exact hred
end Go.Proofs.YtngbmcbigcaapaaGreatDoor
namespace Go.Proofs.YtngbmcbigcaapaaGreatDoor
theorem sg1 (f:Nat→Int):sg 1 f=f 0:=by simp [sg]
theorem sg2 (f:Nat→Int):sg 2 f=f 0+f 1:=by simp [sg]
theorem sg3 (f:Nat→Int):sg 3 f=f 0+f 1+f 2:=by simp [sg]
theorem cgr {p c d x y:Int} (h:(c+d) % p=0):(c*x+y) % p=0↔y % p=(d*x) % p:=by
 have e:c*x+y=(c+d)*x+(y-d*x):=by rw [Int.add_mul];omega
 rw [e,Int.add_emod,Int.mul_emod,h,Int.zero_mul,Int.zero_emod,Int.zero_add,Int.emod_emod_of_dvd _ (Int.dvd_refl p)]
 exact (Int.emod_eq_emod_iff_emod_sub_eq_zero).symm
theorem cg1 {p:Int}:(p-1+1) % p=0:=by rw [Int.sub_add_cancel,Int.emod_self]
theorem cgv {p v:Int}:((p-v) % p+v) % p=0:=by rw [eS,Int.sub_add_cancel,Int.emod_self]
structure Mate (p:Int) (N:Nat) (E G:Rows):Prop where
 e:okM p N E
 el:E.length≤1000
 g:okM p N G
 gl:G.length≤1000
 f1:∀ v:List Int,tC p N E v→∃ c:Nat→Int,∀ j,j<N→Go.Proofs.YtngbmcbigcaapaaGreatDoor.el v j % p=sg G.length (fun i=>c i*Go.Proofs.YtngbmcbigcaapaaGreatDoor.el (gr G i) j) % p
 f2:∀ i,i<G.length→tC p N E (gr G i)
theorem qD {p:Int}{n:Nat}{r:List Int} (h:r.length=n) (h2:inP p r):okM p n [r]:=fun x hx=>by
 rw [List.mem_singleton.1 hx];exact ⟨h,h2⟩
theorem okM2 {p:Int}{n:Nat}{r s:List Int} (h:okM p n [r]) (h2:okM p n [s]):okM p n [r,s]:=fun x hx=>by
 rcases List.mem_cons.1 hx with rfl | hx
 · exact h x (by simp)
 · exact h2 x hx
theorem j1 {P:Nat→Prop} (h0:P 0):∀ j,j<1→P j:=fun j hj=>by
 obtain rfl:j=0:=by omega
 exact h0
theorem j2 {P:Nat→Prop} (h0:P 0) (h1:P 1):∀ j,j<2→P j:=fun j hj=>by
 match j,hj with
 | 0,_=>exact h0
 | 1,_=>exact h1
theorem j3 {P:Nat→Prop} (h0:P 0) (h1:P 1) (h2:P 2):∀ j,j<3→P j:=fun j hj=>by
 match j,hj with
 | 0,_=>exact h0
 | 1,_=>exact h1
 | 2,_=>exact h2
theorem lD {p a:Int} (h:0≤a∧a<p):inP p [a]:=fun x hx=>by rw [List.mem_singleton.1 hx];exact h
theorem mC {p a:Int}{l:List Int} (h:0≤a∧a<p) (hl:inP p l):inP p (a::l):=fun x hx=>by
 rcases List.mem_cons.1 hx with rfl | hx
 · exact h
 · exact hl x hx
section
variable {p v:Int} (hp:2≤p∧p≤97) (hv:0≤v∧v<p)
include hp
theorem mate3:Mate p 3 [[p-1,1,0],[p-1,0,1]] [[1,1,1]]:=by
 have b0:(0:Int)≤0∧(0:Int)<p:=⟨by omega,by omega⟩
 have b1:(0:Int)≤1∧(1:Int)<p:=⟨by omega,by omega⟩
 have bp:(0:Int)≤p-1∧p-1<p:=⟨by omega,by omega⟩
 refine ⟨okM2 (qD rfl (mC bp (mC b1 (lD b0)))) (qD rfl (mC bp (mC b0 (lD b1)))),by simp,qD rfl (mC b1 (mC b1 (lD b1))),by simp,fun x hx=>⟨fun _=>el x 0,?_⟩,j1 (j2 ?_ ?_)⟩
 ·
  have h0:((p-1)*el x 0+el x 1) % p=0:=by
   have:=hx 0 (by simp)
   rw [sg3] at this
   have h:((p-1)*el x 0+1*el x 1+0*el x 2) % p=0:=this
   rwa [Int.one_mul,Int.zero_mul,Int.add_zero] at h
  have h1:((p-1)*el x 0+el x 2) % p=0:=by
   have:=hx 1 (by simp)
   rw [sg3] at this
   have h:((p-1)*el x 0+0*el x 1+1*el x 2) % p=0:=this
   rwa [Int.one_mul,Int.zero_mul,Int.add_zero] at h
  have k0:=(cgr cg1).1 h0
  have k1:=(cgr cg1).1 h1
  rw [Int.one_mul] at k0 k1
  refine j3 ?_ ?_ ?_
  ·
   show _=sg 1 _ % p
   rw [sg1]
   show el x 0 % p=(el x 0*1) % p
   rw [Int.mul_one]
  ·
   show _=sg 1 _ % p
   rw [sg1]
   show el x 1 % p=(el x 0*1) % p
   rw [Int.mul_one,k0]
  ·
   show _=sg 1 _ % p
   rw [sg1]
   show el x 2 % p=(el x 0*1) % p
   rw [Int.mul_one,k1]
 ·
  rw [sg3]
  show ((p-1)*1+1*1+0*1) % p=0
  rw [show ((p-1)*1+1*1+0*1:Int)=p by omega,Int.emod_self]
 ·
  rw [sg3]
  show ((p-1)*1+0*1+1*1) % p=0
  rw [show ((p-1)*1+0*1+1*1:Int)=p by omega,Int.emod_self]
theorem mate4:Mate p 1 ([]:Rows) ([[1]]:Rows):=by
 have b0:(0:Int)≤0∧(0:Int)<p:=⟨by omega,by omega⟩
 have b1:(0:Int)≤1∧(1:Int)<p:=⟨by omega,by omega⟩
 have bp:(0:Int)≤p-1∧p-1<p:=⟨by omega,by omega⟩
 refine ⟨(fun x hx=>by cases hx),by simp,(qD rfl (lD b1)),by simp,fun x hx=>⟨fun _=>el x 0,?_⟩,?_⟩
 ·
  refine j1 ?_
  ·
   show _=sg 1 _ % p
   rw [sg1]
   show el x 0 % p=(el x 0*1) % p
   first | (simp;done) | (simp only [Int.mul_one,Int.mul_zero,Int.add_zero,Int.zero_add];assumption)
 · intro i hi k hk;simp at hk
theorem mate6:Mate p 1 ([[1]]:Rows) ([]:Rows):=by
 have b0:(0:Int)≤0∧(0:Int)<p:=⟨by omega,by omega⟩
 have b1:(0:Int)≤1∧(1:Int)<p:=⟨by omega,by omega⟩
 have bp:(0:Int)≤p-1∧p-1<p:=⟨by omega,by omega⟩
 refine ⟨(qD rfl (lD b1)),by simp,(fun x hx=>by cases hx),by simp,fun x hx=>⟨fun _=>0,?_⟩,?_⟩
 ·
  have q0:(1*el x 0) % p=0:=by
   have:=hx 0 (by simp)
   rw [sg1] at this
   exact this
  have k0:el x 0 % p=0:=by rwa [Int.one_mul] at q0
  refine j1 ?_
  ·
   show el x 0 % p=(0:Int) % p
   rw [k0,Int.zero_emod]
 · intro i hi;simp at hi
theorem mate5:Mate p 3 ([[p-1,p-1,1]]:Rows) ([[1,0,1],[0,1,1]]:Rows):=by
 have b0:(0:Int)≤0∧(0:Int)<p:=⟨by omega,by omega⟩
 have b1:(0:Int)≤1∧(1:Int)<p:=⟨by omega,by omega⟩
 have bp:(0:Int)≤p-1∧p-1<p:=⟨by omega,by omega⟩
 refine ⟨(qD rfl (mC bp (mC bp (lD b1)))),by simp,(okM2 (qD rfl (mC b1 (mC b0 (lD b1)))) (qD rfl (mC b0 (mC b1 (lD b1))))),by simp,fun x hx=>⟨fun i=>el x i,?_⟩,?_⟩
 ·
  have q0:((p-1)*el x 0+(p-1)*el x 1+1*el x 2) % p=0:=by
   have:=hx 0 (by simp)
   rw [sg3] at this
   exact this
  have k0:el x 2 % p=(el x 0+el x 1) % p:=by
   have:=(cgr (x:=el x 0+el x 1) (y:=el x 2) cg1).1 (by rw [←q0];congr 1;rw [Int.mul_add];omega)
   rwa [Int.one_mul] at this
  refine j3 ?_ ?_ ?_
  ·
   show _=sg 2 _ % p
   rw [sg2]
   show el x 0 % p=(el x 0*1+el x 1*0) % p
   first | (simp;done) | (simp only [Int.mul_one,Int.mul_zero,Int.add_zero,Int.zero_add];assumption)
  ·
   show _=sg 2 _ % p
   rw [sg2]
   show el x 1 % p=(el x 0*0+el x 1*1) % p
   first | (simp;done) | (simp only [Int.mul_one,Int.mul_zero,Int.add_zero,Int.zero_add];assumption)
  ·
   show _=sg 2 _ % p
   rw [sg2]
   show el x 2 % p=(el x 0*1+el x 1*1) % p
   first | (simp;done) | (simp only [Int.mul_one,Int.mul_zero,Int.add_zero,Int.zero_add];assumption)
 ·
  refine j2 ?_ ?_
  ·
   refine j1 ?_
   ·
    rw [sg3]
    show ((p-1)*1+(p-1)*0+1*1) % p=0
    first | (rw [show ((p-1)*1+(p-1)*0+1*1:Int)=p by omega,Int.emod_self]) | (rw [show ((p-1)*0+(p-1)*1+1*1:Int)=p by omega,Int.emod_self]) | (rw [show (1*1+0*1+(p-1)*1:Int)=p by omega,Int.emod_self]) | (rw [show (0*1+1*1+(p-1)*1:Int)=p by omega,Int.emod_self]) | (rw [show (1*1+(p-1)*1+(p-1)*0:Int)=p by omega,Int.emod_self]) | (rw [show (1*1+(p-1)*0+(p-1)*1:Int)=p by omega,Int.emod_self])
  ·
   refine j1 ?_
   ·
    rw [sg3]
    show ((p-1)*0+(p-1)*1+1*1) % p=0
    first | (rw [show ((p-1)*1+(p-1)*0+1*1:Int)=p by omega,Int.emod_self]) | (rw [show ((p-1)*0+(p-1)*1+1*1:Int)=p by omega,Int.emod_self]) | (rw [show (1*1+0*1+(p-1)*1:Int)=p by omega,Int.emod_self]) | (rw [show (0*1+1*1+(p-1)*1:Int)=p by omega,Int.emod_self]) | (rw [show (1*1+(p-1)*1+(p-1)*0:Int)=p by omega,Int.emod_self]) | (rw [show (1*1+(p-1)*0+(p-1)*1:Int)=p by omega,Int.emod_self])
theorem mate9:Mate p 3 ([[1,0,p-1],[0,1,p-1]]:Rows) ([[1,1,1]]:Rows):=by
 have b0:(0:Int)≤0∧(0:Int)<p:=⟨by omega,by omega⟩
 have b1:(0:Int)≤1∧(1:Int)<p:=⟨by omega,by omega⟩
 have bp:(0:Int)≤p-1∧p-1<p:=⟨by omega,by omega⟩
 refine ⟨(okM2 (qD rfl (mC b1 (mC b0 (lD bp)))) (qD rfl (mC b0 (mC b1 (lD bp))))),by simp,(qD rfl (mC b1 (mC b1 (lD b1)))),by simp,fun x hx=>⟨fun _=>el x 2,?_⟩,?_⟩
 ·
  have q0:(1*el x 0+0*el x 1+(p-1)*el x 2) % p=0:=by
   have:=hx 0 (by simp)
   rw [sg3] at this
   exact this
  have q1:(0*el x 0+1*el x 1+(p-1)*el x 2) % p=0:=by
   have:=hx 1 (by simp)
   rw [sg3] at this
   exact this
  have k0:el x 0 % p=el x 2 % p:=by
   have:=(cgr (x:=el x 2) (y:=el x 0) cg1).1 (by rw [←q0];congr 1;omega)
   rwa [Int.one_mul] at this
  have k1:el x 1 % p=el x 2 % p:=by
   have:=(cgr (x:=el x 2) (y:=el x 1) cg1).1 (by rw [←q1];congr 1;omega)
   rwa [Int.one_mul] at this
  refine j3 ?_ ?_ ?_
  ·
   show _=sg 1 _ % p
   rw [sg1]
   show el x 0 % p=(el x 2*1) % p
   first | (simp;done) | (simp only [Int.mul_one,Int.mul_zero,Int.add_zero,Int.zero_add];assumption)
  ·
   show _=sg 1 _ % p
   rw [sg1]
   show el x 1 % p=(el x 2*1) % p
   first | (simp;done) | (simp only [Int.mul_one,Int.mul_zero,Int.add_zero,Int.zero_add];assumption)
  ·
   show _=sg 1 _ % p
   rw [sg1]
   show el x 2 % p=(el x 2*1) % p
   first | (simp;done) | (simp only [Int.mul_one,Int.mul_zero,Int.add_zero,Int.zero_add];assumption)
 ·
  refine j1 ?_
  ·
   refine j2 ?_ ?_
   ·
    rw [sg3]
    show (1*1+0*1+(p-1)*1) % p=0
    first | (rw [show ((p-1)*1+(p-1)*0+1*1:Int)=p by omega,Int.emod_self]) | (rw [show ((p-1)*0+(p-1)*1+1*1:Int)=p by omega,Int.emod_self]) | (rw [show (1*1+0*1+(p-1)*1:Int)=p by omega,Int.emod_self]) | (rw [show (0*1+1*1+(p-1)*1:Int)=p by omega,Int.emod_self]) | (rw [show (1*1+(p-1)*1+(p-1)*0:Int)=p by omega,Int.emod_self]) | (rw [show (1*1+(p-1)*0+(p-1)*1:Int)=p by omega,Int.emod_self])
   ·
    rw [sg3]
    show (0*1+1*1+(p-1)*1) % p=0
    first | (rw [show ((p-1)*1+(p-1)*0+1*1:Int)=p by omega,Int.emod_self]) | (rw [show ((p-1)*0+(p-1)*1+1*1:Int)=p by omega,Int.emod_self]) | (rw [show (1*1+0*1+(p-1)*1:Int)=p by omega,Int.emod_self]) | (rw [show (0*1+1*1+(p-1)*1:Int)=p by omega,Int.emod_self]) | (rw [show (1*1+(p-1)*1+(p-1)*0:Int)=p by omega,Int.emod_self]) | (rw [show (1*1+(p-1)*0+(p-1)*1:Int)=p by omega,Int.emod_self])
theorem mate11:Mate p 3 ([[1,p-1,p-1]]:Rows) ([[1,1,0],[1,0,1]]:Rows):=by
 have b0:(0:Int)≤0∧(0:Int)<p:=⟨by omega,by omega⟩
 have b1:(0:Int)≤1∧(1:Int)<p:=⟨by omega,by omega⟩
 have bp:(0:Int)≤p-1∧p-1<p:=⟨by omega,by omega⟩
 refine ⟨(qD rfl (mC b1 (mC bp (lD bp)))),by simp,(okM2 (qD rfl (mC b1 (mC b1 (lD b0)))) (qD rfl (mC b1 (mC b0 (lD b1))))),by simp,fun x hx=>⟨fun i=>el x (i+1),?_⟩,?_⟩
 ·
  have q0:(1*el x 0+(p-1)*el x 1+(p-1)*el x 2) % p=0:=by
   have:=hx 0 (by simp)
   rw [sg3] at this
   exact this
  have k0:el x 0 % p=(el x 1+el x 2) % p:=by
   have:=(cgr (x:=el x 1+el x 2) (y:=el x 0) cg1).1 (by rw [←q0];congr 1;rw [Int.mul_add];omega)
   rwa [Int.one_mul] at this
  refine j3 ?_ ?_ ?_
  ·
   show _=sg 2 _ % p
   rw [sg2]
   show el x 0 % p=(el x 1*1+el x 2*1) % p
   first | (simp;done) | (simp only [Int.mul_one,Int.mul_zero,Int.add_zero,Int.zero_add];assumption)
  ·
   show _=sg 2 _ % p
   rw [sg2]
   show el x 1 % p=(el x 1*1+el x 2*0) % p
   first | (simp;done) | (simp only [Int.mul_one,Int.mul_zero,Int.add_zero,Int.zero_add];assumption)
  ·
   show _=sg 2 _ % p
   rw [sg2]
   show el x 2 % p=(el x 1*0+el x 2*1) % p
   first | (simp;done) | (simp only [Int.mul_one,Int.mul_zero,Int.add_zero,Int.zero_add];assumption)
 ·
  refine j2 ?_ ?_
  ·
   refine j1 ?_
   ·
    rw [sg3]
    show (1*1+(p-1)*1+(p-1)*0) % p=0
    first | (rw [show ((p-1)*1+(p-1)*0+1*1:Int)=p by omega,Int.emod_self]) | (rw [show ((p-1)*0+(p-1)*1+1*1:Int)=p by omega,Int.emod_self]) | (rw [show (1*1+0*1+(p-1)*1:Int)=p by omega,Int.emod_self]) | (rw [show (0*1+1*1+(p-1)*1:Int)=p by omega,Int.emod_self]) | (rw [show (1*1+(p-1)*1+(p-1)*0:Int)=p by omega,Int.emod_self]) | (rw [show (1*1+(p-1)*0+(p-1)*1:Int)=p by omega,Int.emod_self])
  ·
   refine j1 ?_
   ·
    rw [sg3]
    show (1*1+(p-1)*0+(p-1)*1) % p=0
    first | (rw [show ((p-1)*1+(p-1)*0+1*1:Int)=p by omega,Int.emod_self]) | (rw [show ((p-1)*0+(p-1)*1+1*1:Int)=p by omega,Int.emod_self]) | (rw [show (1*1+0*1+(p-1)*1:Int)=p by omega,Int.emod_self]) | (rw [show (0*1+1*1+(p-1)*1:Int)=p by omega,Int.emod_self]) | (rw [show (1*1+(p-1)*1+(p-1)*0:Int)=p by omega,Int.emod_self]) | (rw [show (1*1+(p-1)*0+(p-1)*1:Int)=p by omega,Int.emod_self])
include hv
theorem mate7:Mate p 2 ([[(p-v) % p,1]]:Rows) ([[1,v]]:Rows):=by
 have b0:(0:Int)≤0∧(0:Int)<p:=⟨by omega,by omega⟩
 have b1:(0:Int)≤1∧(1:Int)<p:=⟨by omega,by omega⟩
 have bp:(0:Int)≤p-1∧p-1<p:=⟨by omega,by omega⟩
 have bv:(0:Int)≤(p-v) % p∧(p-v) % p<p:=kK hp.1
 refine ⟨(qD rfl (mC bv (lD b1))),by simp,(qD rfl (mC b1 (lD hv))),by simp,fun x hx=>⟨fun _=>el x 0,?_⟩,?_⟩
 ·
  have q0:(((p-v) % p)*el x 0+1*el x 1) % p=0:=by
   have:=hx 0 (by simp)
   rw [sg2] at this
   exact this
  have k0:el x 1 % p=(el x 0*v) % p:=by
   have:=(cgr (x:=el x 0) (y:=el x 1) (cgv (v:=v))).1 (by rw [←q0];congr 1;omega)
   rwa [Int.mul_comm] at this
  refine j2 ?_ ?_
  ·
   show _=sg 1 _ % p
   rw [sg1]
   show el x 0 % p=(el x 0*1) % p
   first | (simp;done) | (simp only [Int.mul_one,Int.mul_zero,Int.add_zero,Int.zero_add];assumption)
  ·
   show _=sg 1 _ % p
   rw [sg1]
   show el x 1 % p=(el x 0*v) % p
   exact k0
 ·
  refine j1 ?_
  ·
   refine j1 ?_
   ·
    rw [sg2]
    show (((p-v) % p)*1+1*v) % p=0
    rw [Int.mul_one,Int.one_mul];exact cgv
theorem mate13:Mate p 2 ([[1,(p-v) % p]]:Rows) ([[v,1]]:Rows):=by
 have b0:(0:Int)≤0∧(0:Int)<p:=⟨by omega,by omega⟩
 have b1:(0:Int)≤1∧(1:Int)<p:=⟨by omega,by omega⟩
 have bp:(0:Int)≤p-1∧p-1<p:=⟨by omega,by omega⟩
 have bv:(0:Int)≤(p-v) % p∧(p-v) % p<p:=kK hp.1
 refine ⟨(qD rfl (mC b1 (lD bv))),by simp,(qD rfl (mC hv (lD b1))),by simp,fun x hx=>⟨fun _=>el x 1,?_⟩,?_⟩
 ·
  have q0:(1*el x 0+((p-v) % p)*el x 1) % p=0:=by
   have:=hx 0 (by simp)
   rw [sg2] at this
   exact this
  have k0:el x 0 % p=(el x 1*v) % p:=by
   have:=(cgr (x:=el x 1) (y:=el x 0) (cgv (v:=v))).1 (by rw [←q0];congr 1;omega)
   rwa [Int.mul_comm] at this
  refine j2 ?_ ?_
  ·
   show _=sg 1 _ % p
   rw [sg1]
   show el x 0 % p=(el x 1*v) % p
   exact k0
  ·
   show _=sg 1 _ % p
   rw [sg1]
   show el x 1 % p=(el x 1*1) % p
   first | (simp;done) | (simp only [Int.mul_one,Int.mul_zero,Int.add_zero,Int.zero_add];assumption)
 ·
  refine j1 ?_
  ·
   refine j1 ?_
   ·
    rw [sg2]
    show (1*v+((p-v) % p)*1) % p=0
    rw [Int.mul_one,Int.one_mul,Int.add_comm];exact cgv
end
theorem vR {p k v:Int} (hp:2≤p∧p≤97) (hk:rng k 3 14=true) (h8:k≠8) (h14:k≠14) (hv:0≤v∧v<p):Mate p ((kd k).1.toNat+(kd k).2.toNat) (fP p k v) (xH k v):=by
 have:=rng_true.1 hk
 have hc:k=3∨k=4∨k=5∨k=6∨k=7∨k=9∨k=10∨k=11∨k=12∨k=13:=by omega
 rcases hc with rfl | rfl | rfl | rfl | rfl | rfl | rfl | rfl | rfl | rfl
 · exact mate3 hp
 · exact mate4 hp
 · exact mate5 hp
 · exact mate6 hp
 · exact mate7 hp hv
 · exact mate9 hp
 · exact mate4 hp
 · exact mate11 hp
 · exact mate6 hp
 · exact mate13 hp hv
theorem lfB_gen {n:Nod} (h:lfB n=true) (h1:n.1≠1) (h2:n.1≠2):rng n.1 3 14=true∧0≤n.2.1:=by
 have hk:=lfB_k h
 refine ⟨rng_true.2 (by omega),?_⟩
 unfold lfB at h
 simp only [Bool.and_eq_true] at h
 have h3:=h.2.2
 rw [if_neg h1] at h3
 split at h3
 · exact (rng_true.1 h3).1
 · have:=of_decide_eq_true h3;omega
end Go.Proofs.YtngbmcbigcaapaaGreatDoor
namespace Go.Proofs.YtngbmcbigcaapaaGreatDoor
instance (s:ByteArray) (l:List ByteArray):Decidable (s∈l):=decidable_of_iff (l.any (fun a=>decide (a=s))=true) (by simp [List.any_eq_true])
theorem rng_false {x a b:Int}:rng x a b=false↔¬(a≤x∧x≤b):=by
 rw [←rng_true];simp
theorem FM_ (k:Int):dL k=some (decide (k=7∨k=13)):=by
 unfold dL
 by_cases h1:k=7
 · simp [h1]
 · by_cases h2:k=13 <;> simp [h1,h2]
end Go.Proofs.YtngbmcbigcaapaaGreatDoor
namespace Go.Proofs.YtngbmcbigcaapaaGreatDoor
theorem fR {p:Int}{a b:Nat}{G:Rows} (hf:fdB p=true) (hN:a+b≤1000) (hG:okM p (a+b) G) (hl:G.length≤10000):qJ p (a:Int) (b:Int) G=some ((a:Int),(b:Int),eC p (a+b) G):=by
 have hred:=Br_ hf (Nat.le_refl (a+b)) (by omega) hG (by omega)
 refine bnd (a:=((a+b:Nat):Int)) (by rw [bC (by omega) (by omega)];congr 1) (bnd hred rfl)
def fF (l:Nat) (x:List Int):List Int:=x.drop l++x.take l
def swpE (l r:Nat):List Nat:=(List.range r).map (fun q=>l+q)++List.range l
theorem Bk_ (l r:Nat):(swpE l r).length=r+l:=by simp [swpE]
theorem gS {l r:Nat}:∀ q∈swpE l r,q<l+r:=by
 intro q hq
 rcases List.mem_append.1 hq with h | h
 ·
  obtain ⟨t,ht,rfl⟩:=List.mem_map.1 h
  have:=List.mem_range.1 ht;omega
 · have:=List.mem_range.1 h;omega
theorem B6_ {l r:Nat}{x:List Int} (h:x.length=l+r):fF l x=selR (swpE l r) x:=by
 refine yY (by simp [fF,selR,swpE,h]) (fun j hj=>?_)
 have hj2:j<r+l:=by simp [fF] at hj;omega
 rw [cP (by rw [Bk_];exact hj2)]
 unfold fF swpE
 have ld:(x.drop l).length=r:=by simp;omega
 rw [el_app2,ld,List.getD_eq_getElem?_getD]
 by_cases c:j<r
 · rw [if_pos c,el_drop2,List.getElem?_append_left (by simpa using c),List.getElem?_map,List.getElem?_range c];rfl
 · rw [if_neg c,Gn_ (by omega),List.getElem?_append_right (by simpa using c),List.length_map,List.length_range,List.getElem?_range (by omega)];rfl
theorem FU_ {p:Int}{l r:Nat}{B:Rows} (hf:fdB p=true) (hN:l+r≤1000) (hB:okM p (l+r) B) (hL:B.length≤1000):sV p ((l:Int),(r:Int),B)=some ((r:Int),(l:Int),eC p (r+l) (B.map (fF l))):=by
 have hm:aB=1099511627776:=rfl
 have e:zT ((l:Int),(r:Int),B) ((l:Int),(r:Int),B)=some (B.map (fF l)):=by
  refine bnd (mG (fF l) B [] (by simp;omega) (fun j x s hj hs=>?_)) rfl
  have hx:=(hB x (dE hj)).1
  have hjl:=(List.getElem?_eq_some_iff.1 hj).1
  have hjo:=fY (l:=[x.drop l,x.take l]) (by simp;omega)
  refine bnd (pA hj) (bnd (bnd (second_ (l:=l) rfl (by omega)) (bnd (first_ (l:=l) rfl (by omega)) (bnd hjo rfl))) (bnd (yB (by simp at hs ⊢;omega)) ?_))
  simp [fF]
 have hok:okM p (r+l) (B.map (fF l)):=by
  intro y hy
  obtain ⟨x,hx,rfl⟩:=List.mem_map.1 hy
  obtain ⟨h1,h2⟩:=hB x hx
  refine ⟨by simp [fF];omega,fun z hz=>?_⟩
  rcases List.mem_append.1 hz with h | h
  · exact h2 z (List.mem_of_mem_drop h)
  · exact h2 z (List.mem_of_mem_take h)
 exact bnd e (bnd (fR hf (by omega) hok (by simp;omega)) rfl)
theorem swp_red {p:Int}{l r:Nat}{G:Rows} (hf:fdB p=true) (hG:okM p (l+r) G):eC p (r+l) ((eC p (l+r) G).map (fF l))=eC p (r+l) (G.map (fF l)):=by
 have hR:=vF hf hG
 obtain ⟨s1,s2⟩:=tI hf hG
 have m1:(eC p (l+r) G).map (fF l)=(eC p (l+r) G).map (selR (swpE l r)):=List.map_congr_left fun x hx=>B6_ (hR.ok x hx).1
 have m2:G.map (fF l)=G.map (selR (swpE l r)):=List.map_congr_left fun x hx=>B6_ (hG x hx).1
 rw [m1,m2,← Bk_ l r]
 refine ES_ hf (bT gS hR.ok) (bT gS hG) (fun i hi=>?_) (fun i hi=>?_)
 ·
  rw [List.length_map] at hi
  rw [wY hi]
  exact Bm_ gS (s1 i hi) (fun j hj=>by rw [cP hj])
 ·
  rw [List.length_map] at hi
  rw [wY hi]
  exact Bm_ gS (s2 i hi) (fun j hj=>by rw [cP hj])
theorem Ae_ {k v:Int} (h:k=3∨k=4∨k=5∨k=6∨k=7):oP k v=some (xH k v):=by
 rcases h with rfl | rfl | rfl | rfl | rfl <;> rfl
theorem Az_ {k:Int} (h:9≤k∧k≤13):uP k=some (k-6):=by
 refine bnd (lF k 3 8) ?_
 rw [show rng k 3 8=false from rng_false.2 (by omega)]
 refine cFW rfl (bnd (lF k 9 14) ?_)
 rw [show rng k 9 14=true from rng_true.2 (by omega)]
 refine cTW rfl (bnd (gE (by omega) (by omega)) (bnd (bC (by omega) (by omega)) ?_))
 congr 1;omega
theorem EU_ {p:Int}{n:Nod} (hf:fdB p=true) (h:lfB n=true) (h1:n.1≠1) (h2:n.1≠2) (h8:n.1≠8) (h14:n.1≠14) (hv:n.2.1<p) :
  wM p n=some ((kd n.1).1,(kd n.1).2,eC p ((kd n.1).1.toNat+(kd n.1).2.toNat) (xH n.1 n.2.1)):=by
 have hp:=aC hf
 obtain ⟨hr,h0⟩:=lfB_gen h h1 h2
 obtain ⟨k,v,s⟩:=n
 dsimp only at *
 have hb:=rng_true.1 hr
 have hM:=vR hp hr h8 h14 ⟨h0,hv⟩
 by_cases h9:9≤k
 ·
  have hc:k=9∨k=10∨k=11∨k=12∨k=13:=by omega
  have hr6:rng (k-6) 3 14=true:=rng_true.2 (by omega)
  have hM6:=vR (p:=p) (k:=k-6) (v:=v) hp hr6 (by omega) (by omega) ⟨h0,hv⟩
  have hsw:(kd (k-6)).1=(kd k).2∧(kd (k-6)).2=(kd k).1∧(xH (k-6) v).map (fF (kd k).2.toNat)=xH k v:=by
   rcases hc with rfl | rfl | rfl | rfl | rfl <;> exact ⟨rfl,rfl,rfl⟩
  obtain ⟨a,b,hk,ha,hbb⟩:=cT k
  obtain ⟨w1,w2,w3⟩:=hsw
  rw [hk] at w1 w2 w3 hM ⊢
  dsimp only [Int.toNat_natCast] at w1 w2 w3 hM ⊢
  rw [w1,w2] at hM6
  simp only [Int.toNat_natCast] at hM6
  have hgw:=pV hr6
  have e6:kd (k-6)=((b:Int),(a:Int)):=Prod.ext w1 w2
  rw [e6] at hgw
  have hrel:=fR (a:=b) (b:=a) hf (by omega) hM6.g (by have:=hM6.gl;omega)
  have hR:=vF hf hM6.g
  have hcv:=FU_ (l:=b) (r:=a) hf (by omega) hR.ok (by have:=iK hf hR;omega)
  rw [swp_red hf hM6.g,w3] at hcv
  refine stp (cFW (dF h1) (stp (cFW (dF h2) (stp (cTW (dT h9) (bnd (Az_ (by omega)) (bnd hgw (bnd (Az_ (by omega)) (bnd (Ae_ (by omega)) (bnd hrel (bnd hcv rfl)))))))))))
 ·
  obtain ⟨a,b,hk,ha,hbb⟩:=cT k
  have hgw:=pV hr
  rw [hk] at hM hgw ⊢
  dsimp only [Int.toNat_natCast] at hM ⊢
  have hrel:=fR (a:=a) (b:=b) hf (by omega) hM.g (by have:=hM.gl;omega)
  exact stp (cFW (dF h1) (stp (cFW (dF h2) (stp (cFW (dF h9) (bnd hgw (bnd (Ae_ (by omega)) (bnd hrel rfl))))))))
theorem yI (p:Int) (n:Nat) (x:List Int):tC p n [] x:=fun i hi=>by simp at hi
theorem mS (p:Int) (n:Nat):okM p n []:=fun x hx=>by cases hx
end Go.Proofs.YtngbmcbigcaapaaGreatDoor
namespace Go.Proofs.YtngbmcbigcaapaaGreatDoor
end Go.Proofs.YtngbmcbigcaapaaGreatDoor
