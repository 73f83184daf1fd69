/-
  Plain laws: rows beside rows in a reduction; choices of inputs and their functions. No program in sight. No condition.
-/
import Derived.Test.YtemcakhocdchiaaGreatDoorZP21
namespace Go.Proofs.YtemcakhocdchiaaGreatDoor
set_option linter.unusedVariables false
def zC (m a:Rows):Rows:=List.zipWith (fun x y=>x++y) m a
theorem gK {m a:Rows} (h:a.length=m.length):(zC m a).length=m.length:=by simp [zC,h]
theorem jK:∀ {m a:Rows}{i:Nat},a.length=m.length→gr (zC m a) i=gr m i++gr a i
 | [],[],i,_=>by simp [zC,gr]
 | [],_::_,_,h=>by simp at h
 | _::_,[],_,h=>by simp at h
 | x::m,y::a,0,_=>by rw [EP_,EP_];rfl
 | x::m,y::a,i+1,h=>by
  rw [Bm_,Bm_]
  show gr ((x++y)::zC m a) (i+1)=_
  rw [Bm_]
  exact jK (by simpa using h)
theorem el_app {x y:List Int}{j:Nat}:el (x++y) j=if j<x.length then el x j else el y (j-x.length):=by
 unfold el
 rw [List.getD_eq_getElem?_getD,List.getD_eq_getElem?_getD,List.getD_eq_getElem?_getD]
 split
 · rename_i h;rw [List.getElem?_append_left h]
 · rename_i h;rw [List.getElem?_append_right (by omega)]
theorem E8_ {p:Int}{k q:Nat}{m a:Rows} (hl:a.length=m.length) (h:okM p k m) (ha:okM p q a):okM p (k+q) (zC m a):=by
 intro x hx
 obtain ⟨i,hi,rfl⟩:=List.mem_iff_getElem.1 hx
 rw [gK hl] at hi
 have e:gr (zC m a) i=(zC m a)[i]'(by rw [gK hl];exact hi):=by have:=mF (m:=zC m a) (i:=i) (by rw [gK hl];exact hi);rw [List.getElem?_eq_getElem] at this;exact (Option.some.inj this).symm
 rw [←e,jK hl]
 exact Ba_ (kC h hi) (kC ha (by omega))
theorem Bt_ {p:Int}{k:Nat}{m a:Rows} (hl:a.length=m.length) (h:okM p k m){i c:Nat} (hi:i<m.length) (hc:c<k):el (gr (zC m a) i) c=el (gr m i) c:=by
 rw [jK hl,el_app,if_pos (by rw [(kC h hi).1];exact hc)]
theorem Dw_ {p:Int}{k:Nat}{m a:Rows} (hl:a.length=m.length) (h:okM p k m){c:Nat} (hc:c<k):∀ (d i:Nat),i+d≤m.length→scanN (zC m a) c d i=scanN m c d i
 | 0,_,_=>rfl
 | d+1,i,hi=>by
  unfold scanN
  rw [Bt_ hl h (by omega) hc,Dw_ hl h hc d (i+1) (by omega)]
theorem IK_ {m a:Rows}{r k i:Nat} (hl:a.length=m.length) (hr:r<m.length) (hk:k<m.length):gr (zB (zC m a) r k) i=gr (zB m r k) i++gr (zB a r k) i:=by
 have hcl:=gK hl
 rw [bJ (by rw [hcl];exact hr) (by rw [hcl];exact hk),bJ hr hk,bJ (m:=a) (by omega) (by omega)]
 split
 · exact jK hl
 · split <;> exact jK hl
theorem IL_ {p:Int}{c r k w q:Nat}{m a:Rows} (hf:fdB p=true) (h:okM p w m) (ha:okM p q a) (hl:a.length=m.length) (hr:r<m.length) (hk:k<m.length) (hc:c<w) (hne:el (gr m k) c≠0) :
  tB p c (zC m a) (zC m a) r k=zC (tB p c m m r k) (tB p c m a r k):=by
 have hp:=aC hf
 have hcl:=gK hl
 have hco:=E8_ hl h ha
 have hne2:el (gr (zC m a) k) c≠0:=by rw [Bt_ hl h hk hc];exact hne
 obtain ⟨f1,f2,f3⟩:=fV hf hco hco rfl (by rw [hcl];exact hr) (by rw [hcl];exact hk) (by omega) hne2
 obtain ⟨g1,g2,g3⟩:=fV hf h h rfl hr hk hc hne
 obtain ⟨k1,k2,k3⟩:=fV hf h ha hl hr hk hc hne
 have l1:(tB p c (zC m a) (zC m a) r k).length=m.length:=by rw [nE,hcl]
 have l2:(tB p c m m r k).length=m.length:=nE p c m m r k
 have l3:(tB p c m a r k).length=m.length:=by rw [nE,hl]
 have o1:okM p (w+q) (tB p c (zC m a) (zC m a) r k):=fH hp.1 hco (by rw [hcl];exact hr) (by rw [hcl];exact hk)
 have o2:okM p w (tB p c m m r k):=fH hp.1 h hr hk
 have o3:okM p q (tB p c m a r k):=fH hp.1 ha (by omega) (by omega)
 rw [hcl] at f3
 have hrow:∀ j,j<w+q→el (gr (tB p c (zC m a) (zC m a) r k) r) j=el (gr (tB p c m m r k) r++gr (tB p c m a r k) r) j:=fun j hj=>by
  rw [f2 j hj,Bt_ hl h hk hc,jK hl,el_app,el_app,(kC h hk).1,(kC o2 (i:=r) (by omega)).1]
  split
  · rw [g2 j (by omega)]
  · rw [k2 _ (by omega)]
 refine Fz_ (by rw [gK (by rw [l3,l2]),l1,l2]) fun i hi=>?_
 rw [l1] at hi
 rw [jK (by rw [l3,l2])]
 have wi:=(kC o2 (i:=i) (by omega)).1
 refine gS (by rw [List.length_append,(kC o1 (i:=i) (by omega)).1,wi,(kC o3 (i:=i) (by omega)).1]) fun j hj=>?_
 rw [(kC o1 (i:=i) (by omega)).1] at hj
 by_cases hir:i=r
 · subst hir;exact hrow j hj
 ·
  have hsm:okM p w (zB m r k):=bN h hr hk
  have ws:=(kC hsm (i:=i) (by rw [sG];exact hi)).1
  have wr:=(kC o2 (i:=r) (by omega)).1
  rw [f3 i hi hir j hj,hrow j hj,IK_ hl hr hk,el_app,el_app,el_app,el_app,ws,wr,wi,if_pos hc]
  split
  · rename_i hjw;rw [g3 i hi hir j hjw]
  · rename_i hjw;rw [k3 i hi hir _ (by omega)]
theorem AD_ {p:Int}{w q:Nat} (hf:fdB p=true):∀ (d c:Nat) (m a:Rows) (r:Nat),c+d≤w→okM p w m→okM p q a→a.length=m.length→r≤m.length →
  yB p d c (zC m a) (zC m a) r=(zC (yB p d c m a r).1 (yB p d c m a r).2.1,zC (yB p d c m a r).1 (yB p d c m a r).2.1,(yB p d c m a r).2.2)
 | 0,_,_,_,_,_,_,_,_,_=>rfl
 | d+1,c,m,a,r,hd,h,ha,hl,hr=>by
  have hcl:=gK hl
  unfold yB
  rw [hcl]
  by_cases hrl:r<m.length
  ·
   rw [if_pos hrl,if_pos hrl,Dw_ hl h (by omega) (m.length-r) r (by omega)]
   obtain ⟨s1,s2,s3⟩:=zI m c (m.length-r) r (by omega)
   split
   · exact AD_ hf d (c+1) m a r (by omega) h ha hl hr
   ·
    rename_i hk
    have hkl:scanN m c (m.length-r) r<m.length:=by omega
    rw [IL_ hf h ha hl hrl hkl (by omega) (s3 hkl)]
    have ha2:okM p q (tB p c m a r (scanN m c (m.length-r) r)):=fH (aC hf).1 ha (by omega) (by omega)
    exact AD_ hf d (c+1) (tB p c m m r (scanN m c (m.length-r) r)) (tB p c m a r (scanN m c (m.length-r) r)) (r+1) (by omega) (fH (aC hf).1 h hrl hkl) ha2 (by rw [nE,nE];exact hl) (by rw [nE];omega)
  · rw [if_neg hrl,if_neg hrl]
end Go.Proofs.YtemcakhocdchiaaGreatDoor
namespace Go.Proofs.YtemcakhocdchiaaGreatDoor
set_option linter.unusedVariables false
theorem bS (f:Nat→Int) (a:Nat):∀ b,sg (a+b) f=sg a f+sg b (fun t=>f (a+t))
 | 0=>by show sg a f=sg a f+0;omega
 | b+1=>by
  show sg (a+b) f+f (a+b)=sg a f+(sg b (fun t=>f (a+t))+f (a+b))
  rw [bS f a b];omega
theorem uV {p:Int}{n:Nat}{m:Rows}{v:List Int} (f:Nat→Int) (h:∀ i,i<m.length→sg n (fun j=>f j*el (gr m i) j) % p=0) (hv:gE p n m v):sg n (fun j=>f j*el v j) % p=0:=by
 obtain ⟨x,hx⟩:=hv
 have e1:sg n (fun j=>f j*el v j) % p=sg n (fun j=>f j*sg m.length (fun i=>x i*el (gr m i) j)) % p:=
  mK fun j hj=>by rw [←mul_mod2,hx j hj,mul_mod2]
 rw [e1]
 have e2:sg n (fun j=>f j*sg m.length (fun i=>x i*el (gr m i) j))=sg m.length (fun i=>x i*sg n (fun j=>f j*el (gr m i) j)):=by
  rw [oD (g:=fun j=>sg m.length (fun i=>f j*(x i*el (gr m i) j))) (fun j _=>(sg_mul _ _ _).symm),cW]
  refine oD fun i _=>?_
  rw [←sg_mul]
  exact oD fun j _=>Int.mul_left_comm _ _ _
 rw [e2,mK (g:=fun _=>0) (fun i hi=>by rw [GP_ (h i hi)];exact (Int.zero_emod p).symm),eN (fun _ _=>rfl)]
 exact Int.zero_emod p
def vH (p:Int) (n:Nat) (m:Rows) (x:List Int):Prop:=∀ i,i<m.length→sg n (fun j=>el (gr m i) j*el x j) % p=0
theorem Il_ {p:Int}{n:Nat}{m:Rows}{x v:List Int} (h:vH p n m x) (hv:gE p n m v):sg n (fun j=>el v j*el x j) % p=0:=by
 have:=uV (m:=m) (v:=v) (fun j=>el x j) (fun i hi=>by rw [←h i hi];exact congrArg (· % p) (oD fun j _=>Int.mul_comm _ _)) hv
 rw [←this];exact congrArg (· % p) (oD fun j _=>Int.mul_comm _ _)
theorem DL_ {p:Int}{n:Nat}{a b:Rows}{x:List Int} (h:vH p n b x) (hs:sD p n a b):vH p n a x:=fun i hi=>Il_ h (hs i hi)
def lS (p:Int) (n:Nat) (m:Rows) (x:List Int):Prop:=∀ c,c<n→sg m.length (fun t=>el x t*el (gr m t) c) % p=0
theorem HI_ {p:Int}{n:Nat}{m b:Rows}{v:List Int} (h:∀ i,i<b.length→lS p n m (gr b i)) (hv:gE p m.length b v):lS p n m v:=by
 intro c hc
 have:=uV (n:=m.length) (m:=b) (v:=v) (fun t=>el (gr m t) c) (fun i hi=>by rw [←h i hi c hc];exact congrArg (· % p) (oD fun j _=>Int.mul_comm _ _)) hv
 rw [←this];exact congrArg (· % p) (oD fun j _=>Int.mul_comm _ _)
theorem BD_ {n i:Nat} (hi:i<n):gr (idN n) i=iE n i:=by
 have h:=mF (m:=idN n) (i:=i) (by rw [yO];exact hi)
 unfold idN at h
 rw [List.getElem?_map,List.getElem?_range hi] at h
 exact (Option.some.inj h).symm
theorem rL {n i j:Nat} (hi:i<n):el (iE n i) j=if i=j then 1 else 0:=by
 unfold iE el
 rw [List.getD_eq_getElem?_getD,List.getElem?_set]
 by_cases h:i=j
 · subst h;rw [if_pos rfl,if_pos (by rw [List.length_replicate];exact hi),if_pos rfl];rfl
 · rw [if_neg h,if_neg h,← List.getD_eq_getElem?_getD];exact eP n j
theorem idN_all {p:Int}{n:Nat} (v:List Int):gE p n (idN n) v:=by
 refine ⟨fun i=>el v i,fun j hj=>?_⟩
 rw [yO,jI (i0:=j) hj (fun i hi hne=>by rw [BD_ hi,rL hi,if_neg hne,Int.mul_zero]),BD_ hj,rL hj,if_pos rfl,Int.mul_one]
theorem IX_ {p:Int}{n:Nat}{m:Rows} (hf:fdB p=true) (h:okM p n m):∀ i,i<m.length→∀ c,c<n→el (gr (xB p n m).1 i) c % p=sg m.length (fun t=>el (gr (xB p n m).2.1 i) t*el (gr m t) c) % p:=by
 have hp:=aC hf
 obtain ⟨f1,f2,f3,f4,f5,f6⟩:=zQ hf h
 have hl:(idN m.length).length=m.length:=yO _
 have h1:=AD_ hf n 0 m (idN m.length) 0 (by omega) h (fS hp.1 _) hl (Nat.zero_le _)
 have hC:=E8_ hl h (fS hp.1 m.length)
 have h2:=(cR hf n 0 (zC m (idN m.length)) (zC m (idN m.length)) 0 (by omega) hC hC rfl (Nat.zero_le _)).1
 rw [h1] at h2
 change sD p (n+m.length) (zC (xB p n m).1 (xB p n m).2.1) (zC m (idN m.length)) at h2
 intro i hi c hc
 have hv:=h2 i (by rw [gK (by omega)];omega)
 rw [jK (by omega)] at hv
 have key:∀ a b:List Int,a.length=n→sg (n+m.length) (fun j=>(if j<n then (if c=j then 1 else 0) else -(el (gr m (j-n)) c))*el (a++b) j)=el a c-sg m.length (fun t=>el b t*el (gr m t) c):=by
  intro a b ha
  rw [bS,jI (i0:=c) hc (fun j hj hne=>by rw [if_pos hj,if_neg (fun hh=>hne hh.symm),Int.zero_mul]),if_pos hc,if_pos rfl,Int.one_mul,el_app,if_pos (by omega),Int.sub_eq_add_neg,← Fj_]
  congr 1
  refine oD fun t _=>?_
  rw [if_neg (by omega),el_app,if_neg (by omega),show n+t-n=t by omega,show n+t-a.length=t by omega,Int.neg_mul,Int.mul_comm]
 have hd:=uV (n:=n+m.length) (m:=zC m (idN m.length)) _ (fun i hi=>by
  rw [gK hl] at hi
  rw [jK hl,key _ _ (h _ (mN hi)).1,BD_ hi,jI (i0:=i) hi (fun t _ hne=>by rw [rL hi,if_neg (fun hh=>hne hh.symm),Int.zero_mul]),rL hi,if_pos rfl,Int.one_mul,Int.sub_self]
  exact Int.zero_emod p) hv
 rw [key _ _ (f5 _ (mN (by omega))).1] at hd
 exact Ag_ hd
theorem Ih_ {p:Int}{n:Nat}{m:Rows} (hf:fdB p=true) (h:okM p n m):∀ i,(xB p n m).2.2≤i→i<m.length→∀ c,c<n→el (gr (xB p n m).1 i) c=0:=by
 have h1:=vQ hf n 0 m 0 (by omega) h (RedI.start m)
 obtain ⟨e1,e2⟩:=wQ p n 0 m m (idN m.length) 0
 have f2:=(zQ hf h).2.1
 rw [e1,e2,Nat.zero_add] at h1
 intro i h2 h3 c hc
 exact h1.rest i h2 (by rw [←f2] at h3;exact h3) c hc
theorem IY_ {p:Int}{n:Nat}{m:Rows} (hf:fdB p=true) (h:okM p n m) (v:List Int):gE p m.length (xB p n m).2.1 v:=by
 have hp:=aC hf
 exact cO (cR hf n 0 m (idN m.length) 0 (by omega) h (fS hp.1 _) (yO _) (Nat.zero_le _)).2 (idN_all v)
theorem EQ_ (m:Rows) (k i:Nat):gr (m.drop k) i=gr m (k+i):=by
 unfold gr;rw [List.getD_eq_getElem?_getD,List.getD_eq_getElem?_getD,List.getElem?_drop]
def kerM (p:Int) (n:Nat) (m:Rows):Rows:=cC p m.length ((xB p n m).2.1.drop (xB p n m).2.2)
theorem BC_ {p:Int}{n:Nat}{m:Rows} (hf:fdB p=true) (h:okM p n m):okM p m.length ((xB p n m).2.1.drop (xB p n m).2.2):=
 fun r hr=>(zQ hf h).2.2.2.1 r (List.mem_of_mem_drop hr)
theorem AR_ {p:Int}{n:Nat}{m:Rows} (hf:fdB p=true) (h:okM p n m):Red p m.length (kerM p n m):=tG hf (BC_ hf h)
theorem DY_ {p:Int}{n:Nat}{m:Rows} (hf:fdB p=true) (h:okM p n m) (x:List Int):gE p m.length (kerM p n m) x↔lS p n m x:=by
 have hp:=aC hf
 obtain ⟨f1,f2,f3,f4,f5,f6⟩:=zQ hf h
 have hrel:=IX_ hf h
 have hrest:=Ih_ hf h
 have hsp:=zM hf (BC_ hf h)
 constructor
 ·
  intro hx
  refine HI_ (b:=(xB p n m).2.1.drop (xB p n m).2.2) (fun i hi c hc=>?_) (cO hsp.1 hx)
  rw [List.length_drop] at hi
  rw [EQ_,← hrel _ (by omega) c hc,hrest _ (by omega) (by omega) c hc]
  exact Int.zero_emod p
 ·
  intro hx
  refine cO hsp.2 ?_
  obtain ⟨y,hy⟩:=IY_ hf h x
  rw [f3] at hy
  have hL:(xB p n m).2.2+(m.length-(xB p n m).2.2)=m.length:=by omega
  have hz:∀ i,i<(xB p n m).2.2→y i % p=0:=by
   have hi:=f6.indep y (fun c hc=>?_)
   · intro i h1;exact hi i (by rw [List.length_take];omega)
   ·
    have hlen:((xB p n m).1.take (xB p n m).2.2).length=(xB p n m).2.2:=by rw [List.length_take];omega
    rw [hlen,oD (g:=fun i=>y i*el (gr (xB p n m).1 i) c) (fun i h1=>by rw [iK h1])]
    have e0:sg m.length (fun i=>y i*el (gr (xB p n m).1 i) c)=sg (xB p n m).2.2 (fun i=>y i*el (gr (xB p n m).1 i) c):=by
     conv=>lhs;rw [←hL]
     rw [bS,eN (k:=m.length-(xB p n m).2.2) (fun t ht=>by rw [hrest _ (by omega) (by omega) c hc,Int.mul_zero])]
     omega
    rw [←e0,mK (g:=fun i=>y i*sg m.length (fun t=>el (gr (xB p n m).2.1 i) t*el (gr m t) c)) (fun i hi=>by rw [←mul_mod2,hrel i hi c hc,mul_mod2])]
    rw [←hx c hc]
    have e1:sg m.length (fun i=>y i*sg m.length (fun t=>el (gr (xB p n m).2.1 i) t*el (gr m t) c))=sg m.length (fun t=>sg m.length (fun i=>y i*el (gr (xB p n m).2.1 i) t)*el (gr m t) c):=by
     rw [oD (g:=fun i=>sg m.length (fun t=>y i*(el (gr (xB p n m).2.1 i) t*el (gr m t) c))) (fun i _=>(sg_mul _ _ _).symm),cW]
     refine oD fun t _=>?_
     rw [←EA_]
     exact oD fun i _=>(Int.mul_assoc _ _ _).symm
    rw [e1]
    exact mK fun t ht=>by rw [←lR,← hy t ht,lR]
  refine ⟨fun t=>y ((xB p n m).2.2+t),fun j hj=>?_⟩
  rw [hy j hj,List.length_drop,f3]
  conv=>lhs;rw [←hL]
  rw [bS,Int.add_emod,mK (k:=(xB p n m).2.2) (g:=fun _=>0) (fun i hi=>by rw [Cx_ (hz i hi)];exact (Int.zero_emod p).symm),eN (k:=(xB p n m).2.2) (f:=fun _=>0) (fun _ _=>rfl),Int.zero_emod,Int.zero_add,mod_mod]
  exact congrArg (· % p) (oD fun t _=>by rw [EQ_])
end Go.Proofs.YtemcakhocdchiaaGreatDoor
namespace Go.Proofs.YtemcakhocdchiaaGreatDoor
set_option linter.unusedVariables false
theorem kernel_ {p:Int}{n:Nat}{m:Rows} (hf:fdB p=true) (hn:n≤1048576) (h:okM p n m) (hL:m.length≤1048576):uZ p m (n:Int)=some (kerM p n m):=by
 have hm:bB=1099511627776:=rfl
 have hp:=aC hf
 obtain ⟨f1,f2,f3,f4,f5,f6⟩:=zQ hf h
 refine bnd (E6_ (by omega) (Ie_ h (by omega))) (bnd (G1_ hL) (bnd (CT_ hf (Nat.le_refl n) hn h (fS hp.1 m.length) (by omega) (yO _)) ?_))
 change (dB (xB p n m).2.1 ((xB p n m).2.2:Int) (((xB p n m).2.1.length:Nat):Int)).bind _=_
 have e:dB (xB p n m).2.1 ((xB p n m).2.2:Int) (((xB p n m).2.1.length:Nat):Int)=some ((xB p n m).2.1.drop (xB p n m).2.2):=by
  unfold dB
  rw [if_pos ⟨by omega,by omega,by rw [Int.toNat_natCast];omega⟩,Int.toNat_natCast,Int.toNat_natCast,List.take_of_length_le (by rw [List.length_drop];omega)]
 refine bnd e (bnd (jV hf (Nat.le_refl m.length) hL (BC_ hf h) (by rw [List.length_drop];omega)) rfl)
def isL (b:Rows) (j:Nat):Bool:=b.any fun r=>decide (leadN r=j)
theorem isL_iff {b:Rows}{j:Nat}:isL b j=true↔∃ t,t<b.length∧leadN (gr b t)=j:=by
 unfold isL
 rw [List.any_eq_true]
 constructor
 ·
  rintro ⟨r,hr,h⟩
  obtain ⟨t,ht,rfl⟩:=List.mem_iff_getElem.1 hr
  refine ⟨t,ht,?_⟩
  have e:gr b t=b[t]:=by have:=mF ht;rw [List.getElem?_eq_getElem ht] at this;exact (Option.some.inj this).symm
  rw [e];exact of_decide_eq_true h
 ·
  rintro ⟨t,ht,h⟩
  exact ⟨gr b t,mN ht,decide_eq_true h⟩
def ldL (n:Nat) (b:Rows):Nat→List Int
 | 0=>rD (fun _ _=>-1) (List.replicate n 0)
 | i+1=>(ldL n b i).set (leadN (gr b i)) (i:Int)
theorem lW (n:Nat) (b:Rows):∀ i,(ldL n b i).length=n
 | 0=>by unfold ldL;rw [oV,List.length_replicate]
 | i+1=>by unfold ldL;rw [List.length_set];exact lW n b i
theorem Bp_ {z:List Int}{i j:Nat}{v:Int} (h:i<z.length):el (z.set i v) j=if i=j then v else el z j:=by
 unfold el
 rw [List.getD_eq_getElem?_getD,List.getD_eq_getElem?_getD,List.getElem?_set]
 by_cases hij:i=j
 · rw [if_pos hij,if_pos hij,if_pos (by omega)];rfl
 · rw [if_neg hij,if_neg hij]
theorem Fq_ {n:Nat}{b:Rows} (hlt:∀ i,i<b.length→leadN (gr b i)<n){j:Nat} (hj:j<n):∀ i,i≤b.length→(0≤el (ldL n b i) j↔∃ t,t<i∧leadN (gr b t)=j)
 | 0,_=>by
  unfold ldL
  rw [yR (by rw [List.length_replicate];exact hj)]
  exact ⟨fun h=>by omega,fun ⟨t,ht,_⟩=>by omega⟩
 | i+1,hi=>by
  have ih:=Fq_ hlt hj i (by omega)
  show 0≤el ((ldL n b i).set (leadN (gr b i)) (i:Int)) j↔_
  rw [Bp_ (by rw [lW];exact hlt i (by omega))]
  by_cases h:leadN (gr b i)=j
  · rw [if_pos h];exact ⟨fun _=>⟨i,by omega,h⟩,fun _=>by omega⟩
  ·
   rw [if_neg h,ih]
   constructor
   · rintro ⟨t,ht,h2⟩;exact ⟨t,by omega,h2⟩
   ·
    rintro ⟨t,ht,h2⟩
    by_cases hti:t=i
    · rw [hti] at h2;exact absurd h2 h
    · exact ⟨t,by omega,h2⟩
def nvL (p:Int) (n:Nat) (b:Rows) (j:Nat):Nat→List Int
 | 0=>(List.replicate n 0).set j 1
 | i+1=>(nvL p n b j i).set (leadN (gr b i)) ((p-el (gr b i) j) % p)
theorem dS {p:Int}{n:Nat}{b:Rows}{j:Nat} (hp:2≤p):∀ i,okR p n (nvL p n b j i)
 | 0=>dV hp n j
 | i+1=>by
  have ih:=dS (n:=n) (b:=b) (j:=j) hp i
  unfold nvL
  refine ⟨by rw [List.length_set];exact ih.1,fun x hx=>?_⟩
  rcases List.mem_or_eq_of_mem_set hx with h | rfl
  · exact ih.2 x h
  · exact ⟨Int.emod_nonneg _ (by omega),Int.emod_lt_of_pos _ (by omega)⟩
theorem kR {p:Int}{n:Nat}{b:Rows}{j:Nat} (hp:2≤p) (hlt:∀ i,i<b.length→leadN (gr b i)<n) (hj:j<n){c:Nat}:∀ i,i≤b.length→(∀ t,t<i→leadN (gr b t)≠c)→el (nvL p n b j i) c=if j=c then 1 else 0
 | 0,_,_=>rL hj
 | i+1,hi,h=>by
  unfold nvL
  rw [Bp_ (by rw [(dS hp i).1];exact hlt i (by omega)),if_neg (h i (by omega))]
  exact kR hp hlt hj i (by omega) (fun t ht=>h t (by omega))
theorem Bc_ {p:Int}{n:Nat}{b:Rows}{j:Nat} (hp:2≤p) (hb:Red p n b){t:Nat} (ht:t<b.length):∀ i,i≤b.length→t<i→el (nvL p n b j i) (leadN (gr b t))=(p-el (gr b t) j) % p
 | 0,_,h=>by omega
 | i+1,hi,h=>by
  unfold nvL
  rw [Bp_ (by rw [(dS hp i).1];exact hb.lt i (by omega))]
  by_cases hti:t=i
  · subst hti;rw [if_pos rfl]
  ·
   have:=hb.inc t i (by omega) (by omega)
   rw [if_neg (by omega)]
   exact Bc_ hp hb ht i (by omega) (by omega)
def nuP (p:Int) (n:Nat) (b:Rows):Nat→Rows
 | 0=>[]
 | j+1=>if isL b j then nuP p n b j else nuP p n b j++[nvL p n b j b.length]
theorem aP {p:Int}{n:Nat}{b:Rows} (hp:2≤p):∀ j,okM p n (nuP p n b j)∧(nuP p n b j).length≤j
 | 0=>⟨(fun r hr=>nomatch hr),Nat.le_refl _⟩
 | j+1=>by
  obtain ⟨h1,h2⟩:=aP (n:=n) (b:=b) hp j
  unfold nuP
  split
  · exact ⟨h1,by omega⟩
  ·
   refine ⟨okM_app h1 (fun r hr=>?_),by rw [List.length_append];show _+1≤_;omega⟩
   rw [List.mem_singleton.1 hr];exact dS hp _
theorem Bd_ {p:Int}{n:Nat}{b:Rows}{v:List Int}:∀ k,v∈nuP p n b k→∃ j,j<k∧isL b j=false∧v=nvL p n b j b.length
 | 0,h=>nomatch h
 | k+1,h=>by
  unfold nuP at h
  split at h
  · obtain ⟨j,h1,h2⟩:=Bd_ k h;exact ⟨j,by omega,h2⟩
  ·
   rename_i hn
   rcases List.mem_append.1 h with h | h
   · obtain ⟨j,h1,h2⟩:=Bd_ k h;exact ⟨j,by omega,h2⟩
   · exact ⟨k,by omega,by cases hk:isL b k with | false=>rfl | true=>exact absurd hk hn,List.mem_singleton.1 h⟩
theorem EG_ {p:Int}{n:Nat}{b:Rows} (x:Nat→Int):∀ k,∃ X:Nat→Int,∀ c,sg (nuP p n b k).length (fun i=>X i*el (gr (nuP p n b k) i) c)=sg k (fun j=>if isL b j=true then 0 else x j*el (nvL p n b j b.length) c)
 | 0=>⟨fun _=>0,fun c=>rfl⟩
 | k+1=>by
  obtain ⟨X,hX⟩:=EG_ (p:=p) (n:=n) (b:=b) x k
  unfold nuP
  split
  ·
   rename_i h
   refine ⟨X,fun c=>?_⟩
   show _=sg k _+(if isL b k=true then 0 else _)
   rw [if_pos h,hX c];omega
  ·
   rename_i h
   refine ⟨fun i=>if i<(nuP p n b k).length then X i else x k,fun c=>?_⟩
   rw [List.length_append,show [nvL p n b k b.length].length=1 from rfl,bS]
   show _=sg k _+(if isL b k=true then 0 else _)
   rw [if_neg h,← hX c]
   congr 1
   · exact oD fun i hi=>by dsimp only;rw [if_pos hi,gr_app1 hi]
   ·
    show 0+_=_
    dsimp only
    rw [if_neg (by omega),gr_app2,Int.zero_add]
    rfl
def oG (p:Int) (n:Nat) (m:Rows):Rows:=cC p n (nuP p n (cC p n m) n)
theorem AN_ {p:Int}{n:Nat}{m:Rows} (hf:fdB p=true):Red p n (oG p n m):=tG hf (aP (aC hf).1 n).1
theorem lV {p:Int}{n:Nat}{m:Rows} (hf:fdB p=true) (h:okM p n m) (x:List Int):gE p n (oG p n m) x↔vH p n m x:=by
 have hp:=aC hf
 have hb:=tG hf h
 have hs:=zM hf h
 have hn:=zM hf (aP (n:=n) (b:=cC p n m) hp.1 n).1
 unfold oG
 generalize cC p n m=b at hb hs hn ⊢
 constructor
 ·
  intro hx
  refine DL_ ?_ hs.2
  intro i hi
  refine uV (m:=nuP p n b n) (fun c=>el (gr b i) c) (fun k hk=>?_) (cO hn.1 hx)
  obtain ⟨j,hj,hl,e⟩:=Bd_ n (mN hk)
  have hnl:∀ t,t<b.length→leadN (gr b t)≠j:=fun t ht he=>by
   have:=isL_iff.2 ⟨t,ht,he⟩
   rw [this] at hl;cases hl
  rw [e,DH_ (hb.lt i hi),jI (i0:=j) hj (fun c hc hne=>by
   by_cases h1:c=leadN (gr b i)
   · rw [if_pos h1]
   ·
    rw [if_neg h1]
    by_cases h2:isL b c=true
    ·
     obtain ⟨t,ht,h3⟩:=isL_iff.1 h2
     rw [←h3,hb.zero t i ht hi (fun h4=>h1 (by rw [←h3,h4])),Int.zero_mul]
    · rw [kR hp.1 hb.lt hj b.length (Nat.le_refl _) (fun t ht he=>h2 (isL_iff.2 ⟨t,ht,he⟩)),if_neg (fun h4=>hne h4.symm),Int.mul_zero])]
  rw [if_neg (fun h1=>hnl i hi h1.symm),kR hp.1 hb.lt hj b.length (Nat.le_refl _) hnl,if_pos rfl,hb.one i hi,Bc_ hp.1 hb hi b.length (Nat.le_refl _) hi,Int.mul_one,Int.one_mul,Int.add_emod,mod_mod,← Int.add_emod,show el (gr b i) j+(p-el (gr b i) j)=p by omega]
  exact Int.emod_self
 ·
  intro hx
  have hx':vH p n b x:=DL_ hx hs.1
  refine cO hn.2 ?_
  obtain ⟨X,hX⟩:=EG_ (p:=p) (n:=n) (b:=b) (fun j=>el x j) n
  refine ⟨X,fun c hc=>?_⟩
  rw [hX c]
  by_cases h2:isL b c=true
  ·
   obtain ⟨t,ht,h3⟩:=isL_iff.1 h2
   have h4:=hx' t ht
   rw [DH_ (hb.lt t ht),hb.one t ht,Int.one_mul] at h4
   rw [←h3]
   have e1:sg n (fun j=>if isL b j=true then 0 else el x j*el (nvL p n b j b.length) (leadN (gr b t))) % p=sg n (fun j=>- (if j=leadN (gr b t) then 0 else el (gr b t) j*el x j)) % p:=by
    refine mK fun j hj=>?_
    by_cases h5:isL b j=true
    ·
     rw [if_pos h5]
     by_cases h6:j=leadN (gr b t)
     · rw [if_pos h6];rfl
     ·
      obtain ⟨t',ht',h7⟩:=isL_iff.1 h5
      rw [if_neg h6,← h7,hb.zero t' t ht' ht (fun h8=>h6 (by rw [←h7,h8])),Int.zero_mul];rfl
    ·
     have h6:j≠leadN (gr b t):=fun h7=>h5 (isL_iff.2 ⟨t,ht,h7.symm⟩)
     rw [if_neg h5,if_neg h6,Bc_ hp.1 hb ht b.length (Nat.le_refl _) ht,mul_mod2]
     refine Ag_ ?_
     rw [show el x j*(p-el (gr b t) j) - -(el (gr b t) j*el x j)=el x j*p from by rw [Int.mul_sub,Int.mul_comm (el (gr b t) j)];omega]
     exact Int.mul_emod_left _ _
   rw [e1,Fj_]
   refine Ag_ ?_
   rw [Int.sub_neg,Int.add_comm]
   exact h4
  ·
   rw [jI (i0:=c) hc (fun j hj hne=>by
    by_cases h3:isL b j=true
    · rw [if_pos h3]
    · rw [if_neg h3,kR hp.1 hb.lt hj b.length (Nat.le_refl _) (fun t ht he=>h2 (isL_iff.2 ⟨t,ht,he⟩)),if_neg hne,Int.mul_zero]),if_neg h2,kR hp.1 hb.lt hc b.length (Nat.le_refl _) (fun t ht he=>h2 (isL_iff.2 ⟨t,ht,he⟩)),if_pos rfl,Int.mul_one]
end Go.Proofs.YtemcakhocdchiaaGreatDoor
namespace Go.Proofs.YtemcakhocdchiaaGreatDoor
set_option linter.unusedVariables false
theorem I4_ (p:Int) (n:Nat) (b:Rows) (j:Nat):nuP p n b (j+1)=if isL b j then nuP p n b j else nuP p n b j++[nvL p n b j b.length]:=rfl
theorem Ey_ {p:Int}{n:Nat}{m:Rows} (hf:fdB p=true) (hn:n≤1048576) (h:okM p n m) (hL:m.length≤1048576):tT p (n:Int) m=some (oG p n m):=by
 have hm:bB=1099511627776:=rfl
 have hp:=aC hf
 have hb:=tG hf h
 have hbl:=(A9_ (n:=n) hp.1 h).2.2
 refine bnd (bR hf (Nat.le_refl n) hn h hL) ?_
 unfold oG
 generalize cC p n m=b at hb hbl ⊢
 refine bnd (mH 0 (by omega)) ?_
 have hlen:(List.replicate n (0:Int)).length=n:=List.length_replicate
 refine bnd (a:=ldL n b 0) ((xC (fun j=>part (fun _ _=>-1) (List.replicate n 0) j) ?_).trans (by rw [kS];rfl)) ?_
 ·
  intro j hj
  refine bnd (tC _ (by rw [jR];exact hj)) ?_
  exact congrArg some (iR (fun _ _=>-1) (List.replicate n 0) hj)
 refine bnd (xC (fun i=>ldL n b i) ?_) ?_
 ·
  intro i hi
  have hw:=(kC hb.ok hi).1
  exact bnd (gD hi) (bnd (Ez_ (by omega)) (bnd (tC _ (by rw [lW];exact hb.lt i hi)) rfl))
 refine bnd (dK (fun j=>(nuP p n b j,(j:Int))) (t:=nuP p n b n) n ?_ ?_) ?_
 ·
  intro j hj
  dsimp only
  refine stp (cTW (dT (by omega)) (bnd (a:=nuP p n b (j+1)) ?_ (bnd (aB (by omega) (by omega)) rfl)))
  refine bnd (oE (by rw [lW];exact hj)) (stp ?_)
  have h1:=Fq_ hb.lt hj b.length (Nat.le_refl _)
  rw [←isL_iff] at h1
  rw [I4_]
  by_cases h2:isL b j=true
  · rw [if_pos h2];exact cTW (dT (h1.2 h2)) rfl
  ·
   rw [if_neg h2]
   refine cFW (dF (fun h3=>h2 (h1.1 h3))) (bnd (mH 0 (by omega)) (bnd (tC _ (by rw [hlen];exact hj)) (bnd (xC (fun i=>nvL p n b j i) ?_) (bnd (iB (by have:=(aP (n:=n) (b:=b) hp.1 j).2;show _+1≤_;omega)) rfl))))
   intro i hi
   have hw:=(kC hb.ok hi).1
   exact bnd (gD hi) (bnd (gD hi) (bnd (oE (by omega)) (bnd (Ez_ (by omega)) (bnd (bX hp (kI hb.ok hi hj)) (bnd (tC _ (by rw [(dS hp.1 i).1];exact hb.lt i hi)) rfl)))))
 ·
  dsimp only
  exact stp (cFW (dF (by omega)) rfl)
 exact bnd (bR hf (Nat.le_refl n) hn (aP hp.1 n).1 (by have:=(aP (n:=n) (b:=b) hp.1 n).2;omega)) rfl
def uF (m:Rows) (j:Nat):List Int:=m.map fun r=>el r j
def trM (m:Rows) (cols:Nat):Rows:=(List.replicate cols ([]:List Int)).mapIdx fun j _=>uF m j
theorem rR (m:Rows) (cols:Nat):(trM m cols).length=cols:=by simp [trM]
theorem Fc_ {m:Rows}{cols j:Nat} (hj:j<cols):gr (trM m cols) j=uF m j:=by
 unfold trM gr
 rw [List.getD_eq_getElem?_getD,List.getElem?_mapIdx,List.getElem?_replicate,if_pos hj]
 rfl
theorem colM_el {m:Rows}{i j:Nat} (hi:i<m.length):el (uF m j) i=el (gr m i) j:=by
 have h1:=pK (r:=uF m j) (c:=i) (by simp [uF];exact hi)
 unfold uF at h1
 rw [List.getElem?_map,mF hi] at h1
 exact (Option.some.inj h1).symm
theorem Fb_ {p:Int}{w cols:Nat}{m:Rows} (h:okM p w m) (hc:cols≤w):okM p m.length (trM m cols):=by
 intro r hr
 obtain ⟨j,hj,rfl⟩:=List.mem_iff_getElem.1 hr
 rw [rR] at hj
 have e:(trM m cols)[j]=uF m j:=by
  rw [←Fc_ hj]
  have:=mF (m:=trM m cols) (i:=j) (by rw [rR];exact hj)
  rw [List.getElem?_eq_getElem (by rw [rR];exact hj)] at this;exact Option.some.inj this
 rw [e]
 refine ⟨by simp [uF],fun x hx=>?_⟩
 obtain ⟨r,hr,rfl⟩:=List.mem_map.1 hx
 have h1:=h r hr
 exact h1.2 _ (sH (by omega))
section
variable {p:Int}{n o:Nat}{A C:Rows}
end
section
variable {p:Int}{n:Nat}{A B:Rows}
end
section
variable {p:Int}{n o:Nat}{A C:Rows}
end
theorem sO {p:Int}{n:Nat}{b:Rows} (hf:fdB p=true) (h:Red p n b):b.length≤n:=by
 have:=(A9_ (n:=n) (aC hf).1 h.ok).2.2
 rw [Dg_ hf h] at this;exact this
end Go.Proofs.YtemcakhocdchiaaGreatDoor
namespace Go.Proofs.YtemcakhocdchiaaGreatDoor
def jD (l:Nat) (B:Rows):Rows:=B.map fun r=>r.take l
def sndL (l:Nat) (B:Rows):Rows:=B.map fun r=>r.drop l
theorem first_ {l:Nat}{R:Rel}{row:List Int} (h1:R.1=(l:Int)) (hl:l≤row.length):tN R row=some (row.take l):=by
 refine bnd (a:=row.take l) ?_ rfl
 unfold dB
 rw [if_pos ⟨by omega,by omega,by omega⟩,h1];simp
theorem eW {l:Nat}{R:Rel}{row:List Int} (h1:R.1=(l:Int)) (hl:l≤row.length):sN R row=some (row.drop l):=by
 refine bnd (a:=row.drop l) ?_ rfl
 unfold dB
 rw [if_pos ⟨by omega,by omega,by omega⟩,h1]
 simp only [Int.toNat_natCast]
 rw [List.take_of_length_le (by simp)]
theorem CO_ {l w:Nat}{R:Rel} (h1:R.1=(l:Int)) (hw:∀ r∈R.2.2,r.length=w) (hl:l≤w) (hL:R.2.2.length≤1000):rS R R=some (jD l R.2.2):=by
 have hm:bB=1099511627776:=rfl
 refine bnd (eE (fun r=>r.take l) R.2.2 [] (by simp;omega) (fun j r s hj hs=>?_)) rfl
 have hr:=hw r (oC hj)
 have hjl:=(List.getElem?_eq_some_iff.1 hj).1
 exact bnd (kA hj) (bnd (first_ (R:=R) h1 (by omega)) (bnd (iB (by simp at hs ⊢;omega)) rfl))
theorem CD_ {l w:Nat}{R:Rel} (h1:R.1=(l:Int)) (hw:∀ r∈R.2.2,r.length=w) (hl:l≤w) (hL:R.2.2.length≤1000):pS R R=some (sndL l R.2.2):=by
 have hm:bB=1099511627776:=rfl
 refine bnd (eE (fun r=>r.drop l) R.2.2 [] (by simp;omega) (fun j r s hj hs=>?_)) rfl
 have hr:=hw r (oC hj)
 have hjl:=(List.getElem?_eq_some_iff.1 hj).1
 exact bnd (kA hj) (bnd (eW (R:=R) h1 (by omega)) (bnd (iB (by simp at hs ⊢;omega)) rfl))
theorem oW {p:Int}{l w:Nat}{B:Rows} (h:okM p w B) (hl:l≤w):okM p l (jD l B):=by
 intro r hr
 obtain ⟨x,hx,rfl⟩:=List.mem_map.1 hr
 have:=h x hx
 exact ⟨by simp;omega,fun y hy=>this.2 y (List.mem_of_mem_take hy)⟩
theorem bW {p:Int}{l w:Nat}{B:Rows} (h:okM p w B):okM p (w-l) (sndL l B):=by
 intro r hr
 obtain ⟨x,hx,rfl⟩:=List.mem_map.1 hr
 have:=h x hx
 exact ⟨by simp;omega,fun y hy=>this.2 y (List.mem_of_mem_drop hy)⟩
def wK (p:Int) (r:List Int):List Int:=r.map fun x=>(p-x) % p
theorem negR_ok {p:Int}{n:Nat}{r:List Int} (hp:2≤p) (h:r.length=n):okR p n (wK p r):=by
 refine ⟨by simp [wK,h],fun y hy=>?_⟩
 obtain ⟨x,_,rfl⟩:=List.mem_map.1 hy
 exact fJ hp
theorem neg_eq (p x:Int):(0 + -1*x) % p=(p-x) % p:=by
 rw [show (0 + -1*x:Int)=(p-x)-p by omega,Int.sub_emod,Int.emod_self]
 simp
theorem negRow_ {p:Int}{n:Nat}{r:List Int} (hp:2≤p∧p≤97) (hr:okR p n r):sI p (List.replicate n 0) (-1) r=some (wK p r):=by
 have:=gV (fun x=>x=0) (fun x=>0≤x∧x<p) (fun y x=>(x + -1*y) % p) r (f:=fun (k3:Nat) (s72:List Int)=>
   (idxO r ((k3:Nat):Int)).bind fun a87=>
   (idxO s72 ((k3:Nat):Int)).bind fun a95=>
   (zF (-1) a87).bind fun a97=>
   (mA a95 a97).bind fun a99=>
   (rF p a99).bind fun y101=>
   (setO s72 ((k3:Nat):Int) y101).bind fun a110=>
   some a110) (by
  intro j y x s hy hx hxp hyp hj
  have hx0:x=0:=hxp
  subst hx0
  exact bnd (kA hy) (bnd (kA hx) (bnd (tL (by omega) (by omega)) (bnd (aB (by omega) (by omega)) (bnd (modG hp (by omega)) (bnd (tC _ hj) rfl)))))) r [] [] (List.replicate n 0) rfl rfl (by rw [hr.1];simp) hr.2 (fun x hx=>List.eq_of_mem_replicate hx)
 refine (bnd this rfl:sI p (List.replicate n 0) (-1) r=_).trans ?_
 congr 1
 have hz:∀ (r:List Int),List.zipWith (fun y x=>(x + -1*y) % p) r (List.replicate r.length 0)=wK p r:=by
  intro r
  induction r with
  | nil=>rfl
  | cons a r ih=>
   show (0 + -1*a) % p::_=_
   rw [neg_eq]
   exact congrArg (List.cons _) ih
 rw [←hr.1]
 simpa using hz r
def rE (p:Int) (l m:Nat) (A B:Rows):Rows:=sndL l A++(jD m B).map (wK p)
theorem E5_ {p:Int}{l m r:Nat}{A B:Rows} (hp:2≤p) (hA:okM p (l+m) A) (hB:okM p (m+r) B):okM p m (rE p l m A B):=by
 intro x hx
 rcases List.mem_append.1 hx with hx | hx
 ·
  have:=bW hA (l:=l) x hx
  rwa [Nat.add_sub_cancel_left] at this
 ·
  obtain ⟨y,hy,rfl⟩:=List.mem_map.1 hx
  exact negR_ok hp (oW hB (l:=m) (by omega) y hy).1
theorem Ej_ (p:Int) (l m:Nat) (A B:Rows):(rE p l m A B).length=A.length+B.length:=by simp [rE,sndL,jD]
theorem Dt_ {p:Int}{l:Nat}:∀ (B:Rows) (c:List Int) (acc:List Int),(pF (fun acc row c=>sE p c acc row) B c acc).take l=pF (fun acc row c=>sE p c acc row) (jD l B) c (acc.take l)
 | [],c,acc=>by simp [pF,jD]
 | r::B,[],acc=>by simp [pF,jD]
 | r::B,x::c,acc=>by
  show (pF _ B c (sE p x acc r)).take l=pF _ (jD l B) c (sE p x (acc.take l) (r.take l))
  rw [Dt_ B c]
  congr 1
  unfold sE
  rw [List.take_zipWith]
theorem Du_ {p:Int}{l:Nat}:∀ (B:Rows) (c:List Int) (acc:List Int),(pF (fun acc row c=>sE p c acc row) B c acc).drop l=pF (fun acc row c=>sE p c acc row) (sndL l B) c (acc.drop l)
 | [],c,acc=>by simp [pF,sndL]
 | r::B,[],acc=>by simp [pF,sndL]
 | r::B,x::c,acc=>by
  show (pF _ B c (sE p x acc r)).drop l=pF _ (sndL l B) c (sE p x (acc.drop l) (r.drop l))
  rw [Du_ B c]
  congr 1
  unfold sE
  rw [List.drop_zipWith]
theorem HX_ {p:Int}{l w:Nat} (B:Rows) (c:List Int) (h:l≤w):(lD p w B c).take l=lD p l (jD l B) c:=by
 unfold lD
 rw [Dt_,List.take_replicate,Nat.min_eq_left h]
theorem HY_ {p:Int}{l w:Nat} (B:Rows) (c:List Int):(lD p w B c).drop l=lD p (w-l) (sndL l B) c:=by
 unfold lD
 rw [Du_,List.drop_replicate]
theorem nul_ker {p:Int}{m:Nat}{M:Rows} (hf:fdB p=true) (h:okM p m M):oG p M.length (trM M m)=kerM p m M:=by
 have hT:okM p M.length (trM M m):=Fb_ h (Nat.le_refl _)
 have key:∀ x,vH p M.length (trM M m) x↔lS p m M x:=by
  intro x
  unfold vH lS
  rw [rR]
  refine forall_congr' fun i=>forall_congr' fun hi=>?_
  rw [Fc_ hi,oD (g:=fun t=>el x t*el (gr M t) i) (fun t ht=>by rw [colM_el ht,Int.mul_comm])]
 refine Af_ (aC hf).1 (AN_ hf) (AR_ hf h) (fun i hi=>?_) (fun i hi=>?_)
 · exact (DY_ hf h _).2 ((key _).1 ((lV hf hT _).1 (vF hi)))
 · exact (lV hf hT _).2 ((key _).2 ((DY_ hf h _).1 (vF hi)))
def cmpP (p:Int) (l m r:Nat) (A B:Rows):Rows:=(kerM p m (rE p l m A B)).map fun k=>lD p l (jD l A) (k.take A.length)++lD p r (sndL m B) (k.drop A.length)
def cmpR (p:Int) (l m r:Nat) (A B:Rows):Rows:=cC p (l+r) (cmpP p l m r A B)
theorem Bs_ {p:Int}{l m r:Nat}{A B:Rows} (hf:fdB p=true) (hA:okM p (l+m) A) (hB:okM p (m+r) B):okM p (l+r) (cmpP p l m r A B):=by
 have hp:=(aC hf).1
 intro x hx
 obtain ⟨k,hk,rfl⟩:=List.mem_map.1 hx
 have h1:=vV (p:=p) (n:=l) hp (rows:=jD l A) (cs:=k.take A.length) (oW hA (by omega))
 have h2:okR p r (lD p r (sndL m B) (k.drop A.length)):=vV hp (by have:=bW hB (l:=m);rwa [Nat.add_sub_cancel_left] at this)
 exact Ba_ h1 h2
theorem DX_ {p:Int}{m:Nat}{M:Rows} (hf:fdB p=true) (h:okM p m M):∀ k∈kerM p m M,k.length=M.length∧inP p k:=fun k hk=>(AR_ hf h).ok k hk
theorem EM_ {p:Int}{m:Nat}{M:Rows} (hf:fdB p=true) (h:okM p m M):(kerM p m M).length≤M.length:=sO hf (AR_ hf h)
theorem I5_ {p:Int}{m:Nat} (hp:2≤p∧p≤97) (hm:m≤1000) (Y acc:Rows) (hY:okM p m Y) (hl:acc.length+Y.length≤10000):forS (fun (k22:Nat) (s80:List (List Int))=>
   (idxO Y ((k22:Nat):Int)).bind fun a96=>
   (dG ((a96.length:Nat):Int)).bind fun y100=>
   (sI p y100 (-1) a96).bind fun y105=>
   (nA s80 [y105]).bind fun a111=>
   some a111) Y.length 0 acc=some (acc++Y.map (wK p)):=by
 have hmx:bB=1099511627776:=rfl
 refine eE (wK p) Y acc (by omega) (fun j y s hj hs=>?_)
 have hy:=hY y (oC hj)
 have hjl:=(List.getElem?_eq_some_iff.1 hj).1
 refine bnd (kA hj) (bnd (gI (by omega)) ?_)
 rw [hy.1]
 exact bnd (negRow_ hp hy) (bnd (iB (by simp;omega)) rfl)
theorem II_ {p:Int}{l m r:Nat}{A B:Rows} (hf:fdB p=true) (hl:l≤100) (hm:m≤100) (hr:r≤100) (hA:okM p (l+m) A) (hB:okM p (m+r) B) (lA:A.length≤1000) (lB:B.length≤1000) :
  eQ p ((l:Int),(m:Int),A) ((m:Int),(r:Int),B)=some ((l:Int),(r:Int),cmpR p l m r A B):=by
 have hmx:bB=1099511627776:=rfl
 have hp:=aC hf
 have wA:∀ x∈A,x.length=l+m:=fun x hx=>(hA x hx).1
 have wB:∀ x∈B,x.length=m+r:=fun x hx=>(hB x hx).1
 have e1:=CD_ (R:=((l:Int),(m:Int),A)) rfl wA (by omega) lA
 have e2:=CO_ (R:=((m:Int),(r:Int),B)) rfl wB (by omega) lB
 have e3:=CO_ (R:=((l:Int),(m:Int),A)) rfl wA (by omega) lA
 have e4:=CD_ (R:=((m:Int),(r:Int),B)) rfl wB (by omega) lB
 have hM:=E5_ (p:=p) (l:=l) (m:=m) (r:=r) hp.1 hA hB
 have lM:=Ej_ p l m A B
 have lf:(jD l A).length=A.length:=by simp [jD]
 have n1:=I5_ hp (by omega) (jD m B) (sndL l A) (oW hB (by omega)) (by simp [jD,sndL];omega)
 have hK:=kernel_ hf (by omega:m≤1048576) hM (by omega)
 have lK:=EM_ hf hM
 have rK:=DX_ hf hM
 have fA:bM p l (jD l A):=oW hA (by omega)
 have sB:bM p r (sndL m B):=by have:=bW hB (l:=m);rwa [Nat.add_sub_cancel_left] at this
 have ls:(sndL m B).length=B.length:=by simp [sndL]
 have hloop:=eE (f:=fun (k249:Nat) (s401:List (List Int))=>
   (idxO (kerM p m (rE p l m A B)) ((k249:Nat):Int)).bind fun a417=>
   (dB a417 0 (((jD l A).length:Nat):Int)).bind fun a422=>
   (yN p a422 (jD l A) (l:Int)).bind fun y426=>
   (dB a417 (((jD l A).length:Nat):Int) ((a417.length:Nat):Int)).bind fun a432=>
   (yN p a432 (sndL m B) (r:Int)).bind fun y436=>
   (eH [y426,y436]).bind fun y446=>
   (nA s401 [y446]).bind fun a454=>
   some a454) (fun k=>lD p l (jD l A) (k.take A.length)++lD p r (sndL m B) (k.drop A.length)) (kerM p m (rE p l m A B)) [] (by simp;omega) (fun j k s hj hs=>by
  have hk:=rK k (oC hj)
  have hjl:=(List.getElem?_eq_some_iff.1 hj).1
  have s1:dB k 0 (((jD l A).length:Nat):Int)=some (k.take A.length):=by
   unfold dB;rw [if_pos ⟨by omega,by omega,by omega⟩,lf];simp
  have s2:dB k (((jD l A).length:Nat):Int) ((k.length:Nat):Int)=some (k.drop A.length):=by
   unfold dB;rw [if_pos ⟨by omega,by omega,by omega⟩,lf]
   simp only [Int.toNat_natCast]
   rw [List.take_of_length_le (by simp)]
  have c1:=Ei_ hp (by omega:l≤bB) fA (cs:=k.take A.length) (fun x hx=>hk.2 x (List.mem_of_mem_take hx)) (by rw [lf];simp;omega)
  have c2:=Ei_ hp (by omega:r≤bB) sB (cs:=k.drop A.length) (fun x hx=>hk.2 x (List.mem_of_mem_drop hx)) (by rw [ls];simp;omega)
  have hj2:=vO (l:=[lD p l (jD l A) (k.take A.length),lD p r (sndL m B) (k.drop A.length)]) (by simp [c1.2.1,c2.2.1];omega)
  refine bnd (kA hj) (bnd s1 (bnd c1.1 (bnd s2 (bnd c2.1 (bnd hj2 (bnd (iB (by simp at hs ⊢;omega)) ?_))))))
  simp)
 have hred:=jV hf (Nat.le_refl (l+r)) (by omega) (Bs_ hf hA hB) (m:=cmpP p l m r A B) (by simp [cmpP];omega)
 refine bnd e1 (bnd e2 (bnd n1 (bnd (bnd e3 (bnd e4 rfl)) (bnd hK (bnd hloop ?_)))))
 refine bnd (bnd (aB (by dsimp only;omega) (by dsimp only;omega)) (bnd ?_ rfl)) rfl
 dsimp only
 rw [show ((l:Int)+(r:Int))=((l+r:Nat):Int) by omega]
 exact hred
theorem Jk_ {p:Int}{l m r:Nat}{A B:Rows} (hA:okM p (l+m) A) (hB:okM p (m+r) B){j:Nat} (hj:j<m):uF (rE p l m A B) j=A.map (fun x=>el x (l+j))++B.map (fun x=>(p-el x j) % p):=by
 unfold uF rE sndL jD
 rw [List.map_append,List.map_map,List.map_map,List.map_map]
 congr 1
 ·
  refine List.map_congr_left fun x hx=>?_
  show el (x.drop l) j=el x (l+j)
  unfold el
  rw [List.getD_eq_getElem?_getD,List.getD_eq_getElem?_getD,List.getElem?_drop]
 ·
  refine List.map_congr_left fun x hx=>?_
  have hx:=(hB x hx).1
  show el (wK p (x.take m)) j=(p-el x j) % p
  unfold wK el
  rw [List.getD_eq_getElem?_getD,List.getD_eq_getElem?_getD,List.getElem?_map,List.getElem?_take,if_pos hj,List.getElem?_eq_getElem (by omega)]
  rfl
theorem HF_ {p:Int}{l m r:Nat}{A B:Rows} (hf:fdB p=true) (hl:l≤100) (hm:m≤100) (hr:r≤100) (hA:okM p (l+m) A) (hB:okM p (m+r) B) (lA:A.length≤1000) (lB:B.length≤1000) :
  uP p ((l:Int),(m:Int),A) ((m:Int),(r:Int),B)=some ((l:Int),(r:Int),cmpR p l m r A B):=by
 have hmx:bB=1099511627776:=rfl
 have hp:=aC hf
 have hM:=E5_ (p:=p) (l:=l) (m:=m) (r:=r) hp.1 hA hB
 have lM:=Ej_ p l m A B
 have hlen:(List.replicate m ([]:List Int)).length=m:=List.length_replicate
 have hrows:forS (fun (k17:Nat) (s676:List (List Int))=>
   (forS (fun (k685:Nat) (s786:List (List Int))=>
     (idxO A ((k685:Nat):Int)).bind fun a801=>
     (idxO s786 ((k17:Nat):Int)).bind fun a812=>
     (mA (l:Int) ((k17:Nat):Int)).bind fun a815=>
     (idxO a801 a815).bind fun a823=>
     (nA a812 [a823]).bind fun a829=>
     (setO s786 ((k17:Nat):Int) a829).bind fun a841=>
     some a841) A.length 0 s676).bind fun (s845:List (List Int))=>
   (forS (fun (k847:Nat) (s950:List (List Int))=>
     (idxO B ((k847:Nat):Int)).bind fun a965=>
     (idxO s950 ((k17:Nat):Int)).bind fun a976=>
     (idxO a965 ((k17:Nat):Int)).bind fun a985=>
     (eO p a985).bind fun y987=>
     (nA a976 [y987]).bind fun a994=>
     (setO s950 ((k17:Nat):Int) a994).bind fun a1006=>
     some a1006) B.length 0 s845).bind fun (s1010:List (List Int))=>
   some s1010) (List.replicate m ([]:List Int)).length 0 (List.replicate m ([]:List Int))=some (trM (rE p l m A B) m):=by
  refine (xC (fun j=>iC (fun j _=>uF (rE p l m A B) j) (List.replicate m ([]:List Int)) j) ?_).trans (by rw [cS];rfl)
  intro j hj
  have hj':j<m:=by rw [hlen] at hj;exact hj
  have hpl:j<(iC (fun j _=>uF (rE p l m A B) j) (List.replicate m ([]:List Int)) j).length:=by rw [dI];exact hj
  have hg:gr (iC (fun j _=>uF (rE p l m A B) j) (List.replicate m ([]:List Int)) j) j=[]:=by
   rw [wL hj,if_neg (by omega)]
   unfold gr;rw [List.getD_eq_getElem?_getD,List.getElem?_replicate,if_pos hj'];rfl
  have e1:iC (fun j _=>uF (rE p l m A B) j) (List.replicate m ([]:List Int)) j=(iC (fun j _=>uF (rE p l m A B) j) (List.replicate m ([]:List Int)) j).set j ((A.take 0).map fun x=>el x (l+j)):=by
   conv=>lhs;rw [←kN hpl,hg]
   rfl
  have e2:=zU (g:=fun j _=>uF (rE p l m A B) j) (m:=List.replicate m ([]:List Int)) hj
  have e3:=Jk_ (p:=p) (l:=l) (r:=r) hA hB hj'
  rw [e3] at e2
  rw [←e2]
  generalize iC (fun j _=>uF (rE p l m A B) j) (List.replicate m ([]:List Int)) j=Z at hpl hg e1 ⊢
  rw [e1]
  refine bnd (a:=Z.set j (A.map fun x=>el x (l+j))) ?_ (bnd (a:=Z.set j (A.map (fun x=>el x (l+j))++B.map fun x=>(p-el x j) % p)) ?_ ?_)
  ·
   refine (xC (fun k=>Z.set j ((A.take k).map fun x=>el x (l+j))) ?_).trans (by rw [List.take_length])
   intro k hk
   have hset:j<(Z.set j ((A.take k).map fun x=>el x (l+j))).length:=by rw [List.length_set];exact hpl
   have hw:=(hA _ (mN hk)).1
   refine bnd (gD hk) (bnd (gD hset) (bnd (a:=((l+j:Nat):Int)) (by rw [aB (by omega) (by omega)];congr 1) (bnd (oE (by omega)) ?_)))
   rw [iJ hpl,if_pos rfl]
   refine bnd (iB (by simp;omega)) (bnd (tC _ hset) ?_)
   rw [List.set_set,List.take_add_one,mF hk,List.map_append]
   rfl
  ·
   have e4:Z.set j (A.map fun x=>el x (l+j))=Z.set j (A.map (fun x=>el x (l+j))++(B.take 0).map fun x=>(p-el x j) % p):=by simp
   rw [e4]
   refine (xC (fun k=>Z.set j (A.map (fun x=>el x (l+j))++(B.take k).map fun x=>(p-el x j) % p)) ?_).trans (by rw [List.take_length])
   intro k hk
   have hset:j<(Z.set j (A.map (fun x=>el x (l+j))++(B.take k).map fun x=>(p-el x j) % p)).length:=by rw [List.length_set];exact hpl
   have hw:=hB _ (mN hk)
   have hel:=kI hB hk (c:=j) (by omega)
   refine bnd (gD hk) (bnd (gD hset) (bnd (oE (by omega)) (bnd (bX hp hel) ?_)))
   rw [iJ hpl,if_pos rfl]
   refine bnd (iB (by simp;omega)) (bnd (tC _ hset) ?_)
   rw [List.set_set,List.take_add_one,mF hk,List.map_append,← List.append_assoc]
   rfl
  · rw [List.set_set]
 have hT:okM p (rE p l m A B).length (trM (rE p l m A B) m):=Fb_ hM (Nat.le_refl _)
 have hN:=Ey_ (n:=(rE p l m A B).length) hf (by omega) hT (by rw [rR];omega)
 rw [nul_ker hf hM,lM] at hN
 have lK:=EM_ hf hM
 have rK:=DX_ hf hM
 have sB:okM p (m+r-m) (sndL m B):=bW hB
 have hloop:=eE (f:=fun (k1023:Nat) (s1216:List (List Int))=>
   (idxO (kerM p m (rE p l m A B)) ((k1023:Nat):Int)).bind fun a1233=>
   (mA (l:Int) (m:Int)).bind fun a1238=>
   (dB a1233 0 ((A.length:Nat):Int)).bind fun a1240=>
   (dO p a1238 A a1240).bind fun y1244=>
   (mA (m:Int) (r:Int)).bind fun a1250=>
   (dB a1233 ((A.length:Nat):Int) ((a1233.length:Nat):Int)).bind fun a1252=>
   (dO p a1250 B a1252).bind fun y1256=>
   (dB y1256 (m:Int) ((y1256.length:Nat):Int)).bind fun a1262=>
   (dB y1244 0 (l:Int)).bind fun a1266=>
   (yI a1266).bind fun y1270=>
   (nA y1270 a1262).bind fun a1275=>
   (nA s1216 [a1275]).bind fun a1283=>
   some a1283) (fun k=>lD p l (jD l A) (k.take A.length)++lD p r (sndL m B) (k.drop A.length)) (kerM p m (rE p l m A B)) [] (by simp;omega) (fun j k s hj hs=>by
  have hk:=rK k (oC hj)
  have hjl:=(List.getElem?_eq_some_iff.1 hj).1
  have s1:dB k 0 ((A.length:Nat):Int)=some (k.take A.length):=by
   unfold dB;rw [if_pos ⟨by omega,by omega,by omega⟩];simp
  have s2:dB k ((A.length:Nat):Int) ((k.length:Nat):Int)=some (k.drop A.length):=by
   unfold dB;rw [if_pos ⟨by omega,by omega,by omega⟩]
   simp only [Int.toNat_natCast]
   rw [List.take_of_length_le (by simp)]
  have c1:=Fh_ hp (by omega:l+m≤bB) hA (cs:=k.take A.length) (fun x hx=>hk.2 x (List.mem_of_mem_take hx)) (by simp;omega)
  have c2:=Fh_ hp (by omega:m+r≤bB) hB (cs:=k.drop A.length) (fun x hx=>hk.2 x (List.mem_of_mem_drop hx)) (by simp;omega)
  have o1:=vV (p:=p) (n:=l+m) hp.1 (rows:=A) (cs:=k.take A.length) hA
  have o2:=vV (p:=p) (n:=m+r) hp.1 (rows:=B) (cs:=k.drop A.length) hB
  have t1:=HX_ (p:=p) A (k.take A.length) (show l≤l+m by omega)
  have t2:=HY_ (p:=p) (l:=m) (w:=m+r) B (k.drop A.length)
  rw [Nat.add_sub_cancel_left] at t2
  have s3:dB (lD p (m+r) B (k.drop A.length)) (m:Int) (((lD p (m+r) B (k.drop A.length)).length:Nat):Int)=some (lD p r (sndL m B) (k.drop A.length)):=by
   unfold dB;rw [if_pos ⟨by omega,by rw [o2.1];omega,by omega⟩]
   simp only [Int.toNat_natCast]
   rw [List.take_of_length_le (by simp),t2]
  have s4:dB (lD p (l+m) A (k.take A.length)) 0 (l:Int)=some (lD p l (jD l A) (k.take A.length)):=by
   unfold dB;rw [if_pos ⟨by omega,by omega,by rw [o1.1];omega⟩]
   simp [t1]
  have lx:(lD p l (jD l A) (k.take A.length)).length=l:=by rw [←t1];simp [o1.1]
  have lz:(lD p r (sndL m B) (k.drop A.length)).length=r:=by rw [←t2];simp [o2.1]
  have a1:mA (l:Int) (m:Int)=some ((l+m:Nat):Int):=by rw [aB (by omega) (by omega)];congr 1
  have a2:mA (m:Int) (r:Int)=some ((m+r:Nat):Int):=by rw [aB (by omega) (by omega)];congr 1
  refine bnd (kA hj) (bnd a1 (bnd s1 (bnd c1 (bnd a2 (bnd s2 (bnd c2 (bnd s3 (bnd s4 (bnd (own_ (by omega)) (bnd (iB (by omega)) (bnd (iB (by simp at hs ⊢;omega)) rfl))))))))))))
 have hred:=bR hf (Nat.le_refl (l+r)) (by omega) (Bs_ hf hA hB) (m:=cmpP p l m r A B) (by simp [cmpP];omega)
 refine bnd (mH [] (by omega)) (bnd hrows (bnd (a:=((A.length+B.length:Nat):Int)) (by rw [aB (by dsimp only;omega) (by dsimp only;omega)];congr 1) (bnd hN (bnd hloop ?_))))
 refine bnd (bnd (aB (by dsimp only;omega) (by dsimp only;omega)) (bnd ?_ rfl)) rfl
 dsimp only
 rw [show ((l:Int)+(r:Int))=((l+r:Nat):Int) by omega]
 exact hred
end Go.Proofs.YtemcakhocdchiaaGreatDoor
namespace Go.Proofs.YtemcakhocdchiaaGreatDoor
abbrev Edg:=Int×Int×List Int×List Int
abbrev Gra:=Int×List Edg×List Int×List Int
def yA {α:Type} (n:Nat) (f:Nat→α):List α:=(List.range n).map f
theorem vE {α:Type} (n:Nat) (f:Nat→α):(yA n f).length=n:=by simp [yA]
theorem lO {α:Type}{n k:Nat} (f:Nat→α) (h:k<n):(yA n f)[k]?=some (f k):=by
 unfold yA;rw [List.getElem?_map,List.getElem?_range h];rfl
theorem bE {α:Type}{n k:Nat} (f:Nat→α) (h:k<n):idxO (yA n f) (k:Int)=some (f k):=kA (lO f h)
theorem bD {α:Type}{n:Nat}{f g:Nat→α} (h:∀ k,k<n→f k=g k):yA n f=yA n g:=by
 unfold yA;exact List.map_congr_left fun k hk=>h k (List.mem_range.1 hk)
theorem IS_ {α:Type}{n m:Nat} (f:Nat→α) (v:α):(yA n f).set m v=yA n (fun k=>if k=m then v else f k):=by
 apply List.ext_getElem?
 intro j
 rw [List.getElem?_set]
 by_cases hj:j<n
 ·
  rw [lO _ hj,lO _ hj]
  by_cases hm:m=j
  · rw [if_pos hm,if_pos hm.symm,if_pos (by rw [vE];omega)]
  · rw [if_neg hm,if_neg (fun h=>hm h.symm)]
 ·
  rw [List.getElem?_eq_none (by rw [vE];omega),List.getElem?_eq_none (by rw [vE];omega)]
  split <;> simp [vE] <;> omega
theorem mE {α:Type}{n m:Nat} (f:Nat→α) (v:α) (h:m<n):setO (yA n f) (m:Int) v=some (yA n (fun k=>if k=m then v else f k)):=by
 rw [tC _ (by rw [vE];exact h),IS_]
theorem eR {α:Type} (n:Nat) (z:α):List.replicate n z=yA n (fun _=>z):=by
 apply List.ext_getElem?
 intro j
 by_cases hj:j<n
 · rw [lO _ hj,List.getElem?_replicate,if_pos hj]
 · rw [List.getElem?_replicate,if_neg hj,List.getElem?_eq_none (by rw [vE];omega)]
theorem aJ {α:Type}{n:Nat} (z:α) (h:n≤bB):aD (n:Int) z=some (yA n fun _=>z):=by rw [mH z h,eR]
def tF (k v:Int):Bool:=rng k 3 14&&(if k=7∨k=13 then rng v 0 96 else decide (v=0))
def kd (k:Int):Int×Int:=if k=2 then (2,2) else if k=3∨k=11 then (1,2) else if k=4∨k=12 then (1,0) else if k=5∨k=9 then (2,1) else if k=6∨k=10 then (0,1) else (1,1)
def arB (e:Edg):Bool:=tF e.1 e.2.1&&(decide ((e.2.2.1.length:Int)=(kd e.1).1)&&decide ((e.2.2.2.length:Int)=(kd e.1).2))
def wOk (n:Int) (l:List Int):Bool:=l.all fun x=>rng x 0 (n-1)
theorem tmKind_ (k:Int):zN k=some (kd k):=by
 unfold zN kd
 by_cases h2:k=2
 · simp [h2]
 by_cases h3:k=3∨k=11
 · rcases h3 with h3 | h3 <;> simp [h3]
 by_cases h4:k=4∨k=12
 · rcases h4 with h3 | h3 <;> simp [h3]
 by_cases h5:k=5∨k=9
 · rcases h5 with h3 | h3 <;> simp [h3]
 by_cases h6:k=6∨k=10
 · rcases h6 with h3 | h3 <;> simp [h3]
 rw [if_neg h2,if_neg h3,if_neg h4,if_neg h5,if_neg h6]
 simp only [not_or] at *
 simp [*]
theorem yQ {k v:Int} (hk:rng k 3 14=true):kH (k,v,.empty)=some (tF k v):=by
 have hr:=rng_true.1 hk
 unfold kH tF
 have h1:rng k 1 14=true:=rng_true.2 (by omega)
 by_cases h7:k=7
 · subst h7;simp [l1In,h1,hk]
 by_cases h13:k=13
 · subst h13;simp [l1In,h1,hk]
 have h0:¬k=1:=by omega
 simp [l1In,h1,hk,h7,h13,h0]
theorem hgEdge_ (e:Edg){n:Int} (h0:0≤n) (h1:n≤100):zT e n=some (arB e&&(wOk n e.2.2.1&&wOk n e.2.2.2)):=by
 obtain ⟨k,v,a,b⟩:=e
 unfold zT arB
 have hs:subO n 1=some (n-1):=wC (by omega) (by omega)
 cases hk:rng k 3 14 with
 | false=>
  have:tF k v=false:=by unfold tF;rw [hk];rfl
  simp [l1In,hk,this]
 | true=>
  cases hg:tF k v with
  | false=>simp [l1In,hk,yQ hk,hg]
  | true=>
   by_cases ha:(a.length:Int)=(kd k).1
   ·
    by_cases hb:(b.length:Int)=(kd k).2
    ·
     cases hw:wOk n a with
     | false=>unfold wOk at hw;simp [l1In,hk,yQ hk,hg,tmKind_,ha,hb,hs,l1All,hw]
     | true=>unfold wOk at hw;simp [l1In,hk,yQ hk,hg,tmKind_,ha,hb,hs,l1All,hw,wOk]
    · simp [l1In,hk,yQ hk,hg,tmKind_,ha,hb]
   · simp [l1In,hk,yQ hk,hg,tmKind_,ha]
theorem lY {k v:Int} (hk:rng k 3 14=true):qP k v=some (tF k v):=by
 unfold qP wN tF
 by_cases h7:k=7
 · subst h7;simp [within_,hk]
 by_cases h13:k=13
 · subst h13;simp [within_,hk]
 simp [hk,h7,h13]
theorem zP {k:Int} (hk:rng k 3 14=true):nM k=some (kd k):=by
 have hr:=rng_true.1 hk
 have:k=3∨k=4∨k=5∨k=6∨k=7∨k=8∨k=9∨k=10∨k=11∨k=12∨k=13∨k=14:=by omega
 rcases this with rfl | rfl | rfl | rfl | rfl | rfl | rfl | rfl | rfl | rfl | rfl | rfl <;> rfl
theorem isEdge_ (e:Edg):fT e=some (arB e):=by
 obtain ⟨k,v,a,b⟩:=e
 unfold fT arB uN
 cases hk:rng k 3 14 with
 | false=>
  have:tF k v=false:=by unfold tF;rw [hk];rfl
  simp [within_,hk,this]
 | true=>
  cases hg:tF k v with
  | false=>simp [within_,hk,lY hk,hg]
  | true=>
   simp only [within_,hk,lY hk,hg,zP hk,Option.bind_some,Bool.not_true,cond_false,Bool.true_and]
   congr 1
   rw [←Bool.decide_and]
   refine decide_eq_decide.2 ?_
   simp only [List.cons.injEq,and_true]
   exact ⟨fun ⟨x,y⟩=>⟨x.symm,y.symm⟩,fun ⟨x,y⟩=>⟨x.symm,y.symm⟩⟩
def edI (e:Edg):List Int:=e.2.2.1
def edO (e:Edg):List Int:=e.2.2.2
theorem wV {n:Nat} (l:List Int) (f:Nat→Int) (hl:∀ x∈l,0≤x∧x<(n:Int)) (B:Int) (hf:∀ k,k<n→0≤f k∧f k+l.length≤B) (hB:B≤4611686018427387904){g:Nat→List Int→Option (List Int)}
  (hg:∀ k s,g k s=((idxO l (k:Int)).bind fun a=>(idxO s a).bind fun b=>(mA b 1).bind fun c=>(setO s a c).bind fun t=>some t)) :
  forS g l.length 0 (yA n f)=some (yA n fun k=>f k+(l.count (k:Int):Nat)):=by
 have:=xC (f:=g) (n:=l.length) (fun j=>yA n fun k=>f k+((l.take j).count (k:Int):Nat)) (fun j hj=>by
  rw [hg]
  have hm:=hl l[j] (List.getElem_mem hj)
  obtain ⟨m,hme⟩:∃ m:Nat,l[j]=(m:Int):=⟨l[j].toNat,by omega⟩
  have hmn:m<n:=by omega
  refine bnd (kA (List.getElem?_eq_getElem hj)) ?_
  rw [hme]
  have hb:=hf m hmn
  have hc:((l.take j).count (m:Int))≤j:=Nat.le_trans List.count_le_length (by simp;omega)
  refine bnd (bE _ hmn) (bnd (aB (by omega) (by omega)) (bnd (mE _ _ hmn) (congrArg some (bD fun k hk=>?_))))
  rw [List.take_add_one,List.getElem?_eq_getElem hj,List.count_append,hme]
  by_cases h:k=m
  · subst h;simp;omega
  ·
   rw [if_neg h]
   have:¬(m:Int)=(k:Int):=by omega
   simp [this])
 have e0:(fun k=>f k+(((l.take 0).count ((k:Nat):Int):Nat):Int))=f:=by funext k;simp
 rw [List.take_length] at this
 rw [←this]
 congr 2
 exact e0.symm
def lE (E:List Edg) (s:Edg→List Int) (k:Nat):Nat:=((E.map s).flatten).count (k:Int)
def cD (E:List Edg) (s:Edg→List Int):Nat:=((E.map s).flatten).length
theorem xO {n:Nat}{l:List Int} (h:wOk n l=true):∀ x∈l,0≤x∧x<(n:Int):=by
 intro x hx
 have:=rng_true.1 (List.all_eq_true.1 h x hx)
 omega
def eD (g:Gra):List Int:=g.2.2.1++g.2.2.2++(g.2.1.map fun e=>edI e++edO e).flatten
def edW (n:Int) (e:Edg):Bool:=arB e&&(wOk n (edI e)&&wOk n (edO e))
def gOk (g:Gra):Bool:=rng g.1 0 100&&(decide (g.2.1.length≤60)&&(decide (g.2.2.1.length≤12)&&(decide (g.2.2.2.length≤12)&&(wOk g.1 g.2.2.1&&(wOk g.1 g.2.2.2&&(g.2.1.all (edW g.1)&&(List.range g.1.toNat).all fun k:Nat=>decide ((k:Int)∈eD g)))))))
theorem kd_le (k:Int):0≤(kd k).1∧(kd k).1≤2∧0≤(kd k).2∧(kd k).2≤2:=by
 unfold kd
 split <;> first | (refine ⟨?_,?_,?_,?_⟩ <;> decide) | skip
 split <;> first | (refine ⟨?_,?_,?_,?_⟩ <;> decide) | skip
 split <;> first | (refine ⟨?_,?_,?_,?_⟩ <;> decide) | skip
 split <;> first | (refine ⟨?_,?_,?_,?_⟩ <;> decide) | skip
 split <;> (refine ⟨?_,?_,?_,?_⟩ <;> decide)
theorem arB_len {e:Edg} (h:arB e=true):(edI e).length≤2∧(edO e).length≤2:=by
 unfold arB at h
 simp only [Bool.and_eq_true,decide_eq_true_eq] at h
 have:=kd_le e.1
 unfold edI edO
 omega
theorem Do_ {n:Nat}{E:List Edg}{I O:List Int} (hn:n≤1048576) (hI:∀ x∈I,0≤x∧x<(n:Int)) (hO:∀ x∈O,0≤x∧x<(n:Int)) (hE:∀ e∈E,(∀ x∈edI e,0≤x∧x<(n:Int))∧(∀ x∈edO e,0≤x∧x<(n:Int)))
  (hB:I.length+O.length+cD E edI+cD E edO≤1099511627776) :
  jT ((n:Int),E,I,O)=some (yA n (fun k=>((I.count (k:Int)+lE E edO k:Nat):Int)),yA n (fun k=>((O.count (k:Int)+lE E edI k:Nat):Int))):=by
 have hm:bB=1099511627776:=rfl
 refine bnd (aJ _ (by omega)) (bnd (aJ _ (by omega)) ?_)
 have hc:∀ (l:List Int) (k:Nat),l.count (k:Int)≤l.length:=fun l k=>List.count_le_length
 refine bnd (wV I (fun _=>0) hI 1099511627776 (fun k _=>by omega) (by omega) (fun _ _=>rfl)) ?_
 refine bnd (wV O (fun _=>0) hO 1099511627776 (fun k _=>by omega) (by omega) (fun _ _=>rfl)) ?_
 have key:=xC (n:=E.length) (fun j=>(yA n (fun k=>((I.count (k:Int)+lE (E.take j) edO k:Nat):Int)),yA n (fun k=>((O.count (k:Int)+lE (E.take j) edI k:Nat):Int)))) (f:=fun (k215:Nat) (s652:List Int×List Int)=>
   (idxO E ((k215:Nat):Int)).bind fun a667=>
   (forS (fun (k679:Nat) (s738:List Int)=>
     (idxO a667.2.2.2 ((k679:Nat):Int)).bind fun a753=>
     (idxO s738 a753).bind fun a761=>
     (mA a761 1).bind fun a763=>
     (setO s738 a753 a763).bind fun a771=>
     some a771) a667.2.2.2.length 0 s652.1).bind fun (s776:List Int)=>
   (forS (fun (k778:Nat) (s837:List Int)=>
     (idxO a667.2.2.1 ((k778:Nat):Int)).bind fun a852=>
     (idxO s837 a852).bind fun a860=>
     (mA a860 1).bind fun a862=>
     (setO s837 a852 a862).bind fun a870=>
     some a870) a667.2.2.1.length 0 s652.2).bind fun (s875:List Int)=>
   some (s776,s875)) (fun j hj=>by
  have he:=hE _ (List.getElem_mem hj)
  have hsum:∀ s:Edg→List Int,cD (E.take (j+1)) s=cD (E.take j) s+(s E[j]).length:=fun s=>by
   unfold cD;rw [List.take_add_one,List.getElem?_eq_getElem hj,List.map_append,List.flatten_append,List.length_append];simp only [Option.toList_some,List.map_cons,List.map_nil,List.flatten_cons,List.flatten_nil,List.append_nil]
  have hle:∀ s:Edg→List Int,cD (E.take (j+1)) s≤cD E s:=fun s=>by
   unfold cD
   have:E=E.take (j+1)++E.drop (j+1):=(List.take_append_drop _ _).symm
   conv=>rhs;rw [this]
   rw [List.map_append,List.flatten_append,List.length_append];omega
  have hct:∀ (s:Edg→List Int) (k:Nat),lE (E.take j) s k≤cD (E.take j) s:=fun s k=>List.count_le_length
  have hcs:∀ (s:Edg→List Int) (k:Nat),lE (E.take (j+1)) s k=lE (E.take j) s k+(s E[j]).count (k:Int):=fun s k=>by
   unfold lE;rw [List.take_add_one,List.getElem?_eq_getElem hj,List.map_append,List.flatten_append,List.count_append];simp only [Option.toList_some,List.map_cons,List.map_nil,List.flatten_cons,List.flatten_nil,List.append_nil]
  have h1:=hsum edI;have h2:=hsum edO;have h3:=hle edI;have h4:=hle edO
  refine bnd (kA (List.getElem?_eq_getElem hj)) ?_
  refine bnd (wV (edO E[j]) _ he.2 1099511627776 (fun k _=>by have:=hct edO k;have:=hc I k;omega) (by omega) (fun _ _=>rfl)) ?_
  refine bnd (wV (edI E[j]) _ he.1 1099511627776 (fun k _=>by have:=hct edI k;have:=hc O k;omega) (by omega) (fun _ _=>rfl)) ?_
  refine congrArg some (Prod.ext (bD fun k hk=>?_) (bD fun k hk=>?_))
  · rw [hcs];push_cast;omega
  · rw [hcs];push_cast;omega)
 have e1:∀ (l:List Int) (s:Edg→List Int),yA n (fun k=>(0:Int)+(l.count (k:Int):Nat))=yA n (fun k=>((l.count (k:Int)+lE (E.take 0) s k:Nat):Int)):=fun l s=>bD fun k hk=>by
  unfold lE;simp
 rw [e1 I edO,e1 O edI]
 refine bnd key ?_
 rw [List.take_length]
theorem all_app (n:Int) (a b:List Int):wOk n (a++b)=(wOk n a&&wOk n b):=by unfold wOk;rw [List.all_append]
theorem pW {n:Int}{E:List Edg} (h:E.all (edW n)=true):E.all arB=true:=by
 rw [List.all_eq_true] at h ⊢
 intro e he
 have:=h e he
 unfold edW at this
 simp only [Bool.and_eq_true] at this
 exact this.1
theorem Ep_ {E:List Edg} (h:E.all arB=true):cD E edI≤2*E.length∧cD E edO≤2*E.length:=by
 induction E with
 | nil=>exact ⟨Nat.le_refl _,Nat.le_refl _⟩
 | cons e E ih=>
  simp only [List.all_cons,Bool.and_eq_true] at h
  have h1:=arB_len h.1
  have h2:=ih h.2
  unfold cD at h2 ⊢
  simp only [List.map_cons,List.flatten_cons,List.length_append,List.length_cons]
  omega
theorem iW {E:List Edg}{s:Edg→List Int}{k:Nat}:lE E s k=0↔¬∃ e∈E,(k:Int)∈s e:=by
 unfold lE
 rw [List.count_eq_zero,List.mem_flatten]
 constructor
 · rintro h ⟨e,he,hk⟩;exact h ⟨s e,List.mem_map.2 ⟨e,he,rfl⟩,hk⟩
 ·
  rintro h ⟨l,hl,hk⟩
  obtain ⟨e,he,rfl⟩:=List.mem_map.1 hl
  exact h ⟨e,he,hk⟩
theorem DT_ {g:Gra}{k:Int}:k∈eD g↔k∈g.2.2.1∨k∈g.2.2.2∨∃ e∈g.2.1,k∈edI e∨k∈edO e:=by
 unfold eD
 rw [List.mem_append,List.mem_append,List.mem_flatten]
 constructor
 ·
  rintro ((h | h) | ⟨l,hl,h⟩)
  · exact .inl h
  · exact .inr (.inl h)
  ·
   obtain ⟨e,he,rfl⟩:=List.mem_map.1 hl
   exact .inr (.inr ⟨e,he,List.mem_append.1 h⟩)
 ·
  rintro (h | h | ⟨e,he,h⟩)
  · exact .inl (.inl h)
  · exact .inl (.inr h)
  · exact .inr ⟨_,List.mem_map.2 ⟨e,he,rfl⟩,List.mem_append.2 h⟩
theorem E3_ {n:Nat}{E:List Edg} (h:E.all (edW n)=true):∀ e∈E,(∀ x∈edI e,0≤x∧x<(n:Int))∧(∀ x∈edO e,0≤x∧x<(n:Int)):=by
 intro e he
 have:=List.all_eq_true.1 h e he
 unfold edW at this
 simp only [Bool.and_eq_true] at this
 exact ⟨xO this.2.1,xO this.2.2⟩
theorem AU_ (g:Gra):iQ g=some (gOk g):=by
 obtain ⟨n,E,I,O⟩:=g
 unfold iQ gOk
 cases hr:rng n 0 100 with
 | false=>simp [l1In,hr]
 | true=>
  have hn:=rng_true.1 hr
  have hs:subO n 1=some (n-1):=wC (by omega) (by omega)
  by_cases hE:E.length≤60
  case neg=>
   have:(60:Int)<(E.length:Int):=by omega
   simp [l1In,hr,hE,this]
  have hE':¬(60:Int)<(E.length:Int):=by omega
  by_cases hI:I.length≤12
  case neg=>
   have:(12:Int)<(I.length:Int):=by omega
   simp [l1In,hr,hE,hE',hI,this]
  have hI':¬(12:Int)<(I.length:Int):=by omega
  by_cases hO:O.length≤12
  case neg=>
   have:(12:Int)<(O.length:Int):=by omega
   simp [l1In,hr,hE,hE',hI,hI',hO,this]
  have hO':¬(12:Int)<(O.length:Int):=by omega
  cases hwI:wOk n I with
  | false=>unfold wOk at hwI;simp [l1In,hr,hE,hE',hI,hI',hO,hO',hs,l1All,hwI]
  | true=>
  cases hwO:wOk n O with
  | false=>unfold wOk at hwI hwO;simp [l1In,hr,hE,hE',hI,hI',hO,hO',hs,l1All,hwO]
  | true=>
  have hl1:lL I 0 (n-1)=some true:=by rw [l1All];exact congrArg some hwI
  have hl2:lL O 0 (n-1)=some true:=by rw [l1All];exact congrArg some hwO
  simp only [l1In,hr,dF hE',dF hI',dF hO',dT hE,dT hI,dT hO,hs,hl1,hl2,Option.bind_some,Bool.not_true,cond_false,Bool.true_and]
  refine sqW (uG (edW n) E 0 ?_ (t:=false)) ?_
  ·
   intro j e hj
   rw [Nat.zero_add]
   refine bnd (kA hj) (bnd (hgEdge_ e hn.1 hn.2) (stp ?_))
   have:(arB e&&(wOk n e.2.2.1&&wOk n e.2.2.2))=edW n e:=rfl
   rw [this]
   cases edW n e <;> rfl
  ·
   cases hall:E.all (edW n) with
   | false=>rfl
   | true=>
    rw [if_pos rfl,pH]
    obtain ⟨m,rfl⟩:∃ m:Nat,n=(m:Int):=⟨n.toNat,by omega⟩
    have h2:=Ep_ (pW hall)
    refine bnd (Do_ (by omega) (xO hwI) (xO hwO) (E3_ hall) (by omega)) ?_
    dsimp only
    have hlen:∀ f:Nat→Int,(yA m f).length=(List.range m).length:=fun f=>by rw [vE,List.length_range]
    rw [hlen]
    refine sqW (uG (fun k:Nat=>decide ((k:Int)∈eD ((m:Int),E,I,O))) (List.range m) 0 ?_ (t:=false)) ?_
    ·
     intro j k hj
     obtain ⟨hjm,hje⟩:=List.getElem?_eq_some_iff.1 hj
     rw [List.getElem_range] at hje
     subst hje
     rw [List.length_range] at hjm
     rw [Nat.zero_add]
     have c1:I.count (j:Int)≤I.length:=List.count_le_length
     have c2:O.count (j:Int)≤O.length:=List.count_le_length
     have c3:lE E edI j≤cD E edI:=List.count_le_length
     have c4:lE E edO j≤cD E edO:=List.count_le_length
     refine bnd (bE _ hjm) (bnd (bE _ hjm) (bnd (aB (by omega) (by omega)) (stp ?_)))
     have hiff:(j:Int)∈eD ((m:Int),E,I,O)↔¬(((I.count (j:Int)+lE E edO j:Nat):Int)+((O.count (j:Int)+lE E edI j:Nat):Int)=0):=by
      rw [DT_]
      dsimp only
      have z1:I.count (j:Int)=0↔¬(j:Int)∈I:=List.count_eq_zero
      have z2:O.count (j:Int)=0↔¬(j:Int)∈O:=List.count_eq_zero
      have z3:=iW (E:=E) (s:=edI) (k:=j)
      have z4:=iW (E:=E) (s:=edO) (k:=j)
      constructor
      ·
       intro h h0
       have y1:=z1.1 (by omega);have y2:=z2.1 (by omega);have y3:=z3.1 (by omega);have y4:=z4.1 (by omega)
       rcases h with h | h | ⟨e,he,h | h⟩
       · exact y1 h
       · exact y2 h
       · exact y3 ⟨e,he,h⟩
       · exact y4 ⟨e,he,h⟩
      ·
       intro h
       refine Decidable.byContradiction fun hc=>h ?_
       simp only [not_or] at hc
       have y1:=z1.2 hc.1;have y2:=z2.2 hc.2.1
       have y3:=z3.2 (fun ⟨e,he,hk⟩=>hc.2.2 ⟨e,he,.inl hk⟩)
       have y4:=z4.2 (fun ⟨e,he,hk⟩=>hc.2.2 ⟨e,he,.inr hk⟩)
       omega
     by_cases hk:(j:Int)∈eD ((m:Int),E,I,O)
     · rw [dT hk,dF (hiff.1 hk)];rfl
     · rw [dF hk,dT (Decidable.byContradiction fun hc=>hk (hiff.2 hc))];rfl
    ·
     rw [Int.toNat_natCast]
     cases (List.range m).all fun k:Nat=>decide ((k:Int)∈eD ((m:Int),E,I,O)) <;> rfl
def kJ (n:Nat) (d:List Int):List Bool:=yA n fun k=>decide ((k:Int)∈d)
def seenN (n:Nat) (d:List Int):Nat:=(List.range n).countP fun k:Nat=>decide ((k:Int)∈d)
theorem IV_ (n:Nat) (d:List Int):seenN n d≤n:=by
 have:=List.countP_le_length (p:=fun k:Nat=>decide ((k:Int)∈d)) (l:=List.range n)
 rwa [List.length_range] at this
theorem HW_ {n m:Nat} (h:m<n) (P:Nat→Bool) (hP:P m=false):(List.range n).countP (fun k=>decide (k=m)||P k)=(List.range n).countP P+1:=by
 induction n with
 | zero=>omega
 | succ n ih=>
  rw [List.range_succ,List.countP_append,List.countP_append]
  by_cases hm:m=n
  ·
   subst hm
   have:(List.range m).countP (fun k=>decide (k=m)||P k)=(List.range m).countP P:=by
    refine List.countP_congr fun k hk=>?_
    have:¬k=m:=by have:=List.mem_range.1 hk;omega
    simp [this]
   rw [this]
   simp [hP]
  ·
   rw [ih (by omega)]
   have:¬n=m:=by omega
   simp [this];omega
theorem Ib_ (n:Nat) (d:List Int) (m:Nat) (hm:m<n) (h:¬(m:Int)∈d):seenN n (d++[(m:Int)])=seenN n d+1∧(yA n fun k=>if k=m then true else decide ((k:Int)∈d))=kJ n (d++[(m:Int)]):=by
 constructor
 ·
  unfold seenN
  rw [←HW_ hm (fun k:Nat=>decide ((k:Int)∈d)) (dF h)]
  refine List.countP_congr fun k _=>?_
  simp only [List.mem_append,List.mem_singleton,decide_eq_true_eq,Bool.or_eq_true]
  constructor
  ·
   rintro (h | h)
   · exact .inr h
   · exact .inl (by omega)
  ·
   rintro (h | h)
   · exact .inr (by omega)
   · exact .inl h
 ·
  refine bD fun k _=>?_
  by_cases hk:k=m
  · rw [if_pos hk,dT];simp [hk]
  ·
   rw [if_neg hk,decide_eq_decide]
   have:¬(k:Int)=(m:Int):=by omega
   simp [this]
theorem Dd_ (n:Nat) (d:List Int) (x:Int) (h:x∈d∨rng x 0 ((n:Int)-1)=false):seenN n (d++[x])=seenN n d∧kJ n (d++[x])=kJ n d:=by
 have:∀ k,k<n→decide ((k:Int)∈d++[x])=decide ((k:Int)∈d):=fun k hk=>by
  rw [decide_eq_decide,List.mem_append,List.mem_singleton]
  constructor
  ·
   rintro (h1 | h1)
   · exact h1
   ·
    rcases h with h | h
    · rw [h1];exact h
    ·
     have:rng x 0 ((n:Int)-1)=true:=rng_true.2 (by omega)
     rw [this] at h;cases h
  · exact .inl
 exact ⟨List.countP_congr fun k hk=>by rw [this k (List.mem_range.1 hk)],bD this⟩
theorem bV {n:Nat} (hn:n≤100) (E:List Edg) (I O l d:List Int):rJ l ((n:Int),E,I,O) (wOk n d) (kJ n d) ((seenN n d:Nat):Int)=some (wOk n (d++l),kJ n (d++l),((seenN n (d++l):Nat):Int)):=by
 unfold rJ
 have:=xC (n:=l.length) (fun j=>(wOk n (d++l.take j),((seenN n (d++l.take j):Nat):Int),kJ n (d++l.take j))) (f:=fun (k10:Nat) (s199:Bool×Int×List Bool)=>
   ((idxO l ((k10:Nat):Int)).bind fun a262=>
    (subO (n:Int) 1).bind fun a264=>
    (dH a262 0 a264).bind fun y266=>
    (some (!y266)).bind fun a269=>
    cond a269
    (some (false,s199.2.1,s199.2.2))
    ((idxO s199.2.2 a262).bind fun a278=>
     (some (!a278)).bind fun a280=>
     cond a280
     ((setO s199.2.2 a262 true).bind fun a290=>
      (mA s199.2.1 1).bind fun a293=>
      some (s199.1,a293,a290))
     (some (s199.1,s199.2.1,s199.2.2)))).bind fun (s250:Bool×Int×List Bool)=>
   some (s250.1,s250.2.1,s250.2.2)) (fun j hj=>by
  have hlen:=IV_ n (d++l.take j)
  have e1:d++l.take (j+1)=(d++l.take j)++[l[j]]:=by rw [List.take_add_one,List.getElem?_eq_getElem hj];simp
  have e2:wOk n (d++l.take (j+1))=(wOk n (d++l.take j)&&rng l[j] 0 (n-1)):=by rw [e1,all_app];congr 1;unfold wOk;simp
  refine bndW (bnd (kA (List.getElem?_eq_getElem hj)) (bnd (wC (by omega) (by omega)) (bnd (within_ _ _ _) (stp rfl)))) ?_
  cases hr:rng l[j] 0 ((n:Int)-1) with
  | false=>
   have h3:=Dd_ n (d++l.take j) l[j] (.inr hr)
   rw [←e1] at h3
   rw [e2,hr,h3.1,h3.2,Bool.and_false];rfl
  | true=>
   have hx:=rng_true.1 hr
   obtain ⟨m,hme⟩:∃ m:Nat,l[j]=(m:Int):=⟨l[j].toNat,by omega⟩
   rw [e2,hr,Bool.and_true,hme]
   refine bndW (bnd (bE _ (by omega)) (stp rfl)) ?_
   by_cases hm:(m:Int)∈d++l.take j
   ·
    have h3:=Dd_ n (d++l.take j) l[j] (.inl (by rw [hme];exact hm))
    rw [←e1] at h3
    rw [dT hm,h3.1,h3.2];rfl
   ·
    have h3:=Ib_ n (d++l.take j) m (by omega) hm
    rw [←hme,← e1] at h3
    rw [dF hm]
    refine bndW (bnd (mE _ _ (by omega)) (bnd (aB (by dsimp only;omega) (by dsimp only;omega)) rfl)) ?_
    rw [h3.1]
    show some _=some _
    refine congrArg some (Prod.ext rfl (Prod.ext ?_ ?_))
    · dsimp only;push_cast;rfl
    · dsimp only;rw [←h3.2])
 simp only [List.take_zero,List.append_nil,List.take_length] at this
 rw [this];rfl
theorem Iw_ {n:Nat} (hn:n≤100) (E:List Edg) (I O:List Int):sS ((n:Int),E,I,O) ((n:Int),E,I,O) true (yA n fun _=>false) 0=some (wOk n (eD ((n:Int),E,I,O)),kJ n (eD ((n:Int),E,I,O)),((seenN n (eD ((n:Int),E,I,O)):Nat):Int)):=by
 unfold sS
 have h0:(yA n fun _=>false)=kJ n []:=by unfold kJ;simp
 have h1:(0:Int)=((seenN n []:Nat):Int):=by unfold seenN;simp
 have h2:true=wOk n []:=rfl
 rw [h0,h1,h2]
 refine bnd (bV hn E I O I []) (bnd (bV hn E I O O ([]++I)) ?_)
 have:=xC (n:=E.length) (fun j=>(((seenN n ([]++I++O++((E.take j).map fun e=>edI e++edO e).flatten):Nat):Int),wOk n ([]++I++O++((E.take j).map fun e=>edI e++edO e).flatten),kJ n ([]++I++O++((E.take j).map fun e=>edI e++edO e).flatten))) (f:=fun (k21:Nat) (s74:Int×Bool×List Bool)=>
   (idxO E ((k21:Nat):Int)).bind fun a89=>
   (rJ a89.2.2.1 ((n:Int),E,I,O) s74.2.1 s74.2.2 s74.1).bind fun y101=>
   (rJ a89.2.2.2 ((n:Int),E,I,O) y101.1 y101.2.1 y101.2.2).bind fun y104=>
   some (y104.2.2,y104.1,y104.2.1)) (fun j hj=>by
  have e1:[]++I++O++((E.take (j+1)).map fun e=>edI e++edO e).flatten=[]++I++O++((E.take j).map fun e=>edI e++edO e).flatten++edI E[j]++edO E[j]:=by
   rw [List.take_add_one,List.getElem?_eq_getElem hj,List.map_append,List.flatten_append]
   simp only [Option.toList_some,List.map_cons,List.map_nil,List.flatten_cons,List.flatten_nil,List.append_nil,List.append_assoc]
  rw [e1]
  exact bnd (kA (List.getElem?_eq_getElem hj)) (bnd (bV hn E I O (edI E[j]) _) (bnd (bV hn E I O (edO E[j]) _) rfl)))
 simp only [List.take_zero,List.take_length,List.map_nil,List.flatten_nil,List.append_nil] at this
 refine bnd this ?_
 unfold eD
 simp only [List.nil_append]
theorem IQ_ {n:Int}{E:List Edg}{I O:List Int} (h:E.all arB=true):wOk n (eD (n,E,I,O))=(wOk n I&&(wOk n O&&E.all (edW n))):=by
 unfold eD
 rw [all_app,all_app,Bool.and_assoc]
 congr 2
 show wOk n (E.map fun e=>edI e++edO e).flatten=E.all (edW n)
 clear I O
 induction E with
 | nil=>rfl
 | cons e E ih=>
  simp only [List.all_cons,Bool.and_eq_true] at h
  rw [List.map_cons,List.flatten_cons,all_app,all_app,List.all_cons]
  rw [ih h.2]
  unfold edW
  rw [h.1,Bool.true_and]
theorem AS_ (g:Gra):sJ g=some (gOk g):=by
 obtain ⟨n,E,I,O⟩:=g
 unfold sJ gOk
 cases hr:rng n 0 100 with
 | false=>simp [within_,hr]
 | true=>
  have hn:=rng_true.1 hr
  by_cases hE:E.length≤60
  case neg=>
   have:(60:Int)<(E.length:Int):=by omega
   simp [within_,hr,hE,this]
  have hE':¬(60:Int)<(E.length:Int):=by omega
  by_cases hI:I.length≤12
  case neg=>
   have:(12:Int)<(I.length:Int):=by omega
   simp [within_,hr,hE,hE',hI,this]
  have hI':¬(12:Int)<(I.length:Int):=by omega
  by_cases hO:O.length≤12
  case neg=>
   have:(12:Int)<(O.length:Int):=by omega
   simp [within_,hr,hE,hE',hI,hI',hO,this]
  have hO':¬(12:Int)<(O.length:Int):=by omega
  simp only [within_,hr,dF hE',dF hI',dF hO',dT hE,dT hI,dT hO,Option.bind_some,Bool.not_true,cond_false,Bool.true_and]
  obtain ⟨m,rfl⟩:∃ m:Nat,n=(m:Int):=⟨n.toNat,by omega⟩
  refine sqW (uG arB E 0 ?_ (t:=false)) ?_
  ·
   intro j e hj
   rw [Nat.zero_add]
   refine bnd (kA hj) (bnd (isEdge_ e) (stp ?_))
   cases arB e <;> rfl
  ·
   cases hall:E.all arB with
   | false=>
    have:E.all (edW (m:Int))=false:=by
     cases h:E.all (edW (m:Int)) with
     | false=>rfl
     | true=>rw [pW h] at hall;cases hall
    rw [this]
    simp [uB]
   | true=>
    rw [if_pos rfl,pH]
    refine bnd (aJ _ (by unfold bB;omega)) (bnd (Iw_ (by omega) E I O) ?_)
    dsimp only
    rw [IQ_ hall]
    have hcov:decide (((seenN m (eD ((m:Int),E,I,O)):Nat):Int)=(m:Int))=(List.range m).all fun k:Nat=>decide ((k:Int)∈eD ((m:Int),E,I,O)):=by
     rw [Bool.eq_iff_iff,decide_eq_true_eq,List.all_eq_true]
     have:seenN m (eD ((m:Int),E,I,O))=(List.range m).length↔_:=List.countP_eq_length
     rw [List.length_range] at this
     rw [←this];omega
    rw [hcov,Int.toNat_natCast]
    cases wOk (m:Int) I <;> cases wOk (m:Int) O <;> cases E.all (edW (m:Int)) <;> rfl
end Go.Proofs.YtemcakhocdchiaaGreatDoor
namespace Go.Proofs.YtemcakhocdchiaaGreatDoor
theorem Hu_ {σ τ:Type}{f:σ→Option (σ⊕τ)} (I:σ→Prop) (Q:τ→Prop) (μ:σ→Nat) (h:∀ s,I s→(∃ s',f s=some (.inl s')∧I s'∧μ s'<μ s)∨(∃ t,f s=some (.inr t)∧Q t)){s:σ} (hs:I s):∃ t,nB f s=some t∧Q t:=by
 have key:∀ n s,μ s≤n→I s→∃ t,nB f s=some t∧Q t:=by
  intro n
  induction n with
  | zero=>
   intro s hn hs
   rcases h s hs with ⟨s',_,_,hl⟩ | ⟨t,ht,hq⟩
   · omega
   · exact ⟨t,kF ht,hq⟩
  | succ n ih=>
   intro s hn hs
   rcases h s hs with ⟨s',h1,h2,hl⟩ | ⟨t,ht,hq⟩
   ·
    obtain ⟨t,h3,h4⟩:=ih s' (by omega) h2
    exact ⟨t,by rw [qG h1];exact h3,h4⟩
   · exact ⟨t,kF ht,hq⟩
 exact key _ s (Nat.le_refl _) hs
theorem D3_ {σ:Type}{f:Nat→σ→Option σ} (I:Nat→σ→Prop):∀ (n k:Nat) (s:σ),I k s→(∀ j s,k≤j→j<k+n→I j s→∃ s',f j s=some s'∧I (j+1) s')→∃ r,forS f n k s=some r∧I (k+n) r
 | 0,k,s,h0,_=>⟨s,rfl,h0⟩
 | n+1,k,s,h0,h=>by
  obtain ⟨s',h1,h2⟩:=h k s (Nat.le_refl _) (by omega) h0
  obtain ⟨r,h3,h4⟩:=D3_ I n (k+1) s' h2 (fun j s hj hl hi=>h j s (by omega) (by omega) hi)
  refine ⟨r,?_,by rwa [show k+1+n=k+(n+1) by omega] at h4⟩
  show (f k s).bind _=_
  rw [h1];exact h3
theorem AX_ {σ:Type}{f:Nat→σ→Option σ}{n:Nat}{s:σ} (I:Nat→σ→Prop) (h0:I 0 s) (h:∀ j s,j<n→I j s→∃ s',f j s=some s'∧I (j+1) s'):∃ r,forS f n 0 s=some r∧I n r:=by
 obtain ⟨r,h1,h2⟩:=D3_ (f:=f) I n 0 s h0 (fun j s _ hl hi=>h j s (by omega) hi)
 exact ⟨r,h1,by rwa [Nat.zero_add] at h2⟩
theorem D5_ {σ τ:Type}{f:Nat→σ→Option (σ⊕τ)} (I:Nat→σ→Prop) (Q:τ→Prop):∀ (n k:Nat) (s:σ),I k s→(∀ j s,k≤j→j<k+n→I j s→(∃ s',f j s=some (.inl s')∧I (j+1) s')∨(∃ t,f j s=some (.inr t)∧Q t))→(∃ r,dC f n k s=some (.inl r)∧I (k+n) r)∨(∃ t,dC f n k s=some (.inr t)∧Q t)
 | 0,k,s,h0,_=>.inl ⟨s,rfl,h0⟩
 | n+1,k,s,h0,h=>by
  rcases h k s (Nat.le_refl _) (by omega) h0 with ⟨s',h1,h2⟩ | ⟨t,h1,h2⟩
  ·
   rcases D5_ I Q n (k+1) s' h2 (fun j s hj hl hi=>h j s (by omega) (by omega) hi) with ⟨r,h3,h4⟩ | ⟨t,h3,h4⟩
   ·
    refine .inl ⟨r,?_,by rwa [show k+1+n=k+(n+1) by omega] at h4⟩
    show (f k s).bind _=_
    rw [h1];exact h3
   ·
    refine .inr ⟨t,?_,h4⟩
    show (f k s).bind _=_
    rw [h1];exact h3
  ·
   refine .inr ⟨t,?_,h2⟩
   show (f k s).bind _=_
   rw [h1];rfl
theorem D4_ {σ τ:Type}{f:Nat→σ→Option (σ⊕τ)}{n:Nat}{s:σ} (I:Nat→σ→Prop) (Q:τ→Prop) (h0:I 0 s) (h:∀ j s,j<n→I j s→(∃ s',f j s=some (.inl s')∧I (j+1) s')∨(∃ t,f j s=some (.inr t)∧Q t)):(∃ r,dC f n 0 s=some (.inl r)∧I n r)∨(∃ t,dC f n 0 s=some (.inr t)∧Q t):=by
 rcases D5_ (f:=f) I Q n 0 s h0 (fun j s _ hl hi=>h j s (by omega) hi) with ⟨r,h1,h2⟩ | h
 · exact .inl ⟨r,h1,by rwa [Nat.zero_add] at h2⟩
 · exact .inr h
theorem tabl_of {α:Type}{l:List α}{n:Nat}{f:Nat→α} (hl:l.length=n) (h:∀ k,k<n→l[k]?=some (f k)):l=yA n f:=by
 apply List.ext_getElem?
 intro j
 by_cases hj:j<n
 · rw [h j hj,lO _ hj]
 · rw [List.getElem?_eq_none (by omega),List.getElem?_eq_none (by rw [vE];omega)]
def qE (n:Nat) (l:List Int):Prop:=∀ x∈l,0≤x∧x<(n:Int)
def edRg (n:Nat) (E:List Edg):Prop:=∀ e∈E,qE n (edI e)∧qE n (edO e)
end Go.Proofs.YtemcakhocdchiaaGreatDoor
namespace Go.Proofs.YtemcakhocdchiaaGreatDoor
theorem el_app2 (a b:List Int) (q:Nat):el (a++b) q=if q<a.length then el a q else el b (q-a.length):=by
 unfold el
 rw [List.getD_eq_getElem?_getD]
 split
 · rw [List.getElem?_append_left ‹_›,List.getD_eq_getElem?_getD]
 · rw [List.getElem?_append_right (by omega),List.getD_eq_getElem?_getD]
theorem AZ_ {a:List Int}{k q:Nat} (h:q<k):el (a.take k) q=el a q:=by
 unfold el
 rw [List.getD_eq_getElem?_getD,List.getD_eq_getElem?_getD,List.getElem?_take,if_pos h]
theorem el_drop2 (a:List Int) (k q:Nat):el (a.drop k) q=el a (k+q):=by
 unfold el
 rw [List.getD_eq_getElem?_getD,List.getD_eq_getElem?_getD,List.getElem?_drop]
theorem E2_ {z:List Int}{i j:Nat}{v:Int} (h:i<z.length):el (z.set i v) j=if i=j then v else el z j:=by
 unfold el
 rw [List.getD_eq_getElem?_getD,List.getD_eq_getElem?_getD,List.getElem?_set]
 by_cases e:i=j
 · subst e;simp [h]
 · rw [if_neg e,if_neg e]
theorem CW_ {row:List Int}{W:Nat} (pos:Nat→Nat) (hinj:∀ i j,i<row.length→j<row.length→pos i=pos j→i=j) (hlt:∀ j,j<row.length→pos j<W){f:Nat→List Int→Option (List Int)}
  (hf:∀ j s,j<row.length→s.length=W→f j s=some (s.set (pos j) (el row j))):∃ r,forS f row.length 0 (List.replicate W 0)=some r∧r.length=W∧(∀ j,j<row.length→el r (pos j)=el row j)∧∀ q,(∀ j,j<row.length→pos j≠q)→el r q=0:=
 AX_ (fun k s=>s.length=W∧(∀ j,j<k→el s (pos j)=el row j)∧∀ q,(∀ j,j<k→pos j≠q)→el s q=0) ⟨by simp,fun j hj=>by omega,fun q _=>eP W q⟩ (fun j s hj ⟨h1,h2,h3⟩=>by
  have hp:=hlt j hj
  refine ⟨_,hf j s hj h1,by simpa using h1,fun i hi=>?_,fun q hq=>?_⟩
  ·
   rw [E2_ (by omega)]
   by_cases hij:i=j
   · subst hij;rw [if_pos rfl]
   ·
    rw [if_neg (fun e=>hij (hinj j i hj (by omega) e).symm)]
    exact h2 i (by omega)
  ·
   rw [E2_ (by omega),if_neg (hq j (by omega))]
   exact h3 q (fun i hi=>hq i (by omega)))
def nI (l1 l2 r2:Nat) (row:List Int):List Int:=row.take l1++(List.replicate l2 0++(row.drop l1++List.replicate r2 0))
def uK (l1 l2 r1:Nat) (row:List Int):List Int:=List.replicate l1 0++(row.take l2++(List.replicate r1 0++row.drop l2))
def tenP (l1 r1 l2 r2:Nat) (A B:Rows):Rows:=A.map (nI l1 l2 r2)++B.map (uK l1 l2 r1)
def tenR (p:Int) (l1 r1 l2 r2:Nat) (A B:Rows):Rows:=cC p (l1+l2+(r1+r2)) (tenP l1 r1 l2 r2 A B)
theorem Es_ {p:Int}{l1 r1 l2 r2:Nat}{row:List Int} (hp:2≤p) (h:okR p (l1+r1) row):okR p (l1+l2+(r1+r2)) (nI l1 l2 r2 row):=by
 obtain ⟨h1,h2⟩:=h
 refine ⟨by simp [nI];omega,fun x hx=>?_⟩
 have z:(0:Int)≤0∧(0:Int)<p:=⟨by omega,by omega⟩
 rcases List.mem_append.1 hx with hx | hx
 · exact h2 x (List.mem_of_mem_take hx)
 ·
  rcases List.mem_append.1 hx with hx | hx
  · rw [List.eq_of_mem_replicate hx];exact z
  ·
   rcases List.mem_append.1 hx with hx | hx
   · exact h2 x (List.mem_of_mem_drop hx)
   · rw [List.eq_of_mem_replicate hx];exact z
theorem Er_ {p:Int}{l1 r1 l2 r2:Nat}{row:List Int} (hp:2≤p) (h:okR p (l2+r2) row):okR p (l1+l2+(r1+r2)) (uK l1 l2 r1 row):=by
 obtain ⟨h1,h2⟩:=h
 refine ⟨by simp [uK];omega,fun x hx=>?_⟩
 have z:(0:Int)≤0∧(0:Int)<p:=⟨by omega,by omega⟩
 rcases List.mem_append.1 hx with hx | hx
 · rw [List.eq_of_mem_replicate hx];exact z
 ·
  rcases List.mem_append.1 hx with hx | hx
  · exact h2 x (List.mem_of_mem_take hx)
  ·
   rcases List.mem_append.1 hx with hx | hx
   · rw [List.eq_of_mem_replicate hx];exact z
   · exact h2 x (List.mem_of_mem_drop hx)
theorem A5_ {p:Int}{l1 r1 l2 r2:Nat}{A B:Rows} (hp:2≤p) (hA:okM p (l1+r1) A) (hB:okM p (l2+r2) B):okM p (l1+l2+(r1+r2)) (tenP l1 r1 l2 r2 A B):=by
 intro x hx
 rcases List.mem_append.1 hx with hx | hx
 ·
  obtain ⟨y,hy,rfl⟩:=List.mem_map.1 hx
  exact Es_ hp (hA y hy)
 ·
  obtain ⟨y,hy,rfl⟩:=List.mem_map.1 hx
  exact Er_ hp (hB y hy)
theorem tensor_ {p:Int}{l1 r1 l2 r2:Nat}{A B:Rows} (hf:fdB p=true) (hl:l1≤100) (hr:r1≤100) (hl2:l2≤100) (hr2:r2≤100) (hA:okM p (l1+r1) A) (hB:okM p (l2+r2) B) (lA:A.length≤1000) (lB:B.length≤1000) :
  pQ p ((l1:Int),(r1:Int),A) ((l2:Int),(r2:Int),B)=some (((l1+l2:Nat):Int),((r1+r2:Nat):Int),tenR p l1 r1 l2 r2 A B):=by
 have hmx:bB=1099511627776:=rfl
 have hp:=aC hf
 have e1:zX ((l1:Int),(r1:Int),A) ((l1:Int),(r1:Int),A) ((l2:Int),(r2:Int),B)=some (A.map (nI l1 l2 r2)):=by
  refine bnd (eE (nI l1 l2 r2) A [] (by simp;omega) (fun j x s hj hs=>?_)) rfl
  have hx:=(hA x (oC hj)).1
  have hjl:=(List.getElem?_eq_some_iff.1 hj).1
  have hjo:=vO (l:=[x.take l1,List.replicate l2 0,x.drop l1,List.replicate r2 0]) (by simp;omega)
  refine bnd (kA hj) (bnd (bnd (first_ (l:=l1) rfl (by omega)) (bnd (gI (by omega)) (bnd (eW (l:=l1) rfl (by omega)) (bnd (gI (by omega)) (bnd hjo rfl))))) (bnd (iB (by simp at hs ⊢;omega)) ?_))
  simp [nI]
 have e2:yX ((l2:Int),(r2:Int),B) ((l1:Int),(r1:Int),A) ((l2:Int),(r2:Int),B)=some (B.map (uK l1 l2 r1)):=by
  refine bnd (eE (uK l1 l2 r1) B [] (by simp;omega) (fun j x s hj hs=>?_)) rfl
  have hx:=(hB x (oC hj)).1
  have hjl:=(List.getElem?_eq_some_iff.1 hj).1
  have hjo:=vO (l:=[List.replicate l1 0,x.take l2,List.replicate r1 0,x.drop l2]) (by simp;omega)
  refine bnd (kA hj) (bnd (bnd (gI (by omega)) (bnd (first_ (l:=l2) rfl (by omega)) (bnd (gI (by omega)) (bnd (eW (l:=l2) rfl (by omega)) (bnd hjo rfl))))) (bnd (iB (by simp at hs ⊢;omega)) ?_))
  simp [uK]
 have hred:=jV hf (Nat.le_refl (l1+l2+(r1+r2))) (by omega) (A5_ hp.1 hA hB) (by simp [tenP];omega)
 refine bnd e1 (bnd e2 (bnd (iB (by simp;omega)) (bnd (a:=((l1+l2:Nat):Int)) (by rw [aB (by dsimp only;omega) (by dsimp only;omega)];congr 1) (bnd (a:=((r1+r2:Nat):Int)) (by rw [aB (by dsimp only;omega) (by dsimp only;omega)];congr 1) (bnd (bnd (a:=((l1+l2+(r1+r2):Nat):Int)) (by rw [aB (by omega) (by omega)];congr 1) (bnd hred rfl)) rfl)))))
theorem Ig_ {p:Int}{l1 r1 l2 r2:Nat}{A B:Rows} (hf:fdB p=true) (hl:l1≤100) (hr:r1≤100) (hl2:l2≤100) (hr2:r2≤100) (hA:okM p (l1+r1) A) (hB:okM p (l2+r2) B) (lA:A.length≤1000) (lB:B.length≤1000) :
  bQ p ((l1:Int),(r1:Int),A) ((l2:Int),(r2:Int),B)=some (((l1+l2:Nat):Int),((r1+r2:Nat):Int),tenR p l1 r1 l2 r2 A B):=by
 have hmx:bB=1099511627776:=rfl
 have hp:=aC hf
 have n1:mA ((l1+l2:Nat):Int) ((r1+r2:Nat):Int)=some ((l1+l2+(r1+r2):Nat):Int):=by rw [aB (by omega) (by omega)];congr 1
 have hred:=bR hf (Nat.le_refl (l1+l2+(r1+r2))) (by omega) (A5_ hp.1 hA hB) (by simp [tenP];omega)
 refine bnd (a:=((l1+l2:Nat):Int)) (by rw [aB (by dsimp only;omega) (by dsimp only;omega)];congr 1) (bnd (a:=((r1+r2:Nat):Int)) (by rw [aB (by dsimp only;omega) (by dsimp only;omega)];congr 1) (bnd (a:=A.map (nI l1 l2 r2)) ?_ (bnd (a:=tenP l1 r1 l2 r2 A B) ?_ (bnd (bnd n1 (bnd hred rfl)) rfl))))
 ·
  refine (eE (nI l1 l2 r2) A [] (by simp;omega) (fun j x s hj hs=>?_)).trans (by simp)
  have hx:=(hA x (oC hj)).1
  have hjl:=(List.getElem?_eq_some_iff.1 hj).1
  refine bnd (kA hj) (bnd n1 (bnd (mH _ (by omega)) (bnd (a:=nI l1 l2 r2 x) ?_ (bnd (iB (by simp at hs ⊢;omega)) rfl))))
  obtain ⟨r,q1,q2,q3,q4⟩:=CW_ (row:=x) (W:=l1+l2+(r1+r2)) (fun j=>if j<l1 then j else l1+l2+(j-l1)) (fun i j hi hj h=>by
   skip
   split at h <;> split at h <;> omega) (fun j hj=>by split <;> omega) (f:=fun (k342:Nat) (s415:List Int)=>
     (idxO x ((k342:Nat):Int)).bind fun a430=>
     (some (decide (((k342:Nat):Int)<(l1:Int)))).bind fun a432=>
     cond a432
     ((setO s415 ((k342:Nat):Int) a430).bind fun a455=>
      some a455)
     ((mA ((l1+l2:Nat):Int) ((k342:Nat):Int)).bind fun a435=>
      (subO a435 (l1:Int)).bind fun a437=>
      (setO s415 a437 a430).bind fun a445=>
      some a445)) (fun i t hi ht=>by
    refine bnd (oE hi) ?_
    by_cases h:i<l1
    ·
     rw [if_pos h]
     exact stp (cTW (dT (by omega)) (bnd (tC _ (by omega)) rfl))
    ·
     rw [if_neg h]
     refine stp (cFW (dF (by omega)) (bnd (aB (by omega) (by omega)) (bnd (a:=((l1+l2+(i-l1):Nat):Int)) (by rw [wC (by omega) (by omega)];congr 1;omega) (bnd (tC _ (by omega)) rfl))))
   )
  refine q1.trans (congrArg some ?_)
  refine gS (by rw [q2,(Es_ (p:=p) (r1:=r1) hp.1 (hA x (oC hj))).1]) (fun q hq=>?_)
  rw [q2] at hq
  unfold nI
  have ltk:(x.take l1).length=l1:=by simp;omega
  have ldr:(x.drop l1).length=r1:=by simp;omega
  rw [el_app2,ltk]
  by_cases c1:q<l1
  ·
   rw [if_pos c1,AZ_ c1]
   have:=q3 q (by omega)
   skip
   rwa [if_pos c1] at this
  ·
   rw [if_neg c1,el_app2,List.length_replicate]
   by_cases c2:q-l1<l2
   ·
    rw [if_pos c2,eP]
    exact q4 q (fun j hj=>by split <;> omega)
   ·
    rw [if_neg c2,el_app2,ldr]
    by_cases c3:q-l1-l2<r1
    ·
     rw [if_pos c3,el_drop2]
     have:=q3 (q-l2) (by omega)
     skip
     rw [if_neg (by omega),show l1+l2+(q-l2-l1)=q by omega] at this
     rw [this];congr 1;omega
    ·
     rw [if_neg c3,eP]
     exact q4 q (fun j hj=>by split <;> omega)
 ·
  refine (eE (uK l1 l2 r1) B (A.map (nI l1 l2 r2)) (by simp;omega) (fun j x s hj hs=>?_)).trans rfl
  have hx:=(hB x (oC hj)).1
  have hjl:=(List.getElem?_eq_some_iff.1 hj).1
  refine bnd (kA hj) (bnd n1 (bnd (mH _ (by omega)) (bnd (a:=uK l1 l2 r1 x) ?_ (bnd (iB (by simp at hs ⊢;omega)) rfl))))
  obtain ⟨r,q1,q2,q3,q4⟩:=CW_ (row:=x) (W:=l1+l2+(r1+r2)) (fun j=>if j<l2 then l1+j else l1+l2+r1+(j-l2)) (fun i j hi hj h=>by
   skip
   split at h <;> split at h <;> omega) (fun j hj=>by split <;> omega) (f:=fun (k822:Nat) (s903:List Int)=>
     (idxO x ((k822:Nat):Int)).bind fun a918=>
     (some (decide (((k822:Nat):Int)<(l2:Int)))).bind fun a920=>
     cond a920
     ((mA (l1:Int) ((k822:Nat):Int)).bind fun a939=>
      (setO s903 a939 a918).bind fun a947=>
      some a947)
     ((mA ((l1+l2:Nat):Int) (r1:Int)).bind fun a923=>
      (mA a923 ((k822:Nat):Int)).bind fun a925=>
      (subO a925 (l2:Int)).bind fun a927=>
      (setO s903 a927 a918).bind fun a935=>
      some a935)) (fun i t hi ht=>by
    refine bnd (oE hi) ?_
    by_cases h:i<l2
    ·
     rw [if_pos h]
     exact stp (cTW (dT (by omega)) (bnd (a:=((l1+i:Nat):Int)) (by rw [aB (by omega) (by omega)];congr 1) (bnd (tC _ (by omega)) rfl)))
    ·
     rw [if_neg h]
     refine stp (cFW (dF (by omega)) (bnd (aB (by omega) (by omega)) (bnd (aB (by omega) (by omega)) (bnd (a:=((l1+l2+r1+(i-l2):Nat):Int)) (by rw [wC (by omega) (by omega)];congr 1;omega) (bnd (tC _ (by omega)) rfl)))))
   )
  refine q1.trans (congrArg some ?_)
  refine gS (by rw [q2,(Er_ (p:=p) (r2:=r2) hp.1 (hB x (oC hj))).1]) (fun q hq=>?_)
  rw [q2] at hq
  unfold uK
  have ltk:(x.take l2).length=l2:=by simp;omega
  have ldr:(x.drop l2).length=r2:=by simp;omega
  rw [el_app2,List.length_replicate]
  by_cases c1:q<l1
  ·
   rw [if_pos c1,eP]
   exact q4 q (fun j hj=>by split <;> omega)
  ·
   rw [if_neg c1,el_app2,ltk]
   by_cases c2:q-l1<l2
   ·
    rw [if_pos c2,AZ_ c2]
    have:=q3 (q-l1) (by omega)
    skip
    rwa [if_pos c2,show l1+(q-l1)=q by omega] at this
   ·
    rw [if_neg c2,el_app2,List.length_replicate]
    by_cases c3:q-l1-l2<r1
    ·
     rw [if_pos c3,eP]
     exact q4 q (fun j hj=>by split <;> omega)
    ·
     rw [if_neg c3,el_drop2]
     have:=q3 (q-l1-r1) (by omega)
     skip
     rw [if_neg (by omega),show l1+l2+r1+(q-l1-r1-l2)=q by omega] at this
     rw [this];congr 1;omega
end Go.Proofs.YtemcakhocdchiaaGreatDoor
namespace Go.Proofs.YtemcakhocdchiaaGreatDoor
set_option linter.unusedVariables false
theorem xW {α:Type} (f:α→Nat) (l:List α):tot (fun x=>8*(1+f x)) l=8*(l.length+tot f l):=by
 induction l with
 | nil=>rfl
 | cons a l ih=>rw [tot_cons,tot_cons,ih,List.length_cons];omega
theorem Fd_ {α:Type}{f g:α→Nat} (h:∀ a,f a≤g a) (l:List α):tot f l≤tot g l:=by
 induction l with
 | nil=>exact Nat.le_refl _
 | cons a l ih=>rw [tot_cons,tot_cons];have:=h a;omega
theorem Ah_ {α:Type} (mk:α→Int→α×Int) (n M:α→Nat) (hmk:∀ a k,(mk a k).2=k+n a) (hnM:∀ a,n a≤M a){f:List α×Int×Int→Option ((List α×Int×Int)⊕(List α×Int))} (N:Nat) (B:Int)
  (hf:∀ (j:Nat) (a:α) (s:List α) (q:Int),s[j]?=some a→s.length=N→j<N→0≤q→q+M a≤B→f (s,q,(j:Int))=some (.inl (s.set j (mk a q).1,(mk a q).2,(j:Int)+1)))
  (he:∀ (s:List α) (q:Int),s.length=N→f (s,q,(N:Int))=some (.inr (s,q))):∀ (rest pre:List α) (q:Int),pre.length+rest.length=N→0≤q→q+tot M rest≤B→nB f (pre++rest,q,(pre.length:Int))=some (pre++(mkL mk rest q).1,(mkL mk rest q).2)
 | [],pre,q,hN,_,_=>by
  have h1:pre.length=N:=by simpa using hN
  have:=he pre q h1
  rw [←h1] at this
  rw [List.append_nil,kF this];simp [mkL]
 | a::rest,pre,q,hN,h0,hB=>by
  rw [tot_cons] at hB
  have hn:=hnM a
  have h1:=hf pre.length a (pre++a::rest) q (eI _ _ _) (by simpa using hN) (by simp at hN;omega) h0 (by omega)
  have ih:=Ah_ mk n M hmk hnM N B hf he rest (pre++[(mk a q).1]) (mk a q).2 (by simp at hN ⊢;omega) (by rw [hmk];omega) (by rw [hmk];omega)
  rw [dW,xH pre rest (mk a q).1,← len1 pre (mk a q).1] at h1
  rw [qG h1,ih]
  simp [mkL]
end Go.Proofs.YtemcakhocdchiaaGreatDoor
namespace Go.Proofs.YtemcakhocdchiaaGreatDoor
structure GOk (g:Gra) (n:Nat):Prop where
 w:g.1=(n:Int)
 n100:n≤100
 e60:g.2.1.length≤60
 i12:g.2.2.1.length≤12
 o12:g.2.2.2.length≤12
 i:qE n g.2.2.1
 o:qE n g.2.2.2
 e:edRg n g.2.1
 ar:g.2.1.all arB=true
 ti:cD g.2.1 edI≤120
 to:cD g.2.1 edO≤120
 cov:∀ k:Nat,k<n→(k:Int)∈eD g
theorem Az_ {g:Gra} (h:gOk g=true):∃ n,GOk g n:=by
 unfold gOk at h
 simp only [Bool.and_eq_true,decide_eq_true_eq] at h
 obtain ⟨h1,h2,h3,h4,h5,h6,h7,h8⟩:=h
 have hr:=rng_true.1 h1
 obtain ⟨n,hn⟩:∃ n:Nat,g.1=(n:Int):=⟨g.1.toNat,by omega⟩
 rw [hn] at h5 h6 h7 h8
 have h9:=Ep_ (pW h7)
 refine ⟨n,hn,by omega,h2,h3,h4,xO h5,xO h6,E3_ h7,pW h7,by omega,by omega,fun k hk=>?_⟩
 rw [Int.toNat_natCast] at h8
 exact of_decide_eq_true (List.all_eq_true.1 h8 k (List.mem_range.2 hk))
end Go.Proofs.YtemcakhocdchiaaGreatDoor
namespace Go.Proofs.YtemcakhocdchiaaGreatDoor
def dD {α:Type} (f f0:Nat→α) (j:Nat):Nat→α:=fun k=>if k<j then f k else f0 k
theorem Ao_ {α:Type}{n:Nat} (f f0:Nat→α) (j:Nat):(yA n fun k=>if k=j then f j else dD f f0 j k)=yA n (dD f f0 (j+1)):=by
 refine bD fun k _=>?_
 unfold dD
 by_cases h:k=j
 · subst h;rw [if_pos rfl,if_pos (by omega)]
 ·
  rw [if_neg h]
  by_cases h2:k<j
  · rw [if_pos h2,if_pos (by omega)]
  · rw [if_neg h2,if_neg (by omega)]
theorem aN {α:Type}{n:Nat} (f f0:Nat→α){g:Nat→List α→Option (List α)} (hg:∀ j,j<n→g j (yA n (dD f f0 j))=some (yA n fun k=>if k=j then f j else dD f f0 j k)):forS g n 0 (yA n f0)=some (yA n f):=by
 have:=xC (f:=g) (n:=n) (fun j=>yA n (dD f f0 j)) (fun j hj=>by rw [hg j hj,Ao_])
 have e0:yA n (dD f f0 0)=yA n f0:=bD fun k _=>by unfold dD;rw [if_neg (by omega)]
 have e1:yA n (dD f f0 n)=yA n f:=bD fun k hk=>by unfold dD;rw [if_pos hk]
 rw [e0,e1] at this
 exact this
theorem upT_ {n:Nat} (h:n≤1048576):zJ (n:Int)=some (yA n fun k=>(k:Int)):=by
 have hm:bB=1099511627776:=rfl
 refine bnd (gI (by omega)) ?_
 rw [eR,vE]
 exact bnd (aN (fun k=>(k:Int)) (fun _=>0) (fun j hj=>bnd (mE _ _ hj) rfl)) rfl
theorem uX {n a:Nat} (h:n≤1048576) (ha:a≤1048576):gO (a:Int) (n:Int)=some (yA n fun k=>(k:Int)+a):=by
 refine bnd (upT_ h) ?_
 rw [vE]
 refine bnd (aN (fun k=>(k:Int)+a) (fun k=>(k:Int)) (fun j hj=>?_)) rfl
 have e:dD (fun k=>(k:Int)+a) (fun k=>(k:Int)) j j=(j:Int):=by unfold dD;rw [if_neg (by omega)]
 refine bnd (bE _ hj) ?_
 rw [e]
 exact bnd (aB (by omega) (by omega)) (bnd (mE _ _ hj) rfl)
def mp (t:Nat→Int) (l:List Int):List Int:=l.map fun x=>t x.toNat
def mpE (t:Nat→Int) (e:Edg):Edg:=(e.1,e.2.1,mp t (edI e),mp t (edO e))
def mpG (n:Int) (t:Nat→Int) (g:Gra):Gra:=(n,g.2.1.map (mpE t),mp t g.2.2.1,mp t g.2.2.2)
theorem pX {n:Nat}{l:List Int} (h:qE n l):mp (fun k=>(k:Int)) l=l:=by
 unfold mp
 refine (List.map_congr_left fun x hx=>?_).trans (List.map_id _)
 have:=h x hx
 show ((x.toNat:Nat):Int)=x
 omega
theorem mW {n:Nat}{l:List Int} (t:Nat→Int) (h:qE n l) (hl:l.length≤1048576):wJ l (yA n t)=some (mp t l):=by
 have hm:bB=1099511627776:=rfl
 refine bnd (eE (fun x=>t x.toNat) l [] (by simp;omega) (fun j x s' hj hs=>?_)) rfl
 have hx:=h x (oC hj)
 obtain ⟨k,rfl⟩:∃ k:Nat,x=(k:Int):=⟨x.toNat,by omega⟩
 have hjl:=(List.getElem?_eq_some_iff.1 hj).1
 refine bnd (kA hj) (bnd (bE _ (by omega)) (bnd (iB (by simp at hs ⊢;omega)) ?_))
 rfl
theorem gN {n:Nat}{l:List Int} (t:Nat→Int) (h:qE n l) (hl:l.length≤1048576):xJ l (yA n t)=some (mp t l):=by
 have hm:bB=1099511627776:=rfl
 refine bnd (bnd (CZ_ _ (by omega)) (bnd (eE (fun x=>t x.toNat) l [] (by simp;omega) (fun j x s' hj hs=>?_)) rfl)) rfl
 have hx:=h x (oC hj)
 obtain ⟨k,rfl⟩:∃ k:Nat,x=(k:Int):=⟨x.toNat,by omega⟩
 have hjl:=(List.getElem?_eq_some_iff.1 hj).1
 refine bnd (kA hj) (bnd (bE _ (by omega)) (bnd (iB (by simp at hs ⊢;omega)) ?_))
 rfl
theorem kW {E:List Edg}{e:Edg} (s:Edg→List Int) (h:e∈E):(s e).length≤cD E s:=by
 unfold cD
 induction E with
 | nil=>cases h
 | cons x E ih=>
  rw [List.map_cons,List.flatten_cons,List.length_append]
  rcases List.mem_cons.1 h with rfl | h
  · omega
  · have:=ih h;omega
structure Rgd (n:Nat) (g:Gra):Prop where
 i:qE n g.2.2.1
 o:qE n g.2.2.2
 e:edRg n g.2.1
 li:g.2.2.1.length≤1000
 lo:g.2.2.2.length≤1000
 le:g.2.1.length≤1000
 ti:cD g.2.1 edI≤1000
 to:cD g.2.1 edO≤1000
theorem GOk.rgd {g:Gra}{n:Nat} (h:GOk g n):Rgd n g:=by
 have:=h.i12;have:=h.o12;have:=h.e60;have:=h.ti;have:=h.to
 exact ⟨h.i,h.o,h.e,by omega,by omega,by omega,by omega,by omega⟩
theorem BE_ {n:Nat}{g:Gra} (t:Nat→Int) (w:Int) (h:Rgd n g):sQ g (yA n t) w=some (mpG w t g):=by
 have hm:bB=1099511627776:=rfl
 obtain ⟨w0,E,I,O⟩:=g
 obtain ⟨h1,h2,h3,h4,h5,h6,h7,h8⟩:=h
 dsimp only at h1 h2 h3 h4 h5 h6 h7 h8
 refine bnd (bnd (mW t h1 (by dsimp only;omega)) (bnd (mW t h2 (by dsimp only;omega)) rfl)) ?_
 refine bnd (eE (mpE t) E [] (by simp;omega) (fun j e s' hj hs=>?_)) rfl
 have he:=oC hj
 have hjl:=(List.getElem?_eq_some_iff.1 hj).1
 have l1:=kW edI he
 have l2:=kW edO he
 exact bnd (kA hj) (bnd (mW t (h3 e he).1 (show (edI e).length≤_ by omega)) (bnd (mW t (h3 e he).2 (show (edO e).length≤_ by omega)) (bnd (iB (by simp at hs ⊢;omega)) rfl)))
theorem Bz_ {n:Nat}{g:Gra} (t:Nat→Int) (w:Int) (h:Rgd n g):tP g w (yA n t)=some (mpG w t g):=by
 have hm:bB=1099511627776:=rfl
 obtain ⟨w0,E,I,O⟩:=g
 obtain ⟨h1,h2,h3,h4,h5,h6,h7,h8⟩:=h
 dsimp only at h1 h2 h3 h4 h5 h6 h7 h8
 refine bnd (bnd (gN t h1 (by dsimp only;omega)) (bnd (gN t h2 (by dsimp only;omega)) rfl)) ?_
 refine bnd (eE (mpE t) E [] (by simp;omega) (fun j e s' hj hs=>?_)) rfl
 have he:=oC hj
 have hjl:=(List.getElem?_eq_some_iff.1 hj).1
 have l1:=kW edI he
 have l2:=kW edO he
 exact bnd (kA hj) (bnd (gN t (h3 e he).1 (show (edI e).length≤_ by omega)) (bnd (gN t (h3 e he).2 (show (edO e).length≤_ by omega)) (bnd (iB (by simp at hs ⊢;omega)) rfl)))
theorem Fn_ {n:Nat}{g:Gra} (h:Rgd n g):mpG g.1 (fun k=>(k:Int)) g=g:=by
 obtain ⟨w0,E,I,O⟩:=g
 obtain ⟨h1,h2,h3,_,_,_,_,_⟩:=h
 unfold mpG
 refine Prod.ext rfl (Prod.ext ?_ (Prod.ext (pX h1) (pX h2)))
 refine (List.map_congr_left fun e he=>?_).trans (List.map_id _)
 obtain ⟨k,v,a,b⟩:=e
 have:=h3 _ he
 unfold mpE
 exact Prod.ext rfl (Prod.ext rfl (Prod.ext (pX this.1) (pX this.2)))
theorem hgOwn_ {n:Nat}{g:Gra} (hn:n≤1000) (hw:g.1=(n:Int)) (h:Rgd n g):iU g=some g:=by
 have hm:bB=1099511627776:=rfl
 have e:=Fn_ h
 unfold iU
 rw [hw] at e ⊢
 refine bnd (aJ _ (by omega)) ?_
 rw [vE]
 refine bnd (aN (fun k=>(k:Int)) (fun _=>0) (fun j hj=>bnd (mE _ _ hj) rfl)) ?_
 have h2:=BE_ (g:=g) (fun k=>(k:Int)) (n:Int) h
 rw [e] at h2
 obtain ⟨w0,E,I,O⟩:=g
 obtain rfl:w0=(n:Int):=hw
 exact bnd h2 rfl
def vK (n m:Nat) (a b:Gra):Gra:=
 (((n+m:Nat):Int),a.2.1++b.2.1.map (mpE fun k=>(k:Int)+n),a.2.2.1++mp (fun k=>(k:Int)+n) b.2.2.1,a.2.2.2++mp (fun k=>(k:Int)+n) b.2.2.2)
theorem mp_len (t:Nat→Int) (l:List Int):(mp t l).length=l.length:=by unfold mp;rw [List.length_map]
theorem Dp_ {n m:Nat}{a b:Gra} (hn:n≤1000) (hm:m≤1000) (wa:a.1=(n:Int)) (wb:b.1=(m:Int)) (ha:Rgd n a) (hb:Rgd m b):kT a b=some (vK n m a b):=by
 have hmm:bB=1099511627776:=rfl
 obtain ⟨w0,E,I,O⟩:=a
 obtain ⟨w1,E',I',O'⟩:=b
 obtain rfl:w0=(n:Int):=wa
 obtain rfl:w1=(m:Int):=wb
 have l1:=ha.li;have l2:=ha.lo;have l3:=ha.le;have k1:=hb.li;have k2:=hb.lo;have k3:=hb.le
 dsimp only at l1 l2 l3 k1 k2 k3
 refine bnd (aJ _ (by omega)) ?_
 rw [vE]
 refine bnd (aN (fun k=>(k:Int)+n) (fun _=>0) (fun j hj=>bnd (aB (by omega) (by omega)) (bnd (mE _ _ hj) rfl))) ?_
 refine bnd (hgOwn_ hn rfl ha) (bnd (BE_ _ _ hb) (bnd (aB (by dsimp only;omega) (by dsimp only;omega)) (bnd (iB ?_) (bnd (iB ?_) (bnd (iB ?_) ?_)))))
 · unfold mpG;dsimp only;rw [mp_len];omega
 · unfold mpG;dsimp only;rw [mp_len];omega
 · unfold mpG;dsimp only;rw [List.length_map];omega
 · unfold mpG vK;dsimp only;push_cast;rfl
theorem Fa_ {n m:Nat}{a b:Gra} (hn:n≤1000) (hm:m≤1000) (wa:a.1=(n:Int)) (wb:b.1=(m:Int)) (ha:Rgd n a) (hb:Rgd m b):bT a b=some (((n+m:Nat):Int),a.2.1++b.2.1.map (mpE fun k=>(k:Int)+n),[],[]):=by
 have hmm:bB=1099511627776:=rfl
 have e:=Fn_ ha
 obtain ⟨w0,E,I,O⟩:=a
 obtain ⟨w1,E',I',O'⟩:=b
 obtain rfl:w0=(n:Int):=wa
 obtain rfl:w1=(m:Int):=wb
 have l3:=ha.le;have k3:=hb.le
 dsimp only at l3 k3
 have h1:=Bz_ (g:=((n:Int),E,I,O)) (fun k=>(k:Int)) (n:Int) ha
 dsimp only at e
 rw [e] at h1
 refine bnd (aB (by dsimp only;omega) (by dsimp only;omega)) (bnd (bnd (upT_ (by omega)) (bnd h1 rfl)) (bnd (bnd (uX (by omega) (by omega)) (bnd (Bz_ _ _ hb) rfl)) (bnd (iB ?_) ?_)))
 · unfold mpG;dsimp only;rw [List.length_map];omega
 · unfold mpG;dsimp only;push_cast;rfl
theorem DZ_ {a b:List Int} (h:a.length+b.length≤1048576):eH [a,b]=some (a++b):=by
 have hm:bB=1099511627776:=rfl
 refine bnd (a:=a++b) ?_ rfl
 refine bnd (a:=a) (bnd (a:=a) rfl (bnd (iB (by simp;omega)) rfl)) (bnd (a:=a++b) (bnd (a:=b) rfl (bnd (iB (by omega)) rfl)) rfl)
theorem HH_ {n m:Nat}{a b:Gra} (hn:n≤1000) (hm:m≤1000) (wa:a.1=(n:Int)) (wb:b.1=(m:Int)) (ha:Rgd n a) (hb:Rgd m b):xP a b=some (vK n m a b):=by
 obtain ⟨w0,E,I,O⟩:=a
 obtain ⟨w1,E',I',O'⟩:=b
 obtain rfl:w0=(n:Int):=wa
 obtain rfl:w1=(m:Int):=wb
 have l1:=ha.li;have l2:=ha.lo;have k1:=hb.li;have k2:=hb.lo
 dsimp only at l1 l2 k1 k2
 refine bnd (Fa_ hn hm rfl rfl ha hb) (bnd (uX (by omega) (by omega)) (bnd (gN _ hb.i (by dsimp only;omega)) (bnd (DZ_ ?_) (bnd (gN _ hb.o (by dsimp only;omega)) (bnd (DZ_ ?_) rfl)))))
 · dsimp only;rw [mp_len];omega
 · dsimp only;rw [mp_len];omega
def noG:Gra:=(0,[],[],[])
def ifG (g:Gra):Gra×Bool:=if gOk g=true then (g,true) else (noG,false)
theorem hgIf_ (g:Gra):pU g=some (ifG g):=by
 refine bnd (AU_ g) (stp ?_)
 unfold ifG
 cases gOk g <;> rfl
end Go.Proofs.YtemcakhocdchiaaGreatDoor
namespace Go.Proofs.YtemcakhocdchiaaGreatDoor
def joinC (c:Nat→Nat) (u v:Nat):Nat→Nat:=fun w=>if c w=max (c u) (c v) then min (c u) (c v) else c w
def bG (P:List (Int×Int)):Nat→Nat:=P.foldl (fun c p=>joinC c p.1.toNat p.2.toNat) id
theorem IJ_ (P:List (Int×Int)) (p:Int×Int):bG (P++[p])=joinC (bG P) p.1.toNat p.2.toNat:=by unfold bG;rw [List.foldl_append];rfl
theorem Dv_ {P:List (Int×Int)}{j:Nat} (hj:j<P.length):bG (P.take (j+1))=joinC (bG (P.take j)) P[j].1.toNat P[j].2.toNat:=by
 rw [List.take_add_one,List.getElem?_eq_getElem hj];exact IJ_ _ _
structure Cls (c:Nat→Nat):Prop where
 le:∀ w,c w≤w
 idem:∀ w,c (c w)=c w
theorem Cls.join {c:Nat→Nat} (h:Cls c) (u v:Nat):Cls (joinC c u v):=by
 have iu:=h.idem u;have iv:=h.idem v
 refine ⟨fun w=>?_,fun w=>?_⟩
 ·
  unfold joinC
  have:=h.le w
  split <;> omega
 ·
  unfold joinC
  by_cases hw:c w=max (c u) (c v)
  ·
   rw [if_pos hw]
   have hk:c (min (c u) (c v))=min (c u) (c v):=by
    rcases Nat.le_total (c u) (c v) with h1 | h1
    · rw [Nat.min_eq_left h1,iu]
    · rw [Nat.min_eq_right h1,iv]
   rw [hk]
   split <;> rfl
  · rw [if_neg hw,h.idem w,if_neg hw]
theorem qW:∀ P:List (Int×Int),Cls (bG P):=by
 intro P
 have key:∀ (P:List (Int×Int)) (c:Nat→Nat),Cls c→Cls (P.foldl (fun c p=>joinC c p.1.toNat p.2.toNat) c):=by
  intro P
  induction P with
  | nil=>intro c h;exact h
  | cons p P ih=>intro c h;exact ih _ (h.join _ _)
 exact key P id ⟨fun w=>Nat.le_refl _,fun w=>rfl⟩
structure Forest (n:Nat) (c cls:Nat→Nat):Prop where
 le:∀ w,w<n→c w≤w
 fix:∀ w,w<n→c w=w→cls w=w
 up:∀ w,w<n→cls (c w)=cls w
def kE (n:Nat) (c:Nat→Nat):List Int:=yA n fun k=>(c k:Int)
theorem mX {n:Nat}{c cls:Nat→Nat} (h:Forest n c cls){w:Nat} (hw:w<n):cL (kE n c) (w:Int)=some (cls w:Int):=by
 obtain ⟨t,h1,rfl⟩:=Hu_ (f:=fun (s126:Int)=>
   (idxO (kE n c) s126).bind fun a141=>
   (some (!decide (a141=s126))).bind fun a143=>
   cond a143
   ((idxO (kE n c) s126).bind fun a154=>
    some (.inl a154))
   (some (.inr s126))) (fun s=>∃ k:Nat,s=(k:Int)∧k<n∧cls k=cls w) (fun t=>t=(cls w:Int)) (fun s=>s.toNat) (by
  rintro s ⟨k,rfl,hk,he⟩
  have hi:idxO (kE n c) (k:Int)=some (c k:Int):=bE _ hk
  have hle:=h.le k hk
  by_cases hf:c k=k
  ·
   refine .inr ⟨(k:Int),bnd hi (stp (cFW (nT (dT (by omega))) rfl)),?_⟩
   rw [←he,h.fix k hk hf]
  · exact .inl ⟨(c k:Int),bnd hi (stp (cTW (nF (dF (by omega))) (bnd hi rfl))),⟨c k,rfl,by omega,by rw [h.up k hk,he]⟩,by omega⟩) (s:=(w:Int)) ⟨w,rfl,hw,rfl⟩
 exact bnd h1 rfl
theorem Forest.join {n:Nat}{c cls:Nat→Nat} (h:Forest n c cls) (hc:Cls cls) (u v:Nat):Forest n (fun k=>if k=max (cls u) (cls v) then min (cls u) (cls v) else c k) (joinC cls u v):=by
 have iu:=hc.idem u;have iv:=hc.idem v
 have hm:cls (max (cls u) (cls v))=max (cls u) (cls v):=by
  rcases Nat.le_total (cls u) (cls v) with h1 | h1
  · rw [Nat.max_eq_right h1,iv]
  · rw [Nat.max_eq_left h1,iu]
 have hk:cls (min (cls u) (cls v))=min (cls u) (cls v):=by
  rcases Nat.le_total (cls u) (cls v) with h1 | h1
  · rw [Nat.min_eq_left h1,iu]
  · rw [Nat.min_eq_right h1,iv]
 refine ⟨fun w hw=>?_,fun w hw=>?_,fun w hw=>?_⟩
 ·
  have:=h.le w hw
  split <;> omega
 ·
  unfold joinC
  intro hf
  by_cases hwm:w=max (cls u) (cls v)
  ·
   rw [if_pos hwm] at hf
   subst hwm
   rw [hm,if_pos rfl];exact hf
  ·
   rw [if_neg hwm] at hf
   have:=h.fix w hw hf
   rw [this,if_neg hwm]
 ·
  unfold joinC
  by_cases hwm:w=max (cls u) (cls v)
  ·
   rw [if_pos hwm,hwm,hm,if_pos rfl,hk]
   split <;> rfl
  · rw [if_neg hwm,h.up w hw]
theorem Iq_ (a b:Nat):mP (a:Int) (b:Int)=((max a b:Nat):Int):=by unfold mP;split <;> omega
theorem Ip_ (a b:Nat):uH (a:Int) (b:Int)=((min a b:Nat):Int):=by unfold uH;split <;> omega
theorem join_ {n:Nat}{c cls:Nat→Nat} (h:Forest n c cls) (hc:Cls cls){u v:Nat} (hu:u<n) (hv:v<n):aT (kE n c) (u:Int) (v:Int)=some (kE n fun k=>if k=max (cls u) (cls v) then min (cls u) (cls v) else c k):=by
 have l1:=hc.le u;have l2:=hc.le v
 refine bnd (mX h hu) (bnd (mX h hv) (stp (stp ?_)))
 rw [Iq_,Ip_]
 refine bnd (mE _ _ (by omega)) (congrArg some (bD fun k _=>?_))
 show _=((if k=max (cls u) (cls v) then min (cls u) (cls v) else c k:Nat):Int)
 split <;> rfl
def pD (cls:Nat→Nat) (W:List Int) (r:Nat):Bool:=W.any fun x=>decide (cls x.toNat=r)
def numW (cls:Nat→Nat) (W:List Int) (j:Nat):Nat:=(List.range j).countP fun k=>decide (cls k=k)&&pD cls W k
theorem Dj_ (cls:Nat→Nat) (W:List Int) (j:Nat):numW cls W (j+1)=numW cls W j+(if (decide (cls j=j)&&pD cls W j)=true then 1 else 0):=by
 unfold numW
 rw [List.range_succ,List.countP_append,List.countP_singleton]
theorem EF_ (cls:Nat→Nat) (W:List Int) (j:Nat):numW cls W j≤j:=by
 have:=List.countP_le_length (p:=fun k=>decide (cls k=k)&&pD cls W k) (l:=List.range j)
 rwa [List.length_range] at this
def toW (cls:Nat→Nat) (W:List Int) (k:Nat):Int:=if pD cls W (cls k)=true then (numW cls W (cls k):Int) else -1
theorem Hl_ {n:Nat}{cls:Nat→Nat}{W:List Int} (h:qE n W) (r:Nat):((List.range n).any fun w=>decide ((w:Int)∈W)&&decide (cls w=r))=pD cls W r:=by
 unfold pD
 rw [Bool.eq_iff_iff,List.any_eq_true,List.any_eq_true]
 constructor
 ·
  rintro ⟨w,hw,hb⟩
  simp only [Bool.and_eq_true,decide_eq_true_eq] at hb
  exact ⟨(w:Int),hb.1,dT (by rw [Int.toNat_natCast];exact hb.2)⟩
 ·
  rintro ⟨x,hx,hb⟩
  have hb:=of_decide_eq_true hb
  have:=h x hx
  refine ⟨x.toNat,List.mem_range.2 (by omega),?_⟩
  have e:((x.toNat:Nat):Int)=x:=by omega
  rw [e,dT hx,dT hb];rfl
theorem aX {n:Nat}{c cls:Nat→Nat} (h:Forest n c cls) (hc:Cls cls){l:List Int} (hl:qE n l) (d:List Int):dL l (yA n (pD cls d)) (kE n c)=some (yA n (pD cls (d++l))):=by
 have:=xC (n:=l.length) (fun j=>yA n (pD cls (d++l.take j))) (f:=fun (k6:Nat) (s53:List Bool)=>
   (idxO l ((k6:Nat):Int)).bind fun a68=>
   (cL (kE n c) a68).bind fun y71=>
   (setO s53 y71 true).bind fun a80=>
   some a80) (fun j hj=>by
  have hx:=hl _ (List.getElem_mem hj)
  obtain ⟨m,hm⟩:∃ m:Nat,l[j]=(m:Int):=⟨l[j].toNat,by omega⟩
  have hle:=hc.le m
  refine bnd (kA (List.getElem?_eq_getElem hj)) ?_
  rw [hm]
  refine bnd (mX h (by omega)) (bnd (mE _ _ (by omega)) (congrArg some (bD fun k _=>?_)))
  have e:l.take (j+1)=l.take j++[(m:Int)]:=by rw [List.take_add_one,List.getElem?_eq_getElem hj,hm];rfl
  rw [e]
  unfold pD
  rw [←List.append_assoc,List.any_append (xs:=d++l.take j)]
  simp only [List.any_cons,List.any_nil,Bool.or_false,Int.toNat_natCast]
  by_cases hk:k=cls m
  · rw [if_pos hk,dT hk.symm,Bool.or_true]
  · rw [if_neg hk,dF (fun e=>hk e.symm),Bool.or_false])
 rw [List.take_zero,List.append_nil,List.take_length] at this
 exact bnd this rfl
theorem glueL_ {n:Nat}{c cls:Nat→Nat} (h:Forest n c cls) (hc:Cls cls){g:Gra} (hg:Rgd n g):xX g (yA n fun _=>false) (kE n c)=some (yA n (pD cls (eD g))):=by
 obtain ⟨w0,E,I,O⟩:=g
 have h0:(yA n fun _=>false)=yA n (pD cls []):=rfl
 rw [h0]
 refine bnd (aX h hc hg.i []) (bnd (aX h hc hg.o ([]++I)) ?_)
 have:=xC (n:=E.length) (fun j=>yA n (pD cls ([]++I++O++((E.take j).map fun e=>edI e++edO e).flatten))) (f:=fun (k17:Nat) (s70:List Bool)=>
   (idxO E ((k17:Nat):Int)).bind fun a85=>
   (dL a85.2.2.1 s70 (kE n c)).bind fun y97=>
   (dL a85.2.2.2 y97 (kE n c)).bind fun y100=>
   some y100) (fun j hj=>by
  have e1:[]++I++O++((E.take (j+1)).map fun e=>edI e++edO e).flatten=[]++I++O++((E.take j).map fun e=>edI e++edO e).flatten++edI E[j]++edO E[j]:=by
   rw [List.take_add_one,List.getElem?_eq_getElem hj,List.map_append,List.flatten_append]
   simp only [Option.toList_some,List.map_cons,List.map_nil,List.flatten_cons,List.flatten_nil,List.append_nil,List.append_assoc]
  have he:=hg.e _ (List.getElem_mem hj)
  rw [e1]
  exact bnd (kA (List.getElem?_eq_getElem hj)) (bnd (aX h hc he.1 _) (bnd (aX h hc he.2 _) rfl)))
 simp only [List.take_zero,List.take_length,List.map_nil,List.flatten_nil,List.append_nil] at this
 refine bnd this ?_
 unfold eD
 simp only [List.nil_append]
def gluG (g:Gra) (n:Nat) (P:List (Int×Int)):Gra:=mpG (numW (bG P) (eD g) n:Int) (toW (bG P) (eD g)) g
theorem glue_ {n:Nat}{g:Gra}{P:List (Int×Int)} (hn:n≤1000) (hw:g.1=(n:Int)) (hg:Rgd n g) (hP:∀ p∈P,(0≤p.1∧p.1<(n:Int))∧(0≤p.2∧p.2<(n:Int))) :
  nY g P=some (gluG g n P,yA n (toW (bG P) (eD g))):=by
 have hm:bB=1099511627776:=rfl
 obtain ⟨w0,E,I,O⟩:=g
 obtain rfl:w0=(n:Int):=hw
 have hcl:=qW P
 obtain ⟨s,a1,c,rfl,hF⟩:=AX_ (n:=P.length) (s:=yA n fun k=>(k:Int)) (f:=fun (k20:Nat) (s59:List Int)=>
   (idxO P ((k20:Nat):Int)).bind fun a74=>
   (aT s59 a74.1 a74.2).bind fun y82=>
   some y82) (fun j s=>∃ c,s=kE n c∧Forest n c (bG (P.take j))) ⟨id,rfl,fun w _=>Nat.le_refl _,fun w _ _=>rfl,fun w _=>rfl⟩ (by
  rintro j s hj ⟨c,rfl,hF⟩
  obtain ⟨p1,p2⟩:=hP _ (List.getElem_mem hj)
  obtain ⟨u,hu⟩:∃ u:Nat,P[j].1=(u:Int):=⟨P[j].1.toNat,by omega⟩
  obtain ⟨v,hv⟩:∃ v:Nat,P[j].2=(v:Int):=⟨P[j].2.toNat,by omega⟩
  have hj2:=join_ hF (qW _) (u:=u) (v:=v) (by omega) (by omega)
  rw [←hu,← hv] at hj2
  refine ⟨_,bnd (kA (List.getElem?_eq_getElem hj)) (bnd hj2 rfl),_,rfl,?_⟩
  rw [Dv_ hj,hu,hv,Int.toNat_natCast,Int.toNat_natCast]
  exact hF.join (qW _) u v)
 rw [List.take_length] at hF
 generalize hcls:bG P=cls at hcl hF
 generalize hW:eD ((n:Int),E,I,O)=W
 have hG:=glueL_ hF hcl hg
 rw [hW] at hG
 have hz:dG (n:Int)=some (yA n fun _=>(0:Int)):=by rw [gI (by omega),eR]
 have fin:=xC (n:=n) (fun j=>(yA n (dD (toW cls W) (fun _=>0) j),(numW cls W j:Int))) (f:=fun (k106:Nat) (s223:List Int×Int)=>
   (cL (kE n c) ((k106:Nat):Int)).bind fun y232=>
   (idxO (yA n (pD cls W)) y232).bind fun a241=>
   (some (!a241)).bind fun a243=>
   cond a243
   ((setO s223.1 ((k106:Nat):Int) (-1)).bind fun a285=>
    some (a285,s223.2))
   ((some (decide (y232<((k106:Nat):Int)))).bind fun a246=>
    cond a246
    ((idxO s223.1 y232).bind fun a267=>
     (setO s223.1 ((k106:Nat):Int) a267).bind fun a275=>
     some (a275,s223.2))
    ((setO s223.1 ((k106:Nat):Int) s223.2).bind fun a255=>
     (mA s223.2 1).bind fun a258=>
     some (a255,a258)))) (fun j hj=>by
  have hle:=hcl.le j
  have hid:=hcl.idem j
  have hnl:=EF_ cls W j
  have hns:=Dj_ cls W j
  refine bnd (mX hF hj) (bnd (bE _ (by omega)) (stp ?_))
  rw [←Ao_]
  cases hu:pD cls W (cls j) with
  | false=>
   have ht:toW cls W j = -1:=by unfold toW;rw [hu];rfl
   have hn0:numW cls W (j+1)=numW cls W j:=by
    rw [hns]
    by_cases he:cls j=j
    · rw [he] at hu;rw [hu,Bool.and_false];rfl
    · rw [dF he];rfl
   refine cTW rfl (bnd (mE _ _ hj) ?_)
   rw [ht,hn0]
  | true=>
   have ht:toW cls W j=(numW cls W (cls j):Int):=by unfold toW;rw [hu];rfl
   by_cases he:cls j=j
   ·
    have hn1:numW cls W (j+1)=numW cls W j+1:=by
     rw [hns,dT he];rw [he] at hu;rw [hu];rfl
    refine cFW rfl (stp (cFW (dF (by omega)) (bnd (mE _ _ hj) (bnd (aB (by dsimp only;omega) (by dsimp only;omega)) ?_))))
    rw [ht,he,hn1];push_cast;rfl
   ·
    have hn0:numW cls W (j+1)=numW cls W j:=by rw [hns,dF he];rfl
    have hlt:cls j<j:=by omega
    refine cFW rfl (stp (cTW (dT (by omega)) (bnd (bE _ (by omega)) (bnd (mE _ _ hj) ?_))))
    have e:dD (toW cls W) (fun _=>0) j (cls j)=toW cls W j:=by
     unfold dD;rw [if_pos hlt];unfold toW;rw [hid]
    rw [e,hn0])
 have e0:yA n (dD (toW cls W) (fun _=>0) 0)=yA n fun _=>0:=bD fun k _=>by unfold dD;rw [if_neg (by omega)]
 have e1:yA n (dD (toW cls W) (fun _=>0) n)=yA n (toW cls W):=bD fun k hk=>by unfold dD;rw [if_pos hk]
 have e2:numW cls W 0=0:=rfl
 rw [e0,e1,e2] at fin
 refine bnd (upT_ (by omega)) (bnd a1 (bnd (aJ _ (by omega)) (bnd hG (bnd hz ?_))))
 rw [vE]
 refine bnd fin (bnd (Bz_ _ _ hg) ?_)
 unfold gluG
 rw [hcls,hW]
theorem Dn_ {n:Nat}{a b:List Int} (ha:qE n a) (hb:qE n b):qE n (a++b):=by
 intro x hx
 rcases List.mem_append.1 hx with h | h
 · exact ha x h
 · exact hb x h
theorem l1Most_ (a b:Nat):mQ (a:Int) (b:Int)=some ((max a b:Nat):Int):=by
 unfold mQ
 by_cases h:b<a
 · refine stp (cTW (dT (by omega)) ?_);rw [Nat.max_eq_left (by omega)]
 · refine stp (cFW (dF (by omega)) ?_);rw [Nat.max_eq_right (by omega)]
theorem I9_ (a b:Nat):gQ (a:Int) (b:Int)=some ((min a b:Nat):Int):=by
 unfold gQ
 by_cases h:a<b
 · refine stp (cTW (dT (by omega)) ?_);rw [Nat.min_eq_left (by omega)]
 · refine stp (cFW (dF (by omega)) ?_);rw [Nat.min_eq_right (by omega)]
theorem cnt_mem {E:List Edg}{I O:List Int}{w:Int} (j:Nat):(j:Int)∈eD (w,E,I,O)↔(0:Int)<((I.count (j:Int)+lE E edO j:Nat):Int)+((O.count (j:Int)+lE E edI j:Nat):Int):=by
 rw [DT_]
 dsimp only
 have z1:I.count (j:Int)=0↔¬(j:Int)∈I:=List.count_eq_zero
 have z2:O.count (j:Int)=0↔¬(j:Int)∈O:=List.count_eq_zero
 have z3:=iW (E:=E) (s:=edI) (k:=j)
 have z4:=iW (E:=E) (s:=edO) (k:=j)
 constructor
 ·
  intro h
  refine Decidable.byContradiction fun h0=>?_
  have y1:=z1.1 (by omega);have y2:=z2.1 (by omega);have y3:=z3.1 (by omega);have y4:=z4.1 (by omega)
  rcases h with h | h | ⟨e,he,h | h⟩
  · exact y1 h
  · exact y2 h
  · exact y3 ⟨e,he,h⟩
  · exact y4 ⟨e,he,h⟩
 ·
  intro h
  refine Decidable.byContradiction fun hc=>?_
  simp only [not_or] at hc
  have y1:=z1.2 hc.1;have y2:=z2.2 hc.2.1
  have y3:=z3.2 (fun ⟨e,he,hk⟩=>hc.2.2 ⟨e,he,.inl hk⟩)
  have y4:=z4.2 (fun ⟨e,he,hk⟩=>hc.2.2 ⟨e,he,.inr hk⟩)
  omega
theorem Jc_ {n:Nat}{g:Gra}{A B:List Int} (hn:n≤1000) (hw:g.1=(n:Int)) (hg:Rgd n g) (hA:qE n A) (hB:qE n B) (hl:A.length=B.length) :
  cZ g A B=some (gluG g n (A.zip B),yA n (toW (bG (A.zip B)) (eD g))):=by
 have hm:bB=1099511627776:=rfl
 obtain ⟨w0,E,I,O⟩:=g
 obtain rfl:w0=(n:Int):=hw
 have hcl:=qW (A.zip B)
 have hzl:(A.zip B).length=A.length:=by rw [List.length_zip,hl,Nat.min_self]
 have li:=hg.li;have lo:=hg.lo;have ti:=hg.ti;have to:=hg.to
 dsimp only at li lo ti to
 have a1:=xC (n:=A.length) (fun j=>kE n (bG ((A.zip B).take j))) (f:=fun (k62:Nat) (s337:List Int)=>
   (idxO A ((k62:Nat):Int)).bind fun a353=>
   (idxO B ((k62:Nat):Int)).bind fun a361=>
   (idxO s337 a353).bind fun a369=>
   (idxO s337 a361).bind fun a377=>
   (forS (fun (k379:Nat) (s440:List Int)=>
     (idxO s440 ((k379:Nat):Int)).bind fun a456=>
     (mQ a369 a377).bind fun y458=>
     (some (decide (a456=y458))).bind fun a461=>
     cond a461
     ((gQ a369 a377).bind fun y465=>
      (setO s440 ((k379:Nat):Int) y465).bind fun a474=>
      some a474)
     (some s440)) s337.length 0 s337).bind fun (s479:List Int)=>
   some s479) (fun j hj=>by
  have hjz:j<(A.zip B).length:=by omega
  have hz:(A.zip B)[j]=(A[j],B[j]'(by omega)):=List.getElem_zip
  have h1:=hA _ (List.getElem_mem hj)
  have h2:=hB _ (List.getElem_mem (show j<B.length by omega))
  obtain ⟨u,hu⟩:∃ u:Nat,A[j]=(u:Int):=⟨A[j].toNat,by omega⟩
  obtain ⟨v,hv⟩:∃ v:Nat,B[j]'(by omega)=(v:Int):=⟨(B[j]'(by omega)).toNat,by omega⟩
  have hun:u<n:=by omega
  have hvn:v<n:=by omega
  rw [Dv_ hjz,hz]
  dsimp only
  rw [hu,hv,Int.toNat_natCast,Int.toNat_natCast]
  generalize bG ((A.zip B).take j)=cls
  refine bnd (kA (List.getElem?_eq_getElem hj)) (bnd (kA (List.getElem?_eq_getElem (show j<B.length by omega))) ?_)
  rw [hu,hv]
  refine bnd (bE _ hun) (bnd (bE _ hvn) (bnd (a:=kE n (joinC cls u v)) ?_ rfl))
  unfold kE
  rw [vE]
  refine aN (fun k=>(joinC cls u v k:Int)) (fun k=>(cls k:Int)) (fun k hk=>?_)
  have e:dD (fun k=>(joinC cls u v k:Int)) (fun k=>(cls k:Int)) k k=(cls k:Int):=by unfold dD;rw [if_neg (by omega)]
  refine bnd (bE _ hk) ?_
  rw [e]
  refine bnd (l1Most_ _ _) (stp ?_)
  by_cases hc:cls k=max (cls u) (cls v)
  ·
   refine cTW (dT (by omega)) (bnd (I9_ _ _) (bnd (mE _ _ hk) ?_))
   unfold joinC;rw [if_pos hc]
  ·
   refine cFW (dF (by omega)) (congrArg some (bD fun q _=>?_))
   by_cases hq:q=k
   · subst hq;rw [if_pos rfl,e];unfold joinC;rw [if_neg hc]
   · rw [if_neg hq])
 rw [show bG ((A.zip B).take 0)=id from by rw [List.take_zero];rfl,show (A.zip B).take A.length=A.zip B from by rw [←hzl,List.take_length]] at a1
 generalize hcls:bG (A.zip B)=cls at hcl a1
 generalize hW:eD ((n:Int),E,I,O)=W
 have hWr:qE n W:=by
  rw [←hW]
  unfold eD
  refine Dn_ (Dn_ hg.i hg.o) (fun x hx=>?_)
  obtain ⟨l,hl',hx⟩:=List.mem_flatten.1 hx
  obtain ⟨e,he,rfl⟩:=List.mem_map.1 hl'
  rcases List.mem_append.1 hx with h | h
  · exact (hg.e e he).1 x h
  · exact (hg.e e he).2 x h
 have a2:=xC (n:=n) (fun j=>yA n fun r=>(List.range j).any fun w=>decide ((w:Int)∈W)&&decide (cls w=r)) (f:=fun (k497:Nat) (s582:List Bool)=>
   (idxO (kE n cls) ((k497:Nat):Int)).bind fun a597=>
   (idxO (yA n fun k=>((I.count (k:Int)+lE E edO k:Nat):Int)) ((k497:Nat):Int)).bind fun a606=>
   (idxO (yA n fun k=>((O.count (k:Int)+lE E edI k:Nat):Int)) ((k497:Nat):Int)).bind fun a614=>
   (mA a606 a614).bind fun a616=>
   (some (decide ((0:Int)<a616))).bind fun a618=>
   cond a618
   ((setO s582 a597 true).bind fun a628=>
    some a628)
   (some s582)) (fun j hj=>by
  have hle:=hcl.le j
  have c1:I.count (j:Int)≤I.length:=List.count_le_length
  have c2:O.count (j:Int)≤O.length:=List.count_le_length
  have c3:lE E edI j≤cD E edI:=List.count_le_length
  have c4:lE E edO j≤cD E edO:=List.count_le_length
  have hmem:=cnt_mem (E:=E) (I:=I) (O:=O) (w:=(n:Int)) j
  rw [hW] at hmem
  refine bnd (bE _ hj) (bnd (bE _ hj) (bnd (bE _ hj) (bnd (aB (by omega) (by omega)) (stp ?_))))
  by_cases hin:(j:Int)∈W
  ·
   refine cTW (dT (hmem.1 hin)) (bnd (mE _ _ (by omega)) (congrArg some (bD fun k _=>?_)))
   rw [List.range_succ,List.any_append]
   simp only [List.any_cons,List.any_nil,Bool.or_false,dT hin,Bool.true_and]
   by_cases hk:k=cls j
   · rw [if_pos hk,dT hk.symm,Bool.or_true]
   · rw [if_neg hk,dF (fun e=>hk e.symm),Bool.or_false]
  ·
   refine cFW (dF (fun h=>hin (hmem.2 h))) (congrArg some (bD fun k _=>?_))
   rw [List.range_succ,List.any_append]
   simp only [List.any_cons,List.any_nil,Bool.or_false,dF hin,Bool.false_and])
 have e2:(yA n fun r=>(List.range n).any fun w=>decide ((w:Int)∈W)&&decide (cls w=r))=yA n (pD cls W):=bD fun k _=>Hl_ hWr k
 have e20:(yA n fun r=>(List.range 0).any fun w=>decide ((w:Int)∈W)&&decide (cls w=r))=yA n fun _=>false:=rfl
 rw [e2,e20] at a2
 have a3:=xC (n:=n) (fun j=>(yA n (dD (fun k=>if (decide (cls k=k)&&pD cls W k)=true then (numW cls W k:Int) else 0) (fun _=>0) j),(numW cls W j:Int))) (f:=fun (k640:Nat) (s767:List Int×Int)=>
   ((idxO (kE n cls) ((k640:Nat):Int)).bind fun a808=>
    (some (decide (a808=((k640:Nat):Int)))).bind fun a810=>
    cond a810
    ((idxO (yA n (pD cls W)) ((k640:Nat):Int)).bind fun a820=>
     some a820)
    (some false)).bind fun (s796:Bool)=>
   cond s796
   ((setO s767.1 ((k640:Nat):Int) s767.2).bind fun a832=>
    (mA s767.2 1).bind fun a835=>
    some (a832,a835))
   (some (s767.1,s767.2))) (fun j hj=>by
  have hns:=Dj_ cls W j
  have hnl:=EF_ cls W j
  have hcond:((idxO (kE n cls) (j:Int)).bind fun a808=>
    (some (decide (a808=(j:Int)))).bind fun a810=>
    cond a810
    ((idxO (yA n (pD cls W)) (j:Int)).bind fun a820=>
     some a820)
    (some false))=some (decide (cls j=j)&&pD cls W j):=by
   refine bnd (bE _ hj) (stp ?_)
   by_cases he:cls j=j
   · rw [dT he];exact cTW (dT (by omega)) (bnd (bE _ hj) rfl)
   · rw [dF he];exact cFW (dF (by omega)) rfl
  refine bnd hcond ?_
  rw [←Ao_]
  cases hb:(decide (cls j=j)&&pD cls W j) with
  | true=>
   rw [hb] at hns
   refine cTW rfl (bnd (mE _ _ hj) (bnd (aB (by dsimp only;omega) (by dsimp only;omega)) ?_))
   rw [hns,if_pos rfl,if_pos rfl];push_cast;rfl
  | false=>
   rw [hb] at hns
   refine cFW rfl (congrArg some (Prod.ext (bD fun k _=>?_) ?_))
   ·
    by_cases hk:k=j
    · subst hk;rw [if_pos rfl,if_neg (by simp)];unfold dD;rw [if_neg (by omega)]
    · rw [if_neg hk]
   · show (numW cls W j:Int)=(numW cls W (j+1):Int);rw [hns,if_neg (by simp)];rfl)
 have e3:∀ f:Nat→Int,yA n (dD f (fun _=>0) n)=yA n f:=fun f=>bD fun k hk=>by unfold dD;rw [if_pos hk]
 have e30:∀ f:Nat→Int,yA n (dD f (fun _=>0) 0)=yA n fun _=>0:=fun f=>bD fun k hk=>by unfold dD;rw [if_neg (by omega)]
 rw [e3,e30,show numW cls W 0=0 from rfl] at a3
 have a4:=aN (n:=n) (toW cls W) (fun k=>if (decide (cls k=k)&&pD cls W k)=true then (numW cls W k:Int) else 0) (g:=fun (k841:Nat) (s954:List Int)=>
   (idxO (kE n cls) ((k841:Nat):Int)).bind fun a969=>
   (idxO s954 a969).bind fun a977=>
   (setO s954 ((k841:Nat):Int) a977).bind fun a985=>
   (idxO (kE n cls) ((k841:Nat):Int)).bind fun a994=>
   (idxO (yA n (pD cls W)) a994).bind fun a1002=>
   (some (!a1002)).bind fun a1004=>
   cond a1004
   ((setO a985 ((k841:Nat):Int) (-1)).bind fun a1014=>
    some a1014)
   (some a985)) (fun j hj=>by
  have hle:=hcl.le j
  have hid:=hcl.idem j
  refine bnd (bE _ hj) (bnd (bE _ (by omega)) (bnd (mE _ _ hj) (bnd (bE _ hj) (bnd (bE _ (by omega)) (stp ?_)))))
  cases hu:pD cls W (cls j) with
  | false=>
   have ht:toW cls W j = -1:=by unfold toW;rw [hu];rfl
   refine cTW rfl (bnd (mE _ _ hj) (congrArg some (bD fun k _=>?_)))
   rw [ht]
   by_cases hk:k=j
   · rw [if_pos hk,if_pos hk]
   · rw [if_neg hk,if_neg hk,if_neg hk]
  | true=>
   have ht:toW cls W j=(numW cls W (cls j):Int):=by unfold toW;rw [hu];rfl
   refine cFW rfl (congrArg some (bD fun k _=>?_))
   by_cases hk:k=j
   ·
    rw [if_pos hk,if_pos hk,ht]
    unfold dD
    by_cases he:cls j<j
    · rw [if_pos he];unfold toW;rw [hid,hu];rfl
    ·
     have he:cls j=j:=by omega
     rw [he] at hu ⊢
     rw [if_neg (by omega)]
     show (if (decide (cls j=j)&&pD cls W j)=true then (numW cls W j:Int) else 0)=(numW cls W j:Int)
     rw [dT he,hu];rfl
   · rw [if_neg hk,if_neg hk])
 refine bnd (aJ _ (by omega)) ?_
 rw [vE]
 refine bnd (aN (fun k=>(k:Int)) (fun _=>0) (fun j hj=>bnd (mE _ _ hj) rfl)) ?_
 refine bnd a1 ?_
 refine bnd (Do_ (E:=E) (I:=I) (O:=O) (by omega) hg.i hg.o hg.e (by omega)) (bnd (aJ _ (by omega)) ?_)
 have hlN:(kE n cls).length=n:=vE _ _
 rw [hlN]
 refine bnd a2 (bnd (aJ _ (by omega)) ?_)
 rw [vE]
 refine bnd a3 ?_
 dsimp only
 rw [vE]
 refine bnd a4 (bnd (BE_ _ _ hg) ?_)
 unfold gluG
 rw [hcls,hW]
end Go.Proofs.YtemcakhocdchiaaGreatDoor
