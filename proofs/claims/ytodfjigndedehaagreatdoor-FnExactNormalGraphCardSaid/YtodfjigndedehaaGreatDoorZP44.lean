/-
  Plain laws: relations composed and set beside each other: the reference and the program answer alike. No program in sight. No condition.
-/
import Derived.Test.YtodfjigndedehaaGreatDoorZP28
import Derived.Test.YtodfjigndedehaaGreatDoorZP92
import Derived.Test.YtodfjigndedehaaGreatDoorZFn
namespace Go.Proofs.YtodfjigndedehaaGreatDoor
def fD (l:Nat) (B:Rows):Rows:=B.map fun r=>r.take l
def sndL (l:Nat) (B:Rows):Rows:=B.map fun r=>r.drop l
theorem wW {l:Nat}{R:Rel}{row:List Int} (h1:R.1=(l:Int)) (hl:l≤row.length):jN R row=some (row.take l):=by
 refine bnd (a:=row.take l) ?_ rfl
 unfold iB
 rw [if_pos ⟨by omega,by omega,by omega⟩,h1];simp
theorem aW {l:Nat}{R:Rel}{row:List Int} (h1:R.1=(l:Int)) (hl:l≤row.length):gN R row=some (row.drop l):=by
 refine bnd (a:=row.drop l) ?_ rfl
 unfold iB
 rw [if_pos ⟨by omega,by omega,by omega⟩,h1]
 simp only [Int.toNat_natCast]
 rw [List.take_of_length_le (by simp)]
theorem CR_ {l w:Nat}{R:Rel} (h1:R.1=(l:Int)) (hw:∀ r∈R.2.2,r.length=w) (hl:l≤w) (hL:R.2.2.length≤1000):lS R R=some (fD l R.2.2):=by
 have hm:bB=1099511627776:=rfl
 refine bnd (uE (fun r=>r.take l) R.2.2 [] (by simp;omega) (fun j r s hj hs=>?_)) rfl
 have hr:=hw r (xC hj)
 have hjl:=(List.getElem?_eq_some_iff.1 hj).1
 exact bnd (kA hj) (bnd (wW (R:=R) h1 (by omega)) (bnd (jB (by simp at hs ⊢;omega)) rfl))
theorem CI_ {l w:Nat}{R:Rel} (h1:R.1=(l:Int)) (hw:∀ r∈R.2.2,r.length=w) (hl:l≤w) (hL:R.2.2.length≤1000):jS R R=some (sndL l R.2.2):=by
 have hm:bB=1099511627776:=rfl
 refine bnd (uE (fun r=>r.drop l) R.2.2 [] (by simp;omega) (fun j r s hj hs=>?_)) rfl
 have hr:=hw r (xC hj)
 have hjl:=(List.getElem?_eq_some_iff.1 hj).1
 exact bnd (kA hj) (bnd (aW (R:=R) h1 (by omega)) (bnd (jB (by simp at hs ⊢;omega)) rfl))
theorem kW {p:Int}{l w:Nat}{B:Rows} (h:okM p w B) (hl:l≤w):okM p l (fD l B):=by
 intro r hr
 obtain ⟨x,hx,rfl⟩:=List.mem_map.1 hr
 have:=h x hx
 exact ⟨by simp;omega,fun y hy=>this.2 y (List.mem_of_mem_take hy)⟩
theorem xV {p:Int}{l w:Nat}{B:Rows} (h:okM p w B):okM p (w-l) (sndL l B):=by
 intro r hr
 obtain ⟨x,hx,rfl⟩:=List.mem_map.1 hr
 have:=h x hx
 exact ⟨by simp;omega,fun y hy=>this.2 y (List.mem_of_mem_drop hy)⟩
def qK (p:Int) (r:List Int):List Int:=r.map fun x=>(p-x) % p
theorem negR_ok {p:Int}{n:Nat}{r:List Int} (hp:2≤p) (h:r.length=n):okR p n (qK p r):=by
 refine ⟨by simp [qK,h],fun y hy=>?_⟩
 obtain ⟨x,_,rfl⟩:=List.mem_map.1 hy
 exact qL hp
theorem neg_eq (p x:Int):(0 + -1*x) % p=(p-x) % p:=by
 rw [show (0 + -1*x:Int)=(p-x)-p by omega,Int.sub_emod,Int.emod_self]
 simp
theorem negRow_ {p:Int}{n:Nat}{r:List Int} (hp:2≤p∧p≤97) (hr:okR p n r):mI p (List.replicate n 0) (-1) r=some (qK p r):=by
 have:=dV (fun x=>x=0) (fun x=>0≤x∧x<p) (fun y x=>(x + -1*y) % p) r (f:=fun (k3:Nat) (s72:List Int)=>
   (idxO r ((k3:Nat):Int)).bind fun a87=>
   (idxO s72 ((k3:Nat):Int)).bind fun a95=>
   (sF (-1) a87).bind fun a97=>
   (nA a95 a97).bind fun a99=>
   (dO p a99).bind fun y101=>
   (setO s72 ((k3:Nat):Int) y101).bind fun a110=>
   some a110) (by
  intro j y x s hy hx hxp hyp hj
  have hx0:x=0:=hxp
  subst hx0
  exact bnd (kA hy) (bnd (kA hx) (bnd (nL (by omega) (by omega)) (bnd (gB (by omega) (by omega)) (bnd (modG hp (by omega)) (bnd (lC _ hj) rfl)))))) r [] [] (List.replicate n 0) rfl rfl (by rw [hr.1];simp) hr.2 (fun x hx=>List.eq_of_mem_replicate hx)
 refine (bnd this rfl:mI p (List.replicate n 0) (-1) r=_).trans ?_
 congr 1
 have hz:∀ (r:List Int),List.zipWith (fun y x=>(x + -1*y) % p) r (List.replicate r.length 0)=qK p r:=by
  intro r
  induction r with
  | nil=>rfl
  | cons a r ih=>
   show (0 + -1*a) % p::_=_
   rw [neg_eq]
   exact congrArg (List.cons _) ih
 rw [←hr.1]
 simpa using hz r
def jE (p:Int) (l m:Nat) (A B:Rows):Rows:=sndL l A++(fD m B).map (qK p)
theorem Fv_ {p:Int}{l m r:Nat}{A B:Rows} (hp:2≤p) (hA:okM p (l+m) A) (hB:okM p (m+r) B):okM p m (jE p l m A B):=by
 intro x hx
 rcases List.mem_append.1 hx with hx | hx
 ·
  have:=xV hA (l:=l) x hx
  rwa [Nat.add_sub_cancel_left] at this
 ·
  obtain ⟨y,hy,rfl⟩:=List.mem_map.1 hx
  exact negR_ok hp (kW hB (l:=m) (by omega) y hy).1
theorem Ew_ (p:Int) (l m:Nat) (A B:Rows):(jE p l m A B).length=A.length+B.length:=by simp [jE,sndL,fD]
theorem Dz_ {p:Int}{l:Nat}:∀ (B:Rows) (c:List Int) (acc:List Int),(xE (fun acc row c=>kE p c acc row) B c acc).take l=xE (fun acc row c=>kE p c acc row) (fD l B) c (acc.take l)
 | [],c,acc=>by simp [xE,fD]
 | r::B,[],acc=>by simp [xE,fD]
 | r::B,x::c,acc=>by
  show (xE _ B c (kE p x acc r)).take l=xE _ (fD l B) c (kE p x (acc.take l) (r.take l))
  rw [Dz_ B c]
  congr 1
  unfold kE
  rw [List.take_zipWith]
theorem DA_ {p:Int}{l:Nat}:∀ (B:Rows) (c:List Int) (acc:List Int),(xE (fun acc row c=>kE p c acc row) B c acc).drop l=xE (fun acc row c=>kE p c acc row) (sndL l B) c (acc.drop l)
 | [],c,acc=>by simp [xE,sndL]
 | r::B,[],acc=>by simp [xE,sndL]
 | r::B,x::c,acc=>by
  show (xE _ B c (kE p x acc r)).drop l=xE _ (sndL l B) c (kE p x (acc.drop l) (r.drop l))
  rw [DA_ B c]
  congr 1
  unfold kE
  rw [List.drop_zipWith]
theorem Iy_ {p:Int}{l w:Nat} (B:Rows) (c:List Int) (h:l≤w):(jD p w B c).take l=jD p l (fD l B) c:=by
 unfold jD
 rw [Dz_,List.take_replicate,Nat.min_eq_left h]
theorem Iz_ {p:Int}{l w:Nat} (B:Rows) (c:List Int):(jD p w B c).drop l=jD p (w-l) (sndL l B) c:=by
 unfold jD
 rw [DA_,List.drop_replicate]
theorem nul_ker {p:Int}{m:Nat}{M:Rows} (hf:fdB p=true) (h:okM p m M):kG p M.length (trM M m)=kerM p m M:=by
 have hT:okM p M.length (trM M m):=FA_ h (Nat.le_refl _)
 have key:∀ x,sH p M.length (trM M m) x↔eS p m M x:=by
  intro x
  unfold sH eS
  rw [gR]
  refine forall_congr' fun i=>forall_congr' fun hi=>?_
  rw [FB_ hi,mD (g:=fun t=>el x t*el (gr M t) i) (fun t ht=>by rw [colM_el ht,Int.mul_comm])]
 refine Av_ (gC hf).1 (AU_ hf) (AY_ hf h) (fun i hi=>?_) (fun i hi=>?_)
 · exact (D9_ hf h _).2 ((key _).1 ((jV hf hT _).1 (mF hi)))
 · exact (jV hf hT _).2 ((key _).2 ((D9_ hf h _).1 (mF hi)))
def cmpP (p:Int) (l m r:Nat) (A B:Rows):Rows:=(kerM p m (jE p l m A B)).map fun k=>jD p l (fD l A) (k.take A.length)++jD p r (sndL m B) (k.drop A.length)
def cmpR (p:Int) (l m r:Nat) (A B:Rows):Rows:=eC p (l+r) (cmpP p l m r A B)
theorem By_ {p:Int}{l m r:Nat}{A B:Rows} (hf:fdB p=true) (hA:okM p (l+m) A) (hB:okM p (m+r) B):okM p (l+r) (cmpP p l m r A B):=by
 have hp:=(gC hf).1
 intro x hx
 obtain ⟨k,hk,rfl⟩:=List.mem_map.1 hx
 have h1:=sV (p:=p) (n:=l) hp (rows:=fD l A) (cs:=k.take A.length) (kW hA (by omega))
 have h2:okR p r (jD p r (sndL m B) (k.drop A.length)):=sV hp (by have:=xV hB (l:=m);rwa [Nat.add_sub_cancel_left] at this)
 exact Bh_ h1 h2
theorem D8_ {p:Int}{m:Nat}{M:Rows} (hf:fdB p=true) (h:okM p m M):∀ k∈kerM p m M,k.length=M.length∧inP p k:=fun k hk=>(AY_ hf h).ok k hk
theorem E6_ {p:Int}{m:Nat}{M:Rows} (hf:fdB p=true) (h:okM p m M):(kerM p m M).length≤M.length:=mO hf (AY_ hf h)
theorem JA_ {p:Int}{m:Nat} (hp:2≤p∧p≤97) (hm:m≤1000) (Y acc:Rows) (hY:okM p m Y) (hl:acc.length+Y.length≤10000):forS (fun (k22:Nat) (s80:List (List Int))=>
   (idxO Y ((k22:Nat):Int)).bind fun a96=>
   (xG ((a96.length:Nat):Int)).bind fun y100=>
   (mI p y100 (-1) a96).bind fun y105=>
   (oA s80 [y105]).bind fun a111=>
   some a111) Y.length 0 acc=some (acc++Y.map (qK p)):=by
 have hmx:bB=1099511627776:=rfl
 refine uE (qK p) Y acc (by omega) (fun j y s hj hs=>?_)
 have hy:=hY y (xC hj)
 have hjl:=(List.getElem?_eq_some_iff.1 hj).1
 refine bnd (kA hj) (bnd (uI (by omega)) ?_)
 rw [hy.1]
 exact bnd (negRow_ hp hy) (bnd (jB (by simp;omega)) rfl)
theorem Jl_ {p:Int}{l m r:Nat}{A B:Rows} (hf:fdB p=true) (hl:l≤100) (hm:m≤100) (hr:r≤100) (hA:okM p (l+m) A) (hB:okM p (m+r) B) (lA:A.length≤1000) (lB:B.length≤1000) :
  wP p ((l:Int),(m:Int),A) ((m:Int),(r:Int),B)=some ((l:Int),(r:Int),cmpR p l m r A B):=by
 have hmx:bB=1099511627776:=rfl
 have hp:=gC hf
 have wA:∀ x∈A,x.length=l+m:=fun x hx=>(hA x hx).1
 have wB:∀ x∈B,x.length=m+r:=fun x hx=>(hB x hx).1
 have e1:=CI_ (R:=((l:Int),(m:Int),A)) rfl wA (by omega) lA
 have e2:=CR_ (R:=((m:Int),(r:Int),B)) rfl wB (by omega) lB
 have e3:=CR_ (R:=((l:Int),(m:Int),A)) rfl wA (by omega) lA
 have e4:=CI_ (R:=((m:Int),(r:Int),B)) rfl wB (by omega) lB
 have hM:=Fv_ (p:=p) (l:=l) (m:=m) (r:=r) hp.1 hA hB
 have lM:=Ew_ p l m A B
 have lf:(fD l A).length=A.length:=by simp [fD]
 have n1:=JA_ hp (by omega) (fD m B) (sndL l A) (kW hB (by omega)) (by simp [fD,sndL];omega)
 have hK:=kernel_ hf (by omega:m≤1048576) hM (by omega)
 have lK:=E6_ hf hM
 have rK:=D8_ hf hM
 have fA:yL p l (fD l A):=kW hA (by omega)
 have sB:yL p r (sndL m B):=by have:=xV hB (l:=m);rwa [Nat.add_sub_cancel_left] at this
 have ls:(sndL m B).length=B.length:=by simp [sndL]
 have hloop:=uE (f:=fun (k249:Nat) (s401:List (List Int))=>
   (idxO (kerM p m (jE p l m A B)) ((k249:Nat):Int)).bind fun a417=>
   (iB a417 0 (((fD l A).length:Nat):Int)).bind fun a422=>
   (uN p a422 (fD l A) (l:Int)).bind fun y426=>
   (iB a417 (((fD l A).length:Nat):Int) ((a417.length:Nat):Int)).bind fun a432=>
   (uN p a432 (sndL m B) (r:Int)).bind fun y436=>
   (rE [y426,y436]).bind fun y446=>
   (oA s401 [y446]).bind fun a454=>
   some a454) (fun k=>jD p l (fD l A) (k.take A.length)++jD p r (sndL m B) (k.drop A.length)) (kerM p m (jE p l m A B)) [] (by simp;omega) (fun j k s hj hs=>by
  have hk:=rK k (xC hj)
  have hjl:=(List.getElem?_eq_some_iff.1 hj).1
  have s1:iB k 0 (((fD l A).length:Nat):Int)=some (k.take A.length):=by
   unfold iB;rw [if_pos ⟨by omega,by omega,by omega⟩,lf];simp
  have s2:iB k (((fD l A).length:Nat):Int) ((k.length:Nat):Int)=some (k.drop A.length):=by
   unfold iB;rw [if_pos ⟨by omega,by omega,by omega⟩,lf]
   simp only [Int.toNat_natCast]
   rw [List.take_of_length_le (by simp)]
  have c1:=Ev_ hp (by omega:l≤bB) fA (cs:=k.take A.length) (fun x hx=>hk.2 x (List.mem_of_mem_take hx)) (by rw [lf];simp;omega)
  have c2:=Ev_ hp (by omega:r≤bB) sB (cs:=k.drop A.length) (fun x hx=>hk.2 x (List.mem_of_mem_drop hx)) (by rw [ls];simp;omega)
  have hj2:=mR (l:=[jD p l (fD l A) (k.take A.length),jD p r (sndL m B) (k.drop A.length)]) (by simp [c1.2.1,c2.2.1];omega)
  refine bnd (kA hj) (bnd s1 (bnd c1.1 (bnd s2 (bnd c2.1 (bnd hj2 (bnd (jB (by simp at hs ⊢;omega)) ?_))))))
  simp)
 have hred:=fV hf (Nat.le_refl (l+r)) (by omega) (By_ hf hA hB) (m:=cmpP p l m r A B) (by simp [cmpP];omega)
 refine bnd e1 (bnd e2 (bnd n1 (bnd (bnd e3 (bnd e4 rfl)) (bnd hK (bnd hloop ?_)))))
 refine bnd (bnd (gB (by dsimp only;omega) (by dsimp only;omega)) (bnd ?_ rfl)) rfl
 dsimp only
 rw [show ((l:Int)+(r:Int))=((l+r:Nat):Int) by omega]
 exact hred
theorem JL_ {p:Int}{l m r:Nat}{A B:Rows} (hA:okM p (l+m) A) (hB:okM p (m+r) B){j:Nat} (hj:j<m):gF (jE p l m A B) j=A.map (fun x=>el x (l+j))++B.map (fun x=>(p-el x j) % p):=by
 unfold gF jE sndL fD
 rw [List.map_append,List.map_map,List.map_map,List.map_map]
 congr 1
 ·
  refine List.map_congr_left fun x hx=>?_
  show el (x.drop l) j=el x (l+j)
  unfold el
  rw [List.getD_eq_getElem?_getD,List.getD_eq_getElem?_getD,List.getElem?_drop]
 ·
  refine List.map_congr_left fun x hx=>?_
  have hx:=(hB x hx).1
  show el (qK p (x.take m)) j=(p-el x j) % p
  unfold qK el
  rw [List.getD_eq_getElem?_getD,List.getD_eq_getElem?_getD,List.getElem?_map,List.getElem?_take,if_pos hj,List.getElem?_eq_getElem (by omega)]
  rfl
theorem Ic_ {p:Int}{l m r:Nat}{A B:Rows} (hf:fdB p=true) (hl:l≤100) (hm:m≤100) (hr:r≤100) (hA:okM p (l+m) A) (hB:okM p (m+r) B) (lA:A.length≤1000) (lB:B.length≤1000) :
  tP p ((l:Int),(m:Int),A) ((m:Int),(r:Int),B)=some ((l:Int),(r:Int),cmpR p l m r A B):=by
 have hmx:bB=1099511627776:=rfl
 have hp:=gC hf
 have hM:=Fv_ (p:=p) (l:=l) (m:=m) (r:=r) hp.1 hA hB
 have lM:=Ew_ p l m A B
 have hlen:(List.replicate m ([]:List Int)).length=m:=List.length_replicate
 have hrows:forS (fun (k17:Nat) (s676:List (List Int))=>
   (forS (fun (k685:Nat) (s786:List (List Int))=>
     (idxO A ((k685:Nat):Int)).bind fun a801=>
     (idxO s786 ((k17:Nat):Int)).bind fun a812=>
     (nA (l:Int) ((k17:Nat):Int)).bind fun a815=>
     (idxO a801 a815).bind fun a823=>
     (oA a812 [a823]).bind fun a829=>
     (setO s786 ((k17:Nat):Int) a829).bind fun a841=>
     some a841) A.length 0 s676).bind fun (s845:List (List Int))=>
   (forS (fun (k847:Nat) (s950:List (List Int))=>
     (idxO B ((k847:Nat):Int)).bind fun a965=>
     (idxO s950 ((k17:Nat):Int)).bind fun a976=>
     (idxO a965 ((k17:Nat):Int)).bind fun a985=>
     (aO p a985).bind fun y987=>
     (oA a976 [y987]).bind fun a994=>
     (setO s950 ((k17:Nat):Int) a994).bind fun a1006=>
     some a1006) B.length 0 s845).bind fun (s1010:List (List Int))=>
   some s1010) (List.replicate m ([]:List Int)).length 0 (List.replicate m ([]:List Int))=some (trM (jE p l m A B) m):=by
  refine (vC (fun j=>kC (fun j _=>gF (jE p l m A B) j) (List.replicate m ([]:List Int)) j) ?_).trans (by rw [uR];rfl)
  intro j hj
  have hj':j<m:=by rw [hlen] at hj;exact hj
  have hpl:j<(kC (fun j _=>gF (jE p l m A B) j) (List.replicate m ([]:List Int)) j).length:=by rw [xH];exact hj
  have hg:gr (kC (fun j _=>gF (jE p l m A B) j) (List.replicate m ([]:List Int)) j) j=[]:=by
   rw [pL hj,if_neg (by omega)]
   unfold gr;rw [List.getD_eq_getElem?_getD,List.getElem?_replicate,if_pos hj'];rfl
  have e1:kC (fun j _=>gF (jE p l m A B) j) (List.replicate m ([]:List Int)) j=(kC (fun j _=>gF (jE p l m A B) j) (List.replicate m ([]:List Int)) j).set j ((A.take 0).map fun x=>el x (l+j)):=by
   conv=>lhs;rw [←aN hpl,hg]
   rfl
  have e2:=sU (g:=fun j _=>gF (jE p l m A B) j) (m:=List.replicate m ([]:List Int)) hj
  have e3:=JL_ (p:=p) (l:=l) (r:=r) hA hB hj'
  rw [e3] at e2
  rw [←e2]
  generalize kC (fun j _=>gF (jE p l m A B) j) (List.replicate m ([]:List Int)) j=Z at hpl hg e1 ⊢
  rw [e1]
  refine bnd (a:=Z.set j (A.map fun x=>el x (l+j))) ?_ (bnd (a:=Z.set j (A.map (fun x=>el x (l+j))++B.map fun x=>(p-el x j) % p)) ?_ ?_)
  ·
   refine (vC (fun k=>Z.set j ((A.take k).map fun x=>el x (l+j))) ?_).trans (by rw [List.take_length])
   intro k hk
   have hset:j<(Z.set j ((A.take k).map fun x=>el x (l+j))).length:=by rw [List.length_set];exact hpl
   have hw:=(hA _ (cN hk)).1
   refine bnd (eD hk) (bnd (eD hset) (bnd (a:=((l+j:Nat):Int)) (by rw [gB (by omega) (by omega)];congr 1) (bnd (gE (by omega)) ?_)))
   rw [xI hpl,if_pos rfl]
   refine bnd (jB (by simp;omega)) (bnd (lC _ hset) ?_)
   rw [List.set_set,List.take_add_one,wE hk,List.map_append]
   rfl
  ·
   have e4:Z.set j (A.map fun x=>el x (l+j))=Z.set j (A.map (fun x=>el x (l+j))++(B.take 0).map fun x=>(p-el x j) % p):=by simp
   rw [e4]
   refine (vC (fun k=>Z.set j (A.map (fun x=>el x (l+j))++(B.take k).map fun x=>(p-el x j) % p)) ?_).trans (by rw [List.take_length])
   intro k hk
   have hset:j<(Z.set j (A.map (fun x=>el x (l+j))++(B.take k).map fun x=>(p-el x j) % p)).length:=by rw [List.length_set];exact hpl
   have hw:=hB _ (cN hk)
   have hel:=fI hB hk (c:=j) (by omega)
   refine bnd (eD hk) (bnd (eD hset) (bnd (gE (by omega)) (bnd (BN_ hp hel) ?_)))
   rw [xI hpl,if_pos rfl]
   refine bnd (jB (by simp;omega)) (bnd (lC _ hset) ?_)
   rw [List.set_set,List.take_add_one,wE hk,List.map_append,← List.append_assoc]
   rfl
  · rw [List.set_set]
 have hT:okM p (jE p l m A B).length (trM (jE p l m A B) m):=FA_ hM (Nat.le_refl _)
 have hN:=ER_ (n:=(jE p l m A B).length) hf (by omega) hT (by rw [gR];omega)
 rw [nul_ker hf hM,lM] at hN
 have lK:=E6_ hf hM
 have rK:=D8_ hf hM
 have sB:okM p (m+r-m) (sndL m B):=xV hB
 have hloop:=uE (f:=fun (k1023:Nat) (s1216:List (List Int))=>
   (idxO (kerM p m (jE p l m A B)) ((k1023:Nat):Int)).bind fun a1233=>
   (nA (l:Int) (m:Int)).bind fun a1238=>
   (iB a1233 0 ((A.length:Nat):Int)).bind fun a1240=>
   (zN p a1238 A a1240).bind fun y1244=>
   (nA (m:Int) (r:Int)).bind fun a1250=>
   (iB a1233 ((A.length:Nat):Int) ((a1233.length:Nat):Int)).bind fun a1252=>
   (zN p a1250 B a1252).bind fun y1256=>
   (iB y1256 (m:Int) ((y1256.length:Nat):Int)).bind fun a1262=>
   (iB y1244 0 (l:Int)).bind fun a1266=>
   (zK a1266).bind fun y1270=>
   (oA y1270 a1262).bind fun a1275=>
   (oA s1216 [a1275]).bind fun a1283=>
   some a1283) (fun k=>jD p l (fD l A) (k.take A.length)++jD p r (sndL m B) (k.drop A.length)) (kerM p m (jE p l m A B)) [] (by simp;omega) (fun j k s hj hs=>by
  have hk:=rK k (xC hj)
  have hjl:=(List.getElem?_eq_some_iff.1 hj).1
  have s1:iB k 0 ((A.length:Nat):Int)=some (k.take A.length):=by
   unfold iB;rw [if_pos ⟨by omega,by omega,by omega⟩];simp
  have s2:iB k ((A.length:Nat):Int) ((k.length:Nat):Int)=some (k.drop A.length):=by
   unfold iB;rw [if_pos ⟨by omega,by omega,by omega⟩]
   simp only [Int.toNat_natCast]
   rw [List.take_of_length_le (by simp)]
  have c1:=FG_ hp (by omega:l+m≤bB) hA (cs:=k.take A.length) (fun x hx=>hk.2 x (List.mem_of_mem_take hx)) (by simp;omega)
  have c2:=FG_ hp (by omega:m+r≤bB) hB (cs:=k.drop A.length) (fun x hx=>hk.2 x (List.mem_of_mem_drop hx)) (by simp;omega)
  have o1:=sV (p:=p) (n:=l+m) hp.1 (rows:=A) (cs:=k.take A.length) hA
  have o2:=sV (p:=p) (n:=m+r) hp.1 (rows:=B) (cs:=k.drop A.length) hB
  have t1:=Iy_ (p:=p) A (k.take A.length) (show l≤l+m by omega)
  have t2:=Iz_ (p:=p) (l:=m) (w:=m+r) B (k.drop A.length)
  rw [Nat.add_sub_cancel_left] at t2
  have s3:iB (jD p (m+r) B (k.drop A.length)) (m:Int) (((jD p (m+r) B (k.drop A.length)).length:Nat):Int)=some (jD p r (sndL m B) (k.drop A.length)):=by
   unfold iB;rw [if_pos ⟨by omega,by rw [o2.1];omega,by omega⟩]
   simp only [Int.toNat_natCast]
   rw [List.take_of_length_le (by simp),t2]
  have s4:iB (jD p (l+m) A (k.take A.length)) 0 (l:Int)=some (jD p l (fD l A) (k.take A.length)):=by
   unfold iB;rw [if_pos ⟨by omega,by omega,by rw [o1.1];omega⟩]
   simp [t1]
  have lx:(jD p l (fD l A) (k.take A.length)).length=l:=by rw [←t1];simp [o1.1]
  have lz:(jD p r (sndL m B) (k.drop A.length)).length=r:=by rw [←t2];simp [o2.1]
  have a1:nA (l:Int) (m:Int)=some ((l+m:Nat):Int):=by rw [gB (by omega) (by omega)];congr 1
  have a2:nA (m:Int) (r:Int)=some ((m+r:Nat):Int):=by rw [gB (by omega) (by omega)];congr 1
  refine bnd (kA hj) (bnd a1 (bnd s1 (bnd c1 (bnd a2 (bnd s2 (bnd c2 (bnd s3 (bnd s4 (bnd (own_ (by omega)) (bnd (jB (by omega)) (bnd (jB (by simp at hs ⊢;omega)) rfl))))))))))))
 have hred:=pQ hf (Nat.le_refl (l+r)) (by omega) (By_ hf hA hB) (m:=cmpP p l m r A B) (by simp [cmpP];omega)
 refine bnd (sG [] (by omega)) (bnd hrows (bnd (a:=((A.length+B.length:Nat):Int)) (by rw [gB (by dsimp only;omega) (by dsimp only;omega)];congr 1) (bnd hN (bnd hloop ?_))))
 refine bnd (bnd (gB (by dsimp only;omega) (by dsimp only;omega)) (bnd ?_ rfl)) rfl
 dsimp only
 rw [show ((l:Int)+(r:Int))=((l+r:Nat):Int) by omega]
 exact hred
end Go.Proofs.YtodfjigndedehaaGreatDoor
namespace Go.Proofs.YtodfjigndedehaaGreatDoor
theorem el_app2 (a b:List Int) (q:Nat):el (a++b) q=if q<a.length then el a q else el b (q-a.length):=by
 unfold el
 rw [List.getD_eq_getElem?_getD]
 split
 · rw [List.getElem?_append_left ‹_›,List.getD_eq_getElem?_getD]
 · rw [List.getElem?_append_right (by omega),List.getD_eq_getElem?_getD]
theorem A5_ {a:List Int}{k q:Nat} (h:q<k):el (a.take k) q=el a q:=by
 unfold el
 rw [List.getD_eq_getElem?_getD,List.getD_eq_getElem?_getD,List.getElem?_take,if_pos h]
theorem el_drop2 (a:List Int) (k q:Nat):el (a.drop k) q=el a (k+q):=by
 unfold el
 rw [List.getD_eq_getElem?_getD,List.getD_eq_getElem?_getD,List.getElem?_drop]
theorem Fo_ {z:List Int}{i j:Nat}{v:Int} (h:i<z.length):el (z.set i v) j=if i=j then v else el z j:=by
 unfold el
 rw [List.getD_eq_getElem?_getD,List.getD_eq_getElem?_getD,List.getElem?_set]
 by_cases e:i=j
 · subst e;simp [h]
 · rw [if_neg e,if_neg e]
theorem C2_ {row:List Int}{W:Nat} (pos:Nat→Nat) (hinj:∀ i j,i<row.length→j<row.length→pos i=pos j→i=j) (hlt:∀ j,j<row.length→pos j<W){f:Nat→List Int→Option (List Int)}
  (hf:∀ j s,j<row.length→s.length=W→f j s=some (s.set (pos j) (el row j))):∃ r,forS f row.length 0 (List.replicate W 0)=some r∧r.length=W∧(∀ j,j<row.length→el r (pos j)=el row j)∧∀ q,(∀ j,j<row.length→pos j≠q)→el r q=0:=
 lO (fun k s=>s.length=W∧(∀ j,j<k→el s (pos j)=el row j)∧∀ q,(∀ j,j<k→pos j≠q)→el s q=0) ⟨by simp,fun j hj=>by omega,fun q _=>aP W q⟩ (fun j s hj ⟨h1,h2,h3⟩=>by
  have hp:=hlt j hj
  refine ⟨_,hf j s hj h1,by simpa using h1,fun i hi=>?_,fun q hq=>?_⟩
  ·
   rw [Fo_ (by omega)]
   by_cases hij:i=j
   · subst hij;rw [if_pos rfl]
   ·
    rw [if_neg (fun e=>hij (hinj j i hj (by omega) e).symm)]
    exact h2 i (by omega)
  ·
   rw [Fo_ (by omega),if_neg (hq j (by omega))]
   exact h3 q (fun i hi=>hq i (by omega)))
def iI (l1 l2 r2:Nat) (row:List Int):List Int:=row.take l1++(List.replicate l2 0++(row.drop l1++List.replicate r2 0))
def oK (l1 l2 r1:Nat) (row:List Int):List Int:=List.replicate l1 0++(row.take l2++(List.replicate r1 0++row.drop l2))
def tenP (l1 r1 l2 r2:Nat) (A B:Rows):Rows:=A.map (iI l1 l2 r2)++B.map (oK l1 l2 r1)
def tenR (p:Int) (l1 r1 l2 r2:Nat) (A B:Rows):Rows:=eC p (l1+l2+(r1+r2)) (tenP l1 r1 l2 r2 A B)
theorem EL_ {p:Int}{l1 r1 l2 r2:Nat}{row:List Int} (hp:2≤p) (h:okR p (l1+r1) row):okR p (l1+l2+(r1+r2)) (iI l1 l2 r2 row):=by
 obtain ⟨h1,h2⟩:=h
 refine ⟨by simp [iI];omega,fun x hx=>?_⟩
 have z:(0:Int)≤0∧(0:Int)<p:=⟨by omega,by omega⟩
 rcases List.mem_append.1 hx with hx | hx
 · exact h2 x (List.mem_of_mem_take hx)
 ·
  rcases List.mem_append.1 hx with hx | hx
  · rw [List.eq_of_mem_replicate hx];exact z
  ·
   rcases List.mem_append.1 hx with hx | hx
   · exact h2 x (List.mem_of_mem_drop hx)
   · rw [List.eq_of_mem_replicate hx];exact z
theorem EK_ {p:Int}{l1 r1 l2 r2:Nat}{row:List Int} (hp:2≤p) (h:okR p (l2+r2) row):okR p (l1+l2+(r1+r2)) (oK l1 l2 r1 row):=by
 obtain ⟨h1,h2⟩:=h
 refine ⟨by simp [oK];omega,fun x hx=>?_⟩
 have z:(0:Int)≤0∧(0:Int)<p:=⟨by omega,by omega⟩
 rcases List.mem_append.1 hx with hx | hx
 · rw [List.eq_of_mem_replicate hx];exact z
 ·
  rcases List.mem_append.1 hx with hx | hx
  · exact h2 x (List.mem_of_mem_take hx)
  ·
   rcases List.mem_append.1 hx with hx | hx
   · rw [List.eq_of_mem_replicate hx];exact z
   · exact h2 x (List.mem_of_mem_drop hx)
theorem Bc_ {p:Int}{l1 r1 l2 r2:Nat}{A B:Rows} (hp:2≤p) (hA:okM p (l1+r1) A) (hB:okM p (l2+r2) B):okM p (l1+l2+(r1+r2)) (tenP l1 r1 l2 r2 A B):=by
 intro x hx
 rcases List.mem_append.1 hx with hx | hx
 ·
  obtain ⟨y,hy,rfl⟩:=List.mem_map.1 hx
  exact EL_ hp (hA y hy)
 ·
  obtain ⟨y,hy,rfl⟩:=List.mem_map.1 hx
  exact EK_ hp (hB y hy)
theorem tensor_ {p:Int}{l1 r1 l2 r2:Nat}{A B:Rows} (hf:fdB p=true) (hl:l1≤100) (hr:r1≤100) (hl2:l2≤100) (hr2:r2≤100) (hA:okM p (l1+r1) A) (hB:okM p (l2+r2) B) (lA:A.length≤1000) (lB:B.length≤1000) :
  eQ p ((l1:Int),(r1:Int),A) ((l2:Int),(r2:Int),B)=some (((l1+l2:Nat):Int),((r1+r2:Nat):Int),tenR p l1 r1 l2 r2 A B):=by
 have hmx:bB=1099511627776:=rfl
 have hp:=gC hf
 have e1:uX ((l1:Int),(r1:Int),A) ((l1:Int),(r1:Int),A) ((l2:Int),(r2:Int),B)=some (A.map (iI l1 l2 r2)):=by
  refine bnd (uE (iI l1 l2 r2) A [] (by simp;omega) (fun j x s hj hs=>?_)) rfl
  have hx:=(hA x (xC hj)).1
  have hjl:=(List.getElem?_eq_some_iff.1 hj).1
  have hjo:=mR (l:=[x.take l1,List.replicate l2 0,x.drop l1,List.replicate r2 0]) (by simp;omega)
  refine bnd (kA hj) (bnd (bnd (wW (l:=l1) rfl (by omega)) (bnd (uI (by omega)) (bnd (aW (l:=l1) rfl (by omega)) (bnd (uI (by omega)) (bnd hjo rfl))))) (bnd (jB (by simp at hs ⊢;omega)) ?_))
  simp [iI]
 have e2:tX ((l2:Int),(r2:Int),B) ((l1:Int),(r1:Int),A) ((l2:Int),(r2:Int),B)=some (B.map (oK l1 l2 r1)):=by
  refine bnd (uE (oK l1 l2 r1) B [] (by simp;omega) (fun j x s hj hs=>?_)) rfl
  have hx:=(hB x (xC hj)).1
  have hjl:=(List.getElem?_eq_some_iff.1 hj).1
  have hjo:=mR (l:=[List.replicate l1 0,x.take l2,List.replicate r1 0,x.drop l2]) (by simp;omega)
  refine bnd (kA hj) (bnd (bnd (uI (by omega)) (bnd (wW (l:=l2) rfl (by omega)) (bnd (uI (by omega)) (bnd (aW (l:=l2) rfl (by omega)) (bnd hjo rfl))))) (bnd (jB (by simp at hs ⊢;omega)) ?_))
  simp [oK]
 have hred:=fV hf (Nat.le_refl (l1+l2+(r1+r2))) (by omega) (Bc_ hp.1 hA hB) (by simp [tenP];omega)
 refine bnd e1 (bnd e2 (bnd (jB (by simp;omega)) (bnd (a:=((l1+l2:Nat):Int)) (by rw [gB (by dsimp only;omega) (by dsimp only;omega)];congr 1) (bnd (a:=((r1+r2:Nat):Int)) (by rw [gB (by dsimp only;omega) (by dsimp only;omega)];congr 1) (bnd (bnd (a:=((l1+l2+(r1+r2):Nat):Int)) (by rw [gB (by omega) (by omega)];congr 1) (bnd hred rfl)) rfl)))))
theorem IT_ {p:Int}{l1 r1 l2 r2:Nat}{A B:Rows} (hf:fdB p=true) (hl:l1≤100) (hr:r1≤100) (hl2:l2≤100) (hr2:r2≤100) (hA:okM p (l1+r1) A) (hB:okM p (l2+r2) B) (lA:A.length≤1000) (lB:B.length≤1000) :
  vP p ((l1:Int),(r1:Int),A) ((l2:Int),(r2:Int),B)=some (((l1+l2:Nat):Int),((r1+r2:Nat):Int),tenR p l1 r1 l2 r2 A B):=by
 have hmx:bB=1099511627776:=rfl
 have hp:=gC hf
 have n1:nA ((l1+l2:Nat):Int) ((r1+r2:Nat):Int)=some ((l1+l2+(r1+r2):Nat):Int):=by rw [gB (by omega) (by omega)];congr 1
 have hred:=pQ hf (Nat.le_refl (l1+l2+(r1+r2))) (by omega) (Bc_ hp.1 hA hB) (by simp [tenP];omega)
 refine bnd (a:=((l1+l2:Nat):Int)) (by rw [gB (by dsimp only;omega) (by dsimp only;omega)];congr 1) (bnd (a:=((r1+r2:Nat):Int)) (by rw [gB (by dsimp only;omega) (by dsimp only;omega)];congr 1) (bnd (a:=A.map (iI l1 l2 r2)) ?_ (bnd (a:=tenP l1 r1 l2 r2 A B) ?_ (bnd (bnd n1 (bnd hred rfl)) rfl))))
 ·
  refine (uE (iI l1 l2 r2) A [] (by simp;omega) (fun j x s hj hs=>?_)).trans (by simp)
  have hx:=(hA x (xC hj)).1
  have hjl:=(List.getElem?_eq_some_iff.1 hj).1
  refine bnd (kA hj) (bnd n1 (bnd (sG _ (by omega)) (bnd (a:=iI l1 l2 r2 x) ?_ (bnd (jB (by simp at hs ⊢;omega)) rfl))))
  obtain ⟨r,q1,q2,q3,q4⟩:=C2_ (row:=x) (W:=l1+l2+(r1+r2)) (fun j=>if j<l1 then j else l1+l2+(j-l1)) (fun i j hi hj h=>by
   skip
   split at h <;> split at h <;> omega) (fun j hj=>by split <;> omega) (f:=fun (k342:Nat) (s415:List Int)=>
     (idxO x ((k342:Nat):Int)).bind fun a430=>
     (some (decide (((k342:Nat):Int)<(l1:Int)))).bind fun a432=>
     cond a432
     ((setO s415 ((k342:Nat):Int) a430).bind fun a455=>
      some a455)
     ((nA ((l1+l2:Nat):Int) ((k342:Nat):Int)).bind fun a435=>
      (subO a435 (l1:Int)).bind fun a437=>
      (setO s415 a437 a430).bind fun a445=>
      some a445)) (fun i t hi ht=>by
    refine bnd (gE hi) ?_
    by_cases h:i<l1
    ·
     rw [if_pos h]
     exact stp (cTW (dT (by omega)) (bnd (lC _ (by omega)) rfl))
    ·
     rw [if_neg h]
     refine stp (cFW (dF (by omega)) (bnd (gB (by omega) (by omega)) (bnd (a:=((l1+l2+(i-l1):Nat):Int)) (by rw [yC (by omega) (by omega)];congr 1;omega) (bnd (lC _ (by omega)) rfl))))
   )
  refine q1.trans (congrArg some ?_)
  refine zR (by rw [q2,(EL_ (p:=p) (r1:=r1) hp.1 (hA x (xC hj))).1]) (fun q hq=>?_)
  rw [q2] at hq
  unfold iI
  have ltk:(x.take l1).length=l1:=by simp;omega
  have ldr:(x.drop l1).length=r1:=by simp;omega
  rw [el_app2,ltk]
  by_cases c1:q<l1
  ·
   rw [if_pos c1,A5_ c1]
   have:=q3 q (by omega)
   skip
   rwa [if_pos c1] at this
  ·
   rw [if_neg c1,el_app2,List.length_replicate]
   by_cases c2:q-l1<l2
   ·
    rw [if_pos c2,aP]
    exact q4 q (fun j hj=>by split <;> omega)
   ·
    rw [if_neg c2,el_app2,ldr]
    by_cases c3:q-l1-l2<r1
    ·
     rw [if_pos c3,el_drop2]
     have:=q3 (q-l2) (by omega)
     skip
     rw [if_neg (by omega),show l1+l2+(q-l2-l1)=q by omega] at this
     rw [this];congr 1;omega
    ·
     rw [if_neg c3,aP]
     exact q4 q (fun j hj=>by split <;> omega)
 ·
  refine (uE (oK l1 l2 r1) B (A.map (iI l1 l2 r2)) (by simp;omega) (fun j x s hj hs=>?_)).trans rfl
  have hx:=(hB x (xC hj)).1
  have hjl:=(List.getElem?_eq_some_iff.1 hj).1
  refine bnd (kA hj) (bnd n1 (bnd (sG _ (by omega)) (bnd (a:=oK l1 l2 r1 x) ?_ (bnd (jB (by simp at hs ⊢;omega)) rfl))))
  obtain ⟨r,q1,q2,q3,q4⟩:=C2_ (row:=x) (W:=l1+l2+(r1+r2)) (fun j=>if j<l2 then l1+j else l1+l2+r1+(j-l2)) (fun i j hi hj h=>by
   skip
   split at h <;> split at h <;> omega) (fun j hj=>by split <;> omega) (f:=fun (k822:Nat) (s903:List Int)=>
     (idxO x ((k822:Nat):Int)).bind fun a918=>
     (some (decide (((k822:Nat):Int)<(l2:Int)))).bind fun a920=>
     cond a920
     ((nA (l1:Int) ((k822:Nat):Int)).bind fun a939=>
      (setO s903 a939 a918).bind fun a947=>
      some a947)
     ((nA ((l1+l2:Nat):Int) (r1:Int)).bind fun a923=>
      (nA a923 ((k822:Nat):Int)).bind fun a925=>
      (subO a925 (l2:Int)).bind fun a927=>
      (setO s903 a927 a918).bind fun a935=>
      some a935)) (fun i t hi ht=>by
    refine bnd (gE hi) ?_
    by_cases h:i<l2
    ·
     rw [if_pos h]
     exact stp (cTW (dT (by omega)) (bnd (a:=((l1+i:Nat):Int)) (by rw [gB (by omega) (by omega)];congr 1) (bnd (lC _ (by omega)) rfl)))
    ·
     rw [if_neg h]
     refine stp (cFW (dF (by omega)) (bnd (gB (by omega) (by omega)) (bnd (gB (by omega) (by omega)) (bnd (a:=((l1+l2+r1+(i-l2):Nat):Int)) (by rw [yC (by omega) (by omega)];congr 1;omega) (bnd (lC _ (by omega)) rfl)))))
   )
  refine q1.trans (congrArg some ?_)
  refine zR (by rw [q2,(EK_ (p:=p) (r2:=r2) hp.1 (hB x (xC hj))).1]) (fun q hq=>?_)
  rw [q2] at hq
  unfold oK
  have ltk:(x.take l2).length=l2:=by simp;omega
  have ldr:(x.drop l2).length=r2:=by simp;omega
  rw [el_app2,List.length_replicate]
  by_cases c1:q<l1
  ·
   rw [if_pos c1,aP]
   exact q4 q (fun j hj=>by split <;> omega)
  ·
   rw [if_neg c1,el_app2,ltk]
   by_cases c2:q-l1<l2
   ·
    rw [if_pos c2,A5_ c2]
    have:=q3 (q-l1) (by omega)
    skip
    rwa [if_pos c2,show l1+(q-l1)=q by omega] at this
   ·
    rw [if_neg c2,el_app2,List.length_replicate]
    by_cases c3:q-l1-l2<r1
    ·
     rw [if_pos c3,aP]
     exact q4 q (fun j hj=>by split <;> omega)
    ·
     rw [if_neg c3,el_drop2]
     have:=q3 (q-l1-r1) (by omega)
     skip
     rw [if_neg (by omega),show l1+l2+r1+(q-l1-r1-l2)=q by omega] at this
     rw [this];congr 1;omega
end Go.Proofs.YtodfjigndedehaaGreatDoor
namespace Go.Proofs.YtodfjigndedehaaGreatDoor
end Go.Proofs.YtodfjigndedehaaGreatDoor
namespace Go.Proofs.YtodfjigndedehaaGreatDoor
instance:Nice ByteArray:=⟨fun s=>(s.size:Int)≤9223372036854775807⟩
def byD (n:Int):ByteArray:=nO ([(48+n.tmod 10) % 256]:List Int)
def mDig:Nat→Int→ByteArray→ByteArray
 | 0,_,s=>s
 | f+1,n,s=>if 0<n then mDig f (n.tdiv 10) (byD n++s) else s
def mText (k:Int):ByteArray:=if k≤0 then ⟨#[109,48]⟩ else ⟨#[109]⟩++mDig (k.toNat+1) k .empty
theorem Fx_ {a b:ByteArray} (h:a.size+b.size≤9223372036854775807):catO a b=some (a++b):=if_pos (by omega)
theorem Ez_ (n:Int):(byD n).size=1:=rfl
theorem I6_ (k:Int) (h0:0≤k) (h:k≤1125899906842624):mZ k=some (mText k):=by
 unfold mText
 by_cases hk:k≤0
 · rw [if_pos hk];exact stp (cTW (dT hk) rfl)
 ·
  rw [if_neg hk]
  have key:∀ (f:Nat) (n:Int) (s:ByteArray),0≤n→n.toNat<f→n+s.size≤1125899906842624→(mDig f n s).size≤1125899906842624∧qB (fun (s123:Int×ByteArray)=>
    (some (decide ((0:Int)<s123.1))).bind fun a132=>
    cond a132
    ((nD s123.1 10).bind fun a137=>
     (nA 48 a137).bind fun a139=>
     (some (a139 % 256)).bind fun a141=>
     (some (nO ([a141]:List By))).bind fun a146=>
     (catO a146 s123.2).bind fun a148=>
     (bM s123.1 10).bind fun a150=>
     some (.inl (a150,a148)))
    (some (.inr s123.2))) (n,s)=some (mDig f n s):=by
   intro f
   induction f with
   | zero=>intro n s h1 h2 h3;omega
   | succ f ih=>
    intro n s h1 h2 h3
    rw [mDig]
    by_cases hn:0<n
    ·
     rw [if_pos hn]
     have e:n.tdiv 10=n / 10:=Int.tdiv_eq_ediv_of_nonneg h1
     have e2:n.tmod 10=n % 10:=Int.tmod_eq_emod_of_nonneg h1
     have hq:bM n 10=some (n.tdiv 10):=by unfold bM;rw [if_neg (by decide)];exact nK ⟨by omega,by omega⟩
     have hs:(byD n++s).size=s.size+1:=by rw [ByteArray.size_append,Ez_];omega
     obtain ⟨i1,i2⟩:=ih (n.tdiv 10) (byD n++s) (by omega) (by omega) (by rw [hs];omega)
     refine ⟨i1,?_⟩
     have st:=Fx_ (a:=byD n) (b:=s) (by rw [Ez_];omega)
     rw [←i2]
     exact lF (stp (cTW (dT hn) (bnd (aH (by decide)) (bnd (gB (by dsimp only;omega) (by dsimp only;omega)) (stp (stp (bnd st (bnd hq rfl))))))))
    ·
     rw [if_neg hn]
     exact ⟨by omega,dE (stp (cFW (dF hn) rfl))⟩
  obtain ⟨k1,k2⟩:=key (k.toNat+1) k .empty (by omega) (by omega) (by show k+0≤_;omega)
  have hz:(⟨#[109]⟩:ByteArray).size=1:=rfl
  have hc:=Fx_ (a:=⟨#[109]⟩) (b:=mDig (k.toNat+1) k .empty) (by omega)
  refine stp (cFW (dF hk) (bnd k2 ?_))
  exact bnd hc rfl
end Go.Proofs.YtodfjigndedehaaGreatDoor
namespace Go.Proofs.YtodfjigndedehaaGreatDoor
abbrev Nod:=Int×Int×ByteArray
inductive Tr where
 | leaf (n:Nod)
 | node (k:Int) (a b:Tr)
def flat:Tr→List Nod
 | .leaf n=>[n]
 | .node k a b=>flat a++flat b++[(k,0,.empty)]
theorem kL:∀ T:Tr,0<(flat T).length
 | .leaf _=>by simp [flat]
 | .node _ _ _=>by simp [flat];omega
def lfB (n:Nod):Bool:=decide (n.2.2=.empty)&&(rng n.1 1 14&&(if n.1=1 then rng n.2.1 0 12 else if n.1=7∨n.1=13 then rng n.2.1 0 96 else decide (n.2.1=0)))
def lfT (n:Nod):Int×Int:=if n.1=1 then (n.2.1,n.2.1) else kd n.1
def jn (k:Int) (x y:Int×Int):Option (Int×Int):=if k=15 then (if x.2=y.1 then some (x.1,y.2) else none) else if x.1+y.1≤12∧x.2+y.2≤12 then some (x.1+y.1,x.2+y.2) else none
abbrev Stk:=List (Tr×(Int×Int))
def tC (S:Stk) (n:Nod):Option Stk:=
 if n.1=15∨n.1=16 then
  if n.2.1=0∧n.2.2=.empty then match S with
   | (b,y)::(a,x)::S'=>(jn n.1 x y).map fun w=>(.node n.1 a b,w)::S'
   | _=>none
  else none
 else if lfB n=true then some ((.leaf n,lfT n)::S) else none
def dD:List Nod→Stk→Option Stk
 | [],S=>some S
 | n::t,S=>(tC S n).bind fun S'=>dD t S'
theorem runT_app:∀ (a b:List Nod) (S:Stk),dD (a++b) S=(dD a S).bind fun S'=>dD b S'
 | [],b,S=>rfl
 | n::a,b,S=>by
  show (tC S n).bind _=((tC S n).bind _).bind _
  cases tC S n with
  | none=>rfl
  | some S'=>exact runT_app a b S'
theorem Dl_ {t:List Nod}{j:Nat} (hj:j<t.length){S:Stk} (h:dD (t.take j) []=some S):dD (t.take (j+1)) []=tC S t[j]:=by
 rw [List.take_add_one,List.getElem?_eq_getElem hj,runT_app,h]
 show (tC S t[j]).bind _=_
 cases tC S t[j] <;> rfl
theorem Dm_ {t:List Nod}{j:Nat} (h:dD (t.take j) []=none):dD t []=none:=by
 have:t=t.take j++t.drop j:=(List.take_append_drop _ _).symm
 rw [this,runT_app,h];rfl
def qD (t:List Nod):Bool:=rng t.length 1 400&&(match dD t [] with | some [_]=>true | _=>false)
def gG (w:Int×Int):Prop:=0≤w.1∧w.1≤12∧0≤w.2∧w.2≤12
theorem FM_ {n:Nod} (h:lfB n=true):gG (lfT n):=by
 unfold lfB at h
 simp only [Bool.and_eq_true,decide_eq_true_eq] at h
 unfold lfT
 by_cases h1:n.1=1
 ·
  rw [if_pos h1]
  rw [if_pos h1] at h
  have:=rng_true.1 h.2.2
  exact ⟨this.1,this.2,this.1,this.2⟩
 ·
  rw [if_neg h1]
  have:=kd_le n.1
  exact ⟨by omega,by omega,by omega,by omega⟩
theorem jn_ok {k:Int}{x y w:Int×Int} (hx:gG x) (hy:gG y) (h:jn k x y=some w):gG w:=by
 obtain ⟨a1,a2,a3,a4⟩:=hx
 obtain ⟨b1,b2,b3,b4⟩:=hy
 unfold jn at h
 split at h
 ·
  split at h
  · obtain rfl:=Option.some.inj h;exact ⟨a1,a2,b3,b4⟩
  · cases h
 ·
  split at h
  ·
   obtain rfl:=Option.some.inj h
   exact ⟨by dsimp only;omega,by dsimp only;omega,by dsimp only;omega,by dsimp only;omega⟩
  · cases h
def cS (S:Stk):Prop:=∀ p∈S,gG p.2
theorem Ju_ {S S':Stk}{n:Nod} (hS:cS S) (h:tC S n=some S'):cS S':=by
 unfold tC at h
 split at h
 ·
  split at h
  ·
   split at h
   ·
    rename_i b y a x S0
    obtain ⟨w,hw,rfl⟩:=Option.map_eq_some_iff.1 h
    intro p hp
    rcases List.mem_cons.1 hp with rfl | hp
    · exact jn_ok (hS (a,x) (by simp)) (hS (b,y) (by simp)) hw
    · exact hS p (by simp [hp])
   · cases h
  · cases h
 ·
  split at h
  ·
   obtain rfl:=Option.some.inj h
   intro p hp
   rcases List.mem_cons.1 hp with rfl | hp
   · exact FM_ ‹_›
   · exact hS p hp
  · cases h
theorem Bd_:∀ (t:List Nod) (S S':Stk),cS S→dD t S=some S'→cS S'
 | [],S,S',hS,h=>by obtain rfl:=Option.some.inj h;exact hS
 | n::t,S,S',hS,h=>by
  obtain ⟨S1,h1,h2⟩:=nB h
  exact Bd_ t S1 S' (Ju_ hS h1) h2
def aM (S:Stk):List Nod:=(S.reverse.map fun p=>flat p.1).flatten
theorem H6_ {S S':Stk}{n:Nod} (h:tC S n=some S'):aM S'=aM S++[n]:=by
 unfold tC at h
 split at h
 ·
  split at h
  ·
   rename_i h0
   split at h
   ·
    rename_i b y a x S0
    obtain ⟨w,hw,rfl⟩:=Option.map_eq_some_iff.1 h
    unfold aM
    obtain ⟨k,v,s⟩:=n
    obtain ⟨rfl,rfl⟩:=h0
    simp [flat,List.append_assoc]
   · cases h
  · cases h
 ·
  split at h
  ·
   obtain rfl:=Option.some.inj h
   unfold aM
   simp [flat]
  · cases h
theorem AG_:∀ (t:List Nod) (S S':Stk),dD t S=some S'→aM S'=aM S++t
 | [],S,S',h=>by obtain rfl:=Option.some.inj h;simp
 | n::t,S,S',h=>by
  obtain ⟨S1,h1,h2⟩:=nB h
  rw [AG_ t S1 S' h2,H6_ h1,List.append_assoc];rfl
theorem vV (n:Nod):jH n=some (lfB n):=by
 obtain ⟨k,v,s⟩:=n
 unfold jH lfB
 by_cases hs:s=.empty
 case neg=>simp [hs]
 cases hr:rng k 1 14 with
 | false=>simp [hs,l1In,hr]
 | true=>
  by_cases h1:k=1
  · subst h1;simp [hs,l1In,hr]
  by_cases h7:k=7
  · subst h7;simp [hs,l1In,hr]
  by_cases h13:k=13
  · subst h13;simp [hs,l1In,hr]
  simp [hs,l1In,hr,h1,h7,h13]
theorem DL_ (n:Nod):xP n=some (lfT n):=by
 obtain ⟨k,v,s⟩:=n
 unfold xP lfT
 by_cases h1:k=1
 · simp [h1]
 · simp [h1,tmKind_]
theorem Ij_ (n:Nod):∃ w,mJ n=some (w,lfB n)∧(lfB n=true→w=lfT n):=by
 obtain ⟨k,v,s⟩:=n
 by_cases hs:s=.empty
 case neg=>
  refine ⟨(0,0),?_,fun h=>?_⟩
  · unfold mJ lfB;simp [hs]
  · unfold lfB at h;simp [hs] at h
 by_cases h1:k=1
 ·
  subst h1
  refine ⟨(v,v),?_,fun _=>rfl⟩
  have hr:rng 1 1 14=true:=by decide
  unfold mJ lfB;simp [hs,within_,hr]
 by_cases h2:k=2
 ·
  subst h2
  refine ⟨(2,2),?_,fun _=>rfl⟩
  have hr:rng 2 1 14=true:=by decide
  unfold mJ lfB;simp [hs,hr]
 cases hg:rng k 3 14 with
 | false=>
  have hr:rng k 1 14=false:=by
   cases hr:rng k 1 14 with
   | false=>rfl
   | true=>
    have:=rng_true.1 hr
    have:rng k 3 14=true:=rng_true.2 (by omega)
    rw [this] at hg;cases hg
  refine ⟨(0,0),?_,fun h=>?_⟩
  · unfold mJ lfB pN;simp [hs,h1,h2,within_,hg,hr]
  · unfold lfB at h;simp [hr] at h
 | true=>
  have hb:=rng_true.1 hg
  have hr:rng k 1 14=true:=rng_true.2 (by omega)
  refine ⟨kd k,?_,fun _=>by unfold lfT;rw [if_neg h1]⟩
  have hgen:fF k v=(if k=7∨k=13 then rng v 0 96 else decide (v=0)):=by unfold fF;rw [hg,Bool.true_and]
  unfold mJ lfB pN
  simp only [hs,h1,h2,within_,hg,hr,iT hg,vY hg,hgen,decide_true,decide_false,Bool.not_true,cond_false,cond_true,Option.bind_some,Bool.true_and,if_false]
theorem Il_ {k:Int}{x y:Int×Int} (hx:gG x) (hy:gG y):∃ w,jM k x y=some (w,(jn k x y).isSome)∧∀ z,jn k x y=some z→w=z:=by
 obtain ⟨x1,x2⟩:=x
 obtain ⟨y1,y2⟩:=y
 obtain ⟨a1,a2,a3,a4⟩:=hx
 obtain ⟨b1,b2,b3,b4⟩:=hy
 dsimp only at a1 a2 a3 a4 b1 b2 b3 b4
 by_cases hk:k=15
 ·
  refine ⟨(x1,y2),?_,fun z hz=>?_⟩
  ·
   unfold jM jn
   by_cases h:x2=y1
   · simp [hk,h]
   · simp [hk,h]
  ·
   unfold jn at hz
   rw [if_pos hk] at hz
   split at hz
   · exact Option.some.inj hz
   · cases hz
 ·
  refine ⟨(x1+y1,x2+y2),?_,fun z hz=>?_⟩
  ·
   have s1:nA x1 y1=some (x1+y1):=gB (by omega) (by omega)
   have s2:nA x2 y2=some (x2+y2):=gB (by omega) (by omega)
   unfold jM jn gZ
   by_cases h1:x1+y1≤12
   ·
    by_cases h2:x2+y2≤12
    · simp [hk,s1,s2,h1,h2]
    · simp [hk,s1,s2,h1,h2]
   · simp [hk,s1,s2,h1]
  ·
   unfold jn at hz
   rw [if_neg hk] at hz
   split at hz
   · exact Option.some.inj hz
   · cases hz
def tD (S:Stk):List (Int×Int):=(S.map fun p=>p.2).reverse
def tyT (t:List Nod):Int×Int:=match dD t [] with | some [(_,w)]=>w | _=>(0,0)
theorem typed_ (t:List Nod):∃ w,xX t=some (w,qD t)∧(qD t=true→w=tyT t):=by
 have hm:bB=1099511627776:=rfl
 cases hr:rng t.length 1 400 with
 | false=>
  have hv:qD t=false:=by unfold qD;rw [hr];rfl
  refine ⟨(0,0),bnd (within_ _ _ _) (stp ?_),fun h=>by rw [hv] at h;cases h⟩
  rw [hv,hr];rfl
 | true=>
  have hl:=rng_true.1 hr
  have loop:=A3_ (n:=t.length) (s:=([]:List (Int×Int))) (f:=fun (k14:Nat) (s884:List (Int×Int))=>
    pC ((idxO t ((k14:Nat):Int)).bind fun a1117=>
     ((some (!decide (a1117.1=15))).bind fun a1137=>
      cond a1137
      ((some (!decide (a1117.1=16))).bind fun a1141=>
       some a1141)
      (some false)).bind fun (s1131:Bool)=>
     cond s1131
     ((mJ (a1117.1,a1117.2.1,a1117.2.2)).bind fun y1302=>
      (some (!y1302.2)).bind fun a1309=>
      cond a1309
      (some (.inr (.inr ((0,0),false))))
      ((oA s884 [(y1302.1.1,y1302.1.2)]).bind fun a1318=>
       some (.inl a1318)))
     (((some (!decide (a1117.2.1=0))).bind fun a1162=>
       cond a1162
       (some true)
       ((some (!decide ((a1117.2.2:ByteArray)=.empty))).bind fun a1165=>
        cond a1165
        (some true)
        ((some (decide (((s884.length:Nat):Int)<2))).bind fun a1168=>
         some a1168))).bind fun (s1156:Bool)=>
      cond s1156
      (some (.inr (.inr ((0,0),false))))
      ((subO ((s884.length:Nat):Int) 1).bind fun a1175=>
       ((subO a1175 1).bind fun a1228=>
        (idxO s884 a1228).bind fun a1236=>
        (idxO s884 a1175).bind fun a1245=>
        (jM a1117.1 (a1236.1,a1236.2) (a1245.1,a1245.2)).bind fun y1255=>
        some (y1255.1.1,y1255.1.2,y1255.2)).bind fun (s1220:Int×Int×Bool)=>
       (some (!s1220.2.2)).bind fun a1272=>
       cond a1272
       (some (.inr (.inr ((0,0),false))))
       ((subO a1175 1).bind fun a1276=>
        (iB s884 0 a1276).bind fun a1278=>
        (oA a1278 [(s1220.1,s1220.2.1)]).bind fun a1288=>
        some (.inl a1288))))) fun (s1104:List (Int×Int))=>
    some (.inl s1104)) (fun j s=>∃ S,dD (t.take j) []=some S∧s=tD S∧S.length≤j) (fun r=>r=(((0:Int),(0:Int)),false)∧dD t []=none) ⟨[],rfl,rfl,Nat.le_refl _⟩ (by
   rintro j s hj ⟨S,h1,rfl,h3⟩
   have hS:=Bd_ _ _ _ (fun p hp=>by cases hp) h1
   have hstep:=Dl_ hj h1
   have hlen:(tD S).length=S.length:=by unfold tD;simp
   have bad:tC S t[j]=none→dD t []=none:=fun hn=>Dm_ (hstep.trans hn)
   have hi:=kA (List.getElem?_eq_getElem hj)
   generalize t[j]=n at hstep bad hi
   obtain ⟨k,v,u⟩:=n
   by_cases hk:k=15∨k=16
   ·
    have hc:((some (!decide (k=15))).bind fun a1137=>cond a1137 ((some (!decide (k=16))).bind fun a1141=>some a1141) (some false))=some false:=by
     rcases hk with rfl | rfl <;> rfl
    have hst:tC S (k,v,u)=if v=0∧u=.empty then (match S with
      | (b,y)::(a,x)::S'=>(jn k x y).map fun w=>(.node k a b,w)::S'
      | _=>none) else none:=by unfold tC;rw [if_pos hk]
    by_cases hv:v=0
    case neg=>
     have hn:tC S (k,v,u)=none:=by rw [hst,if_neg (fun h=>hv h.1)]
     exact .inr ⟨_,sqW (bnd hi (bnd hc (cFW rfl (bnd (a:=true) (stp (cTW (nF (dF hv)) rfl)) rfl)))) rfl,rfl,bad hn⟩
    by_cases hu:u=.empty
    case neg=>
     have hn:tC S (k,v,u)=none:=by rw [hst,if_neg (fun h=>hu h.2)]
     exact .inr ⟨_,sqW (bnd hi (bnd hc (cFW rfl (bnd (a:=true) (stp (cFW (nT (dT hv)) (stp (cTW (nF (dF hu)) rfl)))) rfl)))) rfl,rfl,bad hn⟩
    rw [if_pos ⟨hv,hu⟩] at hst
    by_cases h2:S.length<2
    ·
     have hn:tC S (k,v,u)=none:=by
      rw [hst]
      match S,h2 with
      | [],_=>rfl
      | [p],_=>rfl
     refine .inr ⟨_,sqW (bnd hi (bnd hc (cFW rfl (bnd (a:=true) (stp (cFW (nT (dT hv)) (stp (cFW (nT (dT hu)) (stp (congrArg some (dT ?_))))))) rfl)))) rfl,rfl,bad hn⟩
     rw [hlen];omega
    ·
     obtain ⟨b,y,a,x,S',rfl⟩:∃ b y a x S',S=(b,y)::(a,x)::S':=by
      match S,h2 with
      | (b,y)::(a,x)::S',_=>exact ⟨_,_,_,_,_,rfl⟩
      | [p],h2=>exact (h2 (by simp)).elim
      | [],h2=>exact (h2 (by simp)).elim
     have h3':S'.length+2≤j:=by simpa using h3
     have hlen':(tD ((b,y)::(a,x)::S')).length=S'.length+2:=by simpa using hlen
     have hx:=hS (a,x) (by simp)
     have hy:=hS (b,y) (by simp)
     obtain ⟨w,w1,w2⟩:=Il_ (k:=k) hx hy
     have e0:tD ((b,y)::(a,x)::S')=tD S'++[x]++[y]:=by unfold tD;simp
     have l0:(tD S').length=S'.length:=by unfold tD;simp
     have i1:idxO (tD ((b,y)::(a,x)::S')) ((S'.length:Nat):Int)=some x:=by
      rw [e0,idxO_nat,← l0,List.append_assoc,List.getElem?_append_right (Nat.le_refl _),Nat.sub_self];rfl
     have i2:idxO (tD ((b,y)::(a,x)::S')) (((S'.length+1:Nat)):Int)=some y:=by
      rw [e0,idxO_nat,← l0,List.append_assoc,List.getElem?_append_right (by omega),Nat.add_sub_cancel_left];rfl
     have s1:subO (((tD ((b,y)::(a,x)::S')).length:Nat):Int) 1=some ((S'.length+1:Nat):Int):=by
      rw [hlen',yC (by omega) (by omega)];congr 1;omega
     have s2:subO ((S'.length+1:Nat):Int) 1=some ((S'.length:Nat):Int):=by
      rw [yC (by omega) (by omega)];congr 1;omega
     have sl:iB (tD ((b,y)::(a,x)::S')) 0 ((S'.length:Nat):Int)=some (tD S'):=by
      unfold iB;rw [if_pos ⟨by omega,by omega,by rw [hlen'];omega⟩,e0]
      simp [←l0,List.append_assoc]
     have hpre:∀ {α:Type} {r:Option α} {K:Bool→Option α},K false=r→(((some (!decide (v=0))).bind fun a1162=>
      cond a1162
      (some true)
      ((some (!decide ((u:ByteArray)=.empty))).bind fun a1165=>
       cond a1165
       (some true)
       ((some (decide ((((tD ((b,y)::(a,x)::S')).length:Nat):Int)<2))).bind fun a1168=>
        some a1168))).bind K)=r:=fun h=>bnd (a:=false) (stp (cFW (nT (dT hv)) (stp (cFW (nT (dT hu)) (stp (congrArg some (dF (by rw [hlen'];omega)))))))) h
     have hj2:∀ {α:Type} {r:Option α} {K:Int×Int×Bool→Option α},K (w.1,w.2,(jn k x y).isSome)=r→(((subO ((S'.length+1:Nat):Int) 1).bind fun a1228=>
       (idxO (tD ((b,y)::(a,x)::S')) a1228).bind fun a1236=>
       (idxO (tD ((b,y)::(a,x)::S')) ((S'.length+1:Nat):Int)).bind fun a1245=>
       (jM k (a1236.1,a1236.2) (a1245.1,a1245.2)).bind fun y1255=>
       some (y1255.1.1,y1255.1.2,y1255.2)).bind K)=r:=fun h=>bnd (bnd s2 (bnd i1 (bnd i2 (bnd w1 rfl)))) h
     cases hjn:jn k x y with
     | none=>
      rw [hjn] at hj2
      have hn:tC ((b,y)::(a,x)::S') (k,v,u)=none:=by rw [hst];simp only [hjn,Option.map_none]
      exact .inr ⟨_,sqW (bnd hi (bnd hc (cFW rfl (hpre (cFW rfl (bnd s1 (hj2 rfl))))))) rfl,rfl,bad hn⟩
     | some z=>
      rw [hjn] at hj2
      have hz:=w2 z hjn
      subst hz
      have hn:tC ((b,y)::(a,x)::S') (k,v,u)=some ((.node k a b,w)::S'):=by rw [hst];simp only [hjn,Option.map_some]
      refine .inl ⟨tD S'++[w],sqW (bnd hi (bnd hc (cFW rfl (hpre (cFW rfl (bnd s1 (hj2 (stp (cFW rfl (bnd s2 (bnd sl (bnd (jB ?_) rfl))))))))))) ) rfl,(.node k a b,w)::S',by rw [hstep,hn],by unfold tD;simp,by simp;omega⟩
      rw [l0];simp;omega
   ·
    have hc:((some (!decide (k=15))).bind fun a1137=>cond a1137 ((some (!decide (k=16))).bind fun a1141=>some a1141) (some false))=some true:=by
     simp only [not_or] at hk
     simp [hk.1,hk.2]
    obtain ⟨w,w1,w2⟩:=Ij_ (k,v,u)
    cases hb:lfB (k,v,u) with
    | false=>
     rw [hb] at w1
     have hn:tC S (k,v,u)=none:=by unfold tC;rw [if_neg hk,if_neg (by rw [hb];simp)]
     exact .inr ⟨_,sqW (bnd hi (bnd hc (cTW rfl (bnd w1 rfl)))) rfl,rfl,bad hn⟩
    | true=>
     rw [hb] at w1
     have hn:tC S (k,v,u)=some ((.leaf (k,v,u),lfT (k,v,u))::S):=by unfold tC;rw [if_neg hk,if_pos hb]
     refine .inl ⟨tD S++[w],sqW (bnd hi (bnd hc (cTW rfl (bnd w1 (stp (cFW rfl (bnd (jB ?_) rfl))))))) rfl,_,by rw [hstep,hn],by rw [w2 hb];unfold tD;simp,by simp;omega⟩
     rw [hlen];simp;omega)
  rcases loop with ⟨s,h1,S,h2,rfl,h4⟩ | ⟨r,h1,rfl,h2⟩
  ·
   rw [List.take_length] at h2
   have hlen:(tD S).length=S.length:=by unfold tD;simp
   have hne:S≠[]:=by
    rintro rfl
    have:=AG_ _ _ _ h2
    unfold aM at this
    simp at this
    rw [this] at hl;simp at hl
   cases hS:tD S with
   | nil=>rw [hS] at hlen;exact (hne (List.eq_nil_of_length_eq_zero hlen.symm)).elim
   | cons w ws=>
    have hty:qD t=true→w=tyT t:=fun hv=>by
     unfold qD at hv
     unfold tyT
     rw [hr,h2] at hv
     rw [h2]
     match S,hS,hv with
     | [(T,w')],hS,_=>exact (List.cons.inj hS).1.symm
    refine ⟨w,bnd (within_ _ _ _) (stp ?_),hty⟩
    rw [hr]
    refine cFW rfl (sqW h1 ?_)
    rw [vI,hS]
    refine bnd (a:=w) rfl (stp (congrArg some (Prod.ext rfl ?_)))
    unfold qD
    rw [hr,h2]
    rw [←hS,hlen]
    match S with
    | []=>exact (hne rfl).elim
    | [p]=>simp
    | p::q::S=>simp;omega
  ·
   have hv:qD t=false:=by unfold qD;rw [h2,hr];rfl
   refine ⟨(0,0),bnd (within_ _ _ _) (stp ?_),fun h=>by rw [hv] at h;cases h⟩
   rw [hr]
   refine cFW rfl (sqW h1 ?_)
   rw [BE_,hv]
theorem Eb_ (t:List Nod):nY t=some (qD t):=by
 obtain ⟨w,h,_⟩:=typed_ t
 exact bnd (bnd h rfl) rfl
def ScR (x:List Int×List Int×List Int):Nat→Stk→Prop
 | i,[]=>i=0
 | i,(T,w)::S=>(flat T).length≤i∧x.1[i-1]?=some ((i-(flat T).length:Nat):Int)∧x.2.1[i-1]?=some w.1∧x.2.2[i-1]?=some w.2∧ScR x (i-(flat T).length) S
theorem ScR.mono {x x':List Int×List Int×List Int}:∀ {S:Stk}{i:Nat},ScR x i S→(∀ k,k<i→x'.1[k]?=x.1[k]?∧x'.2.1[k]?=x.2.1[k]?∧x'.2.2[k]?=x.2.2[k]?)→ScR x' i S
 | [],_,h,_=>h
 | (T,w)::S,i,⟨h1,h2,h3,h4,h5⟩,h=>by
  have hp:=kL T
  obtain ⟨k1,k2,k3⟩:=h (i-1) (by omega)
  exact ⟨h1,k1.trans h2,k2.trans h3,k3.trans h4,h5.mono (fun k hk=>h k (by omega))⟩
theorem kO {l:List Int}{i:Nat} (hl:l.length=i) (a:Int):(∀ k,k<i→(l++[a])[k]?=l[k]?)∧(l++[a])[i]?=some a:=
 ⟨fun k hk=>List.getElem?_append_left (by omega),by rw [List.getElem?_append_right (by omega),hl,Nat.sub_self];rfl⟩
theorem ScR.push {x:List Int×List Int×List Int}{S:Stk}{i:Nat}{T:Tr}{w:Int×Int} (l1:x.1.length=i) (l2:x.2.1.length=i) (l3:x.2.2.length=i) (hT:(flat T).length≤i+1) (h:ScR x (i+1-(flat T).length) S) :
  ScR (x.1++[((i+1-(flat T).length:Nat):Int)],x.2.1++[w.1],x.2.2++[w.2]) (i+1) ((T,w)::S):=by
 have hp:=kL T
 have g1:=kO l1 ((i+1-(flat T).length:Nat):Int)
 have g2:=kO l2 w.1
 have g3:=kO l3 w.2
 refine ⟨hT,?_,?_,?_,h.mono (fun k hk=>⟨g1.1 k (by omega),g2.1 k (by omega),g3.1 k (by omega)⟩)⟩
 · rw [Nat.add_sub_cancel];exact g1.2
 · rw [Nat.add_sub_cancel];exact g2.2
 · rw [Nat.add_sub_cancel];exact g3.2
theorem EA_ {a b:Int} (h1:0≤a) (h2:a≤12) (h3:0≤b) (h4:b≤12):nA a b=some (a+b):=gB (by omega) (by omega)
theorem Ik_ (s:ByteArray):wT [] s=some (-1):=rfl
theorem lbScan_ (t:List Nod):∃ x,vT [] t=some (x,qD t)∧(∀ S,dD t []=some S→rng t.length 1 400=true→x.1.length=t.length∧ScR x t.length S ∧
  ∀ S0 (p q:List Nod),t=p++q→dD p []=some S0→ScR x p.length S0):=by
 have hm:bB=1099511627776:=rfl
 cases hr:rng t.length 1 400 with
 | false=>
  refine ⟨([],[],[]),bnd (l1In _ _ _) (stp ?_),fun _ _ h=>by cases h⟩
  unfold qD
  rw [hr];rfl
 | true=>
  have hl:=rng_true.1 hr
  have loop:=A3_ (n:=t.length) (s:=(([]:List Int),([]:List Int),([]:List Int))) (f:=fun (k18:Nat) (s2156:List Int×List Int×List Int)=>
    pC ((idxO t ((k18:Nat):Int)).bind fun a2699=>
     ((jH (a2699.1,a2699.2.1,a2699.2.2)).bind fun y2720=>
      cond y2720
      (some true)
      ((some (decide (a2699.1=17))).bind fun a2724=>
       some a2724)).bind fun (s2714:Bool)=>
     cond s2714
     ((xP (a2699.1,a2699.2.1,a2699.2.2)).bind fun y3063=>
      pC ((some (decide (a2699.1=17))).bind fun a3127=>
       cond a3127
       ((wT [] a2699.2.2).bind fun y3131=>
        ((some (decide (y3131<0))).bind fun a3146=>
         cond a3146
         (some true)
         ((some (!decide (a2699.2.1=0))).bind fun a3149=>
          some a3149)).bind fun (s3140:Bool)=>
        cond s3140
        (some (.inr (.inr (.inr ((s2156.1,s2156.2.1,s2156.2.2),false)))))
        ((idxO ([]:List (ByteArray×Int×Int×List Nod)) y3131).bind fun a3162=>
         (idxO ([]:List (ByteArray×Int×Int×List Nod)) y3131).bind fun a3174=>
         some (.inl (a3174.2.2.1,a3162.2.1))))
       (some (.inl (y3063.2,y3063.1)))) fun (s3121:Int×Int)=>
      (oA s2156.1 [((k18:Nat):Int)]).bind fun a3190=>
      (oA s2156.2.1 [s3121.2]).bind fun a3199=>
      (oA s2156.2.2 [s3121.1]).bind fun a3208=>
      some (.inl (a3190,a3199,a3208)))
     (((some (!decide (a2699.1=15))).bind fun a2792=>
       cond a2792
       ((some (!decide (a2699.1=16))).bind fun a2820=>
        cond a2820
        (some true)
        ((some (!decide ((a2699.2.2:ByteArray)=.empty))).bind fun a2823=>
         cond a2823
         (some true)
         ((some (!decide (a2699.2.1=0))).bind fun a2826=>
          cond a2826
          (some true)
          ((some (decide (((k18:Nat):Int)<2))).bind fun a2829=>
           cond a2829
           (some true)
           ((subO ((k18:Nat):Int) 1).bind fun a2832=>
            (idxO s2156.1 a2832).bind fun a2840=>
            (some (decide (a2840<1))).bind fun a2842=>
            some a2842)))))
       ((some (!decide ((a2699.2.2:ByteArray)=.empty))).bind fun a2795=>
        cond a2795
        (some true)
        ((some (!decide (a2699.2.1=0))).bind fun a2798=>
         cond a2798
         (some true)
         ((some (decide (((k18:Nat):Int)<2))).bind fun a2801=>
          cond a2801
          (some true)
          ((subO ((k18:Nat):Int) 1).bind fun a2804=>
           (idxO s2156.1 a2804).bind fun a2812=>
           (some (decide (a2812<1))).bind fun a2814=>
           some a2814))))).bind fun (s2786:Bool)=>
      cond s2786
      (some (.inr (.inr ((s2156.1,s2156.2.1,s2156.2.2),false))))
      ((subO ((k18:Nat):Int) 1).bind fun a2851=>
       (idxO s2156.1 a2851).bind fun a2859=>
       (subO a2859 1).bind fun a2861=>
       (idxO s2156.2.1 a2861).bind fun a2870=>
       (idxO s2156.2.1 a2851).bind fun a2878=>
       (nA a2870 a2878).bind fun a2880=>
       (idxO s2156.2.2 a2861).bind fun a2888=>
       (idxO s2156.2.2 a2851).bind fun a2896=>
       (nA a2888 a2896).bind fun a2898=>
       pC ((some (decide (a2699.1=15))).bind fun a2949=>
        cond a2949
        ((idxO s2156.2.2 a2861).bind fun a2960=>
         (idxO s2156.2.1 a2851).bind fun a2968=>
         (some (!decide (a2960=a2968))).bind fun a2970=>
         cond a2970
         (some (.inr (.inr (.inr ((s2156.1,s2156.2.1,s2156.2.2),false)))))
         ((idxO s2156.2.1 a2861).bind fun a2980=>
          (idxO s2156.2.2 a2851).bind fun a2988=>
          some (.inl (a2980,a2988))))
        (some (.inl (a2880,a2898)))) fun (s2943:Int×Int)=>
       ((some (decide ((12:Int)<s2943.1))).bind fun a3009=>
        cond a3009
        (some true)
        ((some (decide ((12:Int)<s2943.2))).bind fun a3012=>
         some a3012)).bind fun (s3003:Bool)=>
       cond s3003
       (some (.inr (.inr ((s2156.1,s2156.2.1,s2156.2.2),false))))
       ((idxO s2156.1 a2861).bind fun a3025=>
        (oA s2156.1 [a3025]).bind fun a3030=>
        (oA s2156.2.1 [s2943.1]).bind fun a3039=>
        (oA s2156.2.2 [s2943.2]).bind fun a3048=>
        some (.inl (a3030,a3039,a3048)))))) fun (s2684:List Int×List Int×List Int)=>
    some (.inl (s2684.1,s2684.2.1,s2684.2.2)))
   (fun j x=>∃ S,dD (t.take j) []=some S∧x.1.length=j∧x.2.1.length=j∧x.2.2.length=j∧ScR x j S∧∀ i S0,i≤j→dD (t.take i) []=some S0→ScR x i S0) (fun r=>r.2=false∧dD t []=none)
   ⟨[],rfl,rfl,rfl,rfl,rfl,fun i S0 hi h=>by
    obtain rfl:i=0:=by omega
    obtain rfl:=Option.some.inj h
    rfl⟩ (by
   rintro j ⟨x1,x2,x3⟩ hj ⟨S,h1,l1,l2,l3,h2,hall⟩
   dsimp only at l1 l2 l3
   have hS:=Bd_ _ _ _ (fun p hp=>by cases hp) h1
   have hstep:=Dl_ hj h1
   have bad:tC S t[j]=none→dD t []=none:=fun hn=>Dm_ (hstep.trans hn)
   have hi:=kA (List.getElem?_eq_getElem hj)
   have good:∀ (T:Tr) (w:Int×Int) (S':Stk),dD (t.take (j+1)) []=some ((T,w)::S')→(flat T).length≤j+1→ScR (x1,x2,x3) (j+1-(flat T).length) S'→∃ S1,dD (t.take (j+1)) []=some S1∧(x1++[((j+1-(flat T).length:Nat):Int)]).length=j+1∧(x2++[w.1]).length=j+1∧(x3++[w.2]).length=j+1 ∧
     ScR (x1++[((j+1-(flat T).length:Nat):Int)],x2++[w.1],x3++[w.2]) (j+1) S1∧∀ i S0,i≤j+1→dD (t.take i) []=some S0→ScR (x1++[((j+1-(flat T).length:Nat):Int)],x2++[w.1],x3++[w.2]) i S0:=by
    intro T w S' hr1 hT hsc
    have hp:=ScR.push (x:=(x1,x2,x3)) (w:=w) l1 l2 l3 hT hsc
    refine ⟨_,hr1,by simp [l1],by simp [l2],by simp [l3],hp,fun i S0 hi0 hS0=>?_⟩
    by_cases hij:i=j+1
    ·
     subst hij
     rw [hr1] at hS0
     obtain rfl:=Option.some.inj hS0
     exact hp
    ·
     refine (hall i S0 (by omega) hS0).mono (fun k hk=>?_)
     exact ⟨(kO l1 _).1 k (by omega),(kO l2 _).1 k (by omega),(kO l3 _).1 k (by omega)⟩
   generalize t[j]=n at hstep bad hi
   obtain ⟨k,v,u⟩:=n
   by_cases hk:k=15∨k=16
   ·
    have hlf:lfB (k,v,u)=false:=by
     have hr:rng k 1 14=false:=by rcases hk with rfl | rfl <;> decide
     unfold lfB;dsimp only;rw [hr];simp
    have hk17:¬k=17:=by omega
    have hc:((jH (k,v,u)).bind fun y2720=>cond y2720 (some true) ((some (decide (k=17))).bind fun a2724=>some a2724))=some false:=
     bnd (vV _) (by rw [hlf];exact cFW rfl (stp (congrArg some (dF hk17))))
    have hst:tC S (k,v,u)=if v=0∧u=.empty then (match S with
      | (b,y)::(a,x)::S'=>(jn k x y).map fun w=>(.node k a b,w)::S'
      | _=>none) else none:=by unfold tC;rw [if_pos hk]
    have hten:∀ b:Bool,((some (!decide ((u:ByteArray)=.empty))).bind fun a2795=>
        cond a2795
        (some true)
        ((some (!decide (v=0))).bind fun a2798=>
         cond a2798
         (some true)
         ((some (decide (((j:Nat):Int)<2))).bind fun a2801=>
          cond a2801
          (some true)
          ((subO ((j:Nat):Int) 1).bind fun a2804=>
           (idxO x1 a2804).bind fun a2812=>
           (some (decide (a2812<1))).bind fun a2814=>
           some a2814))))=some b→(((some (!decide (k=15))).bind fun a2792=>
       cond a2792
       ((some (!decide (k=16))).bind fun a2820=>
        cond a2820
        (some true)
        ((some (!decide ((u:ByteArray)=.empty))).bind fun a2823=>
         cond a2823
         (some true)
         ((some (!decide (v=0))).bind fun a2826=>
          cond a2826
          (some true)
          ((some (decide (((j:Nat):Int)<2))).bind fun a2829=>
           cond a2829
           (some true)
           ((subO ((j:Nat):Int) 1).bind fun a2832=>
            (idxO x1 a2832).bind fun a2840=>
            (some (decide (a2840<1))).bind fun a2842=>
            some a2842)))))
       ((some (!decide ((u:ByteArray)=.empty))).bind fun a2795=>
        cond a2795
        (some true)
        ((some (!decide (v=0))).bind fun a2798=>
         cond a2798
         (some true)
         ((some (decide (((j:Nat):Int)<2))).bind fun a2801=>
          cond a2801
          (some true)
          ((subO ((j:Nat):Int) 1).bind fun a2804=>
           (idxO x1 a2804).bind fun a2812=>
           (some (decide (a2812<1))).bind fun a2814=>
           some a2814)))))=some b):=by
     intro b hb
     rcases hk with rfl | rfl
     · exact stp (cFW rfl hb)
     · exact stp (cTW rfl (stp (cFW rfl hb)))
    have fail:∀ {n:Option Stk},((some (!decide ((u:ByteArray)=.empty))).bind fun a2795=>
        cond a2795
        (some true)
        ((some (!decide (v=0))).bind fun a2798=>
         cond a2798
         (some true)
         ((some (decide (((j:Nat):Int)<2))).bind fun a2801=>
          cond a2801
          (some true)
          ((subO ((j:Nat):Int) 1).bind fun a2804=>
           (idxO x1 a2804).bind fun a2812=>
           (some (decide (a2812<1))).bind fun a2814=>
           some a2814))))=some true→n=none→n=none:=fun _ h=>h
    by_cases hu:u=.empty
    case neg=>
     have hn:tC S (k,v,u)=none:=by rw [hst,if_neg (fun h=>hu h.2)]
     exact .inr ⟨_,sqW (bnd hi (bnd hc (cFW rfl (bnd (hten true (stp (cTW (nF (dF hu)) rfl))) rfl)))) rfl,rfl,bad hn⟩
    by_cases hv:v=0
    case neg=>
     have hn:tC S (k,v,u)=none:=by rw [hst,if_neg (fun h=>hv h.1)]
     exact .inr ⟨_,sqW (bnd hi (bnd hc (cFW rfl (bnd (hten true (stp (cFW (nT (dT hu)) (stp (cTW (nF (dF hv)) rfl))))) rfl)))) rfl,rfl,bad hn⟩
    rw [if_pos ⟨hv,hu⟩] at hst
    match S,h2,hst,hS with
    | [],h2,hst,_=>
     obtain rfl:j=0:=h2
     exact .inr ⟨_,sqW (bnd hi (bnd hc (cFW rfl (bnd (hten true (stp (cFW (nT (dT hu)) (stp (cFW (nT (dT hv)) (stp (cTW (dT (by omega)) rfl))))))) rfl)))) rfl,rfl,bad hst⟩
    | [(b,y)],h2,hst,_=>
     obtain ⟨s1,s2,s3,s4,s5⟩:=h2
     have s5:j-(flat b).length=0:=s5
     refine .inr ⟨_,sqW (bnd hi (bnd hc (cFW rfl (bnd (hten true (stp (cFW (nT (dT hu)) (stp (cFW (nT (dT hv)) (stp ?_)))))) rfl)))) rfl,rfl,bad hst⟩
     by_cases h2:((j:Nat):Int)<2
     · exact cTW (dT h2) rfl
     ·
      refine cFW (dF h2) (bnd (yC (by omega) (by omega)) (bnd (a:=0) ?_ rfl))
      rw [s5] at s2
      have e:(j:Int)-1=((j-1:Nat):Int):=by omega
      rw [e];exact kA s2
    | (b,y)::(a,x)::S',h2,hst,hS=>
     have hx:=hS (a,x) (by simp)
     have hy:=hS (b,y) (by simp)
     obtain ⟨s1,s2,s3,s4,r1,r2,r3,r4,r5⟩:=h2
     dsimp only at s2 s3 s4 r2 r3 r4
     have hpa:=kL a
     have hpb:=kL b
     have hj2:2≤j:=by omega
     obtain ⟨a1,a2,a3,a4⟩:=hx
     obtain ⟨b1,b2,b3,b4⟩:=hy
     have e1:subO ((j:Nat):Int) 1=some ((j-1:Nat):Int):=by rw [yC (by omega) (by omega)];congr 1;omega
     have e2:subO ((j-(flat b).length:Nat):Int) 1=some ((j-(flat b).length-1:Nat):Int):=by rw [yC (by omega) (by omega)];congr 1;omega
     have hpass:=hten false (stp (cFW (nT (dT hu)) (stp (cFW (nT (dT hv)) (stp (cFW (dF (by omega)) (bnd e1 (bnd (kA s2) (stp (congrArg some (dF (by omega))))))))))))
     have hlenT:(flat (.node k a b)).length=(flat a).length+(flat b).length+1:=by simp [flat];omega
     have hidx:j+1-(flat (.node k a b)).length=j-(flat b).length-(flat a).length:=by rw [hlenT];omega
     dsimp only at a1 a2 a3 a4 b1 b2 b3 b4
     have hS1:cS S':=fun p hp=>hS p (by simp [hp])
     have bg:∀ w:Int×Int,jn k x y=some w→gG w∧(¬(12:Int)<w.1)∧¬(12:Int)<w.2:=fun w h=>by
      have:=jn_ok (x:=x) (y:=y) ⟨a1,a2,a3,a4⟩ ⟨b1,b2,b3,b4⟩ h
      obtain ⟨c1,c2,c3,c4⟩:=this
      exact ⟨⟨c1,c2,c3,c4⟩,by omega,by omega⟩
     have hgood:∀ w:Int×Int,jn k x y=some w→∃ S1,dD (t.take (j+1)) []=some S1∧(x1++[((j-(flat b).length-(flat a).length:Nat):Int)]).length=j+1∧(x2++[w.1]).length=j+1∧(x3++[w.2]).length=j+1 ∧
       ScR (x1++[((j-(flat b).length-(flat a).length:Nat):Int)],x2++[w.1],x3++[w.2]) (j+1) S1∧∀ i S0,i≤j+1→dD (t.take i) []=some S0→ScR (x1++[((j-(flat b).length-(flat a).length:Nat):Int)],x2++[w.1],x3++[w.2]) i S0:=fun w hw=>by
      have hn:tC ((b,y)::(a,x)::S') (k,v,u)=some ((.node k a b,w)::S'):=by rw [hst];simp only [hw,Option.map_some]
      have:=good (.node k a b) w S' (by rw [hstep,hn]) (by rw [hlenT];omega) (by rw [hidx];exact r5)
      rw [hidx] at this
      exact this
     have hbad:jn k x y=none→dD t []=none:=fun hw=>bad (by rw [hst];simp only [hw,Option.map_none])
     have ap:∀ (l:List Int) (z:Int),l.length=j→oA l [z]=some (l++[z]):=fun l z h=>jB (by simp;omega)
     have s1':=EA_ a1 a2 b1 b2
     have s2':=EA_ a3 a4 b3 b4
     by_cases h15:k=15
     ·
      by_cases hxy:x.2=y.1
      ·
       have hw:jn k x y=some (x.1,y.2):=by unfold jn;rw [if_pos h15,if_pos hxy]
       obtain ⟨_,w1,w2⟩:=bg _ hw
       refine .inl ⟨(x1++[((j-(flat b).length-(flat a).length:Nat):Int)],x2++[x.1],x3++[y.2]),sqW (r:=some (.inl (x1++[((j-(flat b).length-(flat a).length:Nat):Int)],x2++[x.1],x3++[y.2]))) ?_ rfl,hgood _ hw⟩
       refine bnd hi (bnd hc (cFW rfl (bnd hpass (cFW rfl ?_))))
       refine bnd e1 (bnd (kA s2) (bnd e2 (bnd (kA r3) (bnd (kA s3) (bnd s1' (bnd (kA r4) (bnd (kA s4) (bnd s2' ?_))))))))
       refine sqW (r:=some (.inl (x.1,y.2))) (bnd (congrArg some (dT h15)) (cTW rfl (bnd (kA r4) (bnd (kA s3) (stp (cFW (nT (dT hxy)) (bnd (kA r3) (bnd (kA s4) rfl)))))))) ?_
       rw [vI]
       refine bnd (a:=false) (bnd (congrArg some (dF w1)) (bnd (congrArg some (dF w2)) rfl)) (cFW rfl ?_)
       exact bnd (kA r2) (bnd (ap _ _ l1) (bnd (ap _ _ l2) (bnd (ap _ _ l3) rfl)))
      ·
       have hw:jn k x y=none:=by unfold jn;rw [if_pos h15,if_neg hxy]
       refine .inr ⟨((x1,x2,x3),false),sqW (r:=some (.inr (.inr ((x1,x2,x3),false)))) ?_ rfl,rfl,hbad hw⟩
       refine bnd hi (bnd hc (cFW rfl (bnd hpass (cFW rfl ?_))))
       refine bnd e1 (bnd (kA s2) (bnd e2 (bnd (kA r3) (bnd (kA s3) (bnd s1' (bnd (kA r4) (bnd (kA s4) (bnd s2' ?_))))))))
       exact sqW (r:=some (.inr (.inr (.inr ((x1,x2,x3),false))))) (bnd (congrArg some (dT h15)) (cTW rfl (bnd (kA r4) (bnd (kA s3) (stp (cTW (nF (dF hxy)) rfl)))))) rfl
     ·
      by_cases h1:x.1+y.1≤12
      ·
       by_cases h2:x.2+y.2≤12
       ·
        have hw:jn k x y=some (x.1+y.1,x.2+y.2):=by unfold jn;rw [if_neg h15,if_pos ⟨h1,h2⟩]
        obtain ⟨_,w1,w2⟩:=bg _ hw
        refine .inl ⟨(x1++[((j-(flat b).length-(flat a).length:Nat):Int)],x2++[x.1+y.1],x3++[x.2+y.2]),sqW (r:=some (.inl (x1++[((j-(flat b).length-(flat a).length:Nat):Int)],x2++[x.1+y.1],x3++[x.2+y.2]))) ?_ rfl,hgood _ hw⟩
        refine bnd hi (bnd hc (cFW rfl (bnd hpass (cFW rfl ?_))))
        refine bnd e1 (bnd (kA s2) (bnd e2 (bnd (kA r3) (bnd (kA s3) (bnd s1' (bnd (kA r4) (bnd (kA s4) (bnd s2' ?_))))))))
        refine sqW (r:=some (.inl (x.1+y.1,x.2+y.2))) (bnd (congrArg some (dF h15)) (cFW rfl rfl)) ?_
        rw [vI]
        refine bnd (a:=false) (bnd (congrArg some (dF w1)) (bnd (congrArg some (dF w2)) rfl)) (cFW rfl ?_)
        exact bnd (kA r2) (bnd (ap _ _ l1) (bnd (ap _ _ l2) (bnd (ap _ _ l3) rfl)))
       ·
        have hw:jn k x y=none:=by unfold jn;rw [if_neg h15,if_neg (fun h=>h2 h.2)]
        refine .inr ⟨((x1,x2,x3),false),sqW (r:=some (.inr (.inr ((x1,x2,x3),false)))) ?_ rfl,rfl,hbad hw⟩
        refine bnd hi (bnd hc (cFW rfl (bnd hpass (cFW rfl ?_))))
        refine bnd e1 (bnd (kA s2) (bnd e2 (bnd (kA r3) (bnd (kA s3) (bnd s1' (bnd (kA r4) (bnd (kA s4) (bnd s2' ?_))))))))
        refine sqW (r:=some (.inl (x.1+y.1,x.2+y.2))) (bnd (congrArg some (dF h15)) (cFW rfl rfl)) ?_
        rw [vI]
        exact bnd (a:=true) (bnd (congrArg some (dF (by dsimp only;omega))) (bnd (congrArg some (dT (by dsimp only;omega))) rfl)) (cTW rfl rfl)
      ·
       have hw:jn k x y=none:=by unfold jn;rw [if_neg h15,if_neg (fun h=>h1 h.1)]
       refine .inr ⟨((x1,x2,x3),false),sqW (r:=some (.inr (.inr ((x1,x2,x3),false)))) ?_ rfl,rfl,hbad hw⟩
       refine bnd hi (bnd hc (cFW rfl (bnd hpass (cFW rfl ?_))))
       refine bnd e1 (bnd (kA s2) (bnd e2 (bnd (kA r3) (bnd (kA s3) (bnd s1' (bnd (kA r4) (bnd (kA s4) (bnd s2' ?_))))))))
       refine sqW (r:=some (.inl (x.1+y.1,x.2+y.2))) (bnd (congrArg some (dF h15)) (cFW rfl rfl)) ?_
       rw [vI]
       exact bnd (a:=true) (bnd (congrArg some (dT (by dsimp only;omega))) rfl) (cTW rfl rfl)
   ·
    have ap:∀ (l:List Int) (z:Int),l.length=j→oA l [z]=some (l++[z]):=fun l z h=>jB (by simp;omega)
    cases hb:lfB (k,v,u) with
    | true=>
     have hr:rng k 1 14=true:=by
      unfold lfB at hb;simp only [Bool.and_eq_true] at hb;exact hb.2.1
     have hk17:¬k=17:=by have:=rng_true.1 hr;omega
     have hn:tC S (k,v,u)=some ((.leaf (k,v,u),lfT (k,v,u))::S):=by unfold tC;rw [if_neg hk,if_pos hb]
     have hc:((jH (k,v,u)).bind fun y2720=>cond y2720 (some true) ((some (decide (k=17))).bind fun a2724=>some a2724))=some true:=
      bnd (vV _) (by rw [hb];rfl)
     have:=good (.leaf (k,v,u)) (lfT (k,v,u)) S (by rw [hstep,hn]) (by simp [flat]) (by simpa [flat] using h2)
     rw [show j+1-(flat (.leaf (k,v,u))).length=j by simp [flat]] at this
     refine .inl ⟨(x1++[((j:Nat):Int)],x2++[(lfT (k,v,u)).1],x3++[(lfT (k,v,u)).2]),sqW (r:=some (.inl (x1++[((j:Nat):Int)],x2++[(lfT (k,v,u)).1],x3++[(lfT (k,v,u)).2]))) ?_ rfl,this⟩
     refine bnd hi (bnd hc (cTW rfl (bnd (DL_ _) ?_)))
     refine sqW (r:=some (.inl ((lfT (k,v,u)).2,(lfT (k,v,u)).1))) (bnd (congrArg some (dF hk17)) (cFW rfl rfl)) ?_
     rw [vI]
     exact bnd (ap _ _ l1) (bnd (ap _ _ l2) (bnd (ap _ _ l3) rfl))
    | false=>
     have hn:tC S (k,v,u)=none:=by unfold tC;rw [if_neg hk,if_neg (by rw [hb];simp)]
     by_cases h17:k=17
     ·
      have hc:((jH (k,v,u)).bind fun y2720=>cond y2720 (some true) ((some (decide (k=17))).bind fun a2724=>some a2724))=some true:=
       bnd (vV _) (by rw [hb];exact cFW rfl (stp (congrArg some (dT h17))))
      refine .inr ⟨((x1,x2,x3),false),sqW (r:=some (.inr (.inr ((x1,x2,x3),false)))) ?_ rfl,rfl,bad hn⟩
      refine bnd hi (bnd hc (cTW rfl (bnd (DL_ _) ?_)))
      exact sqW (r:=some (.inr (.inr (.inr ((x1,x2,x3),false))))) (bnd (congrArg some (dT h17)) (cTW rfl (bnd (Ik_ _) (bnd (a:=true) rfl (cTW rfl rfl))))) rfl
     ·
      have hc:((jH (k,v,u)).bind fun y2720=>cond y2720 (some true) ((some (decide (k=17))).bind fun a2724=>some a2724))=some false:=
       bnd (vV _) (by rw [hb];exact cFW rfl (stp (congrArg some (dF h17))))
      have hk1:¬k=15:=fun h=>hk (.inl h)
      have hk2:¬k=16:=fun h=>hk (.inr h)
      exact .inr ⟨_,sqW (bnd hi (bnd hc (cFW rfl (bnd (a:=true) (stp (cTW (nF (dF hk1)) (stp (cTW (nF (dF hk2)) rfl)))) rfl)))) rfl,rfl,bad hn⟩)
  rcases loop with ⟨x,h1,S,h2,k1,k2,k3,h3,hall⟩ | ⟨⟨x,r⟩,h1,rfl,h2⟩
  ·
   rw [List.take_length] at h2
   have hne:S≠[]:=by
    rintro rfl
    have:t.length=0:=h3
    omega
   obtain ⟨⟨T,w⟩,S',rfl⟩:∃ p S',S=p::S':=by
    cases S with
    | nil=>exact (hne rfl).elim
    | cons p S'=>exact ⟨p,S',rfl⟩
   obtain ⟨s1,s2,s3,s4,s5⟩:=h3
   have hT:=kL T
   have ev:qD t=decide (((t.length-(flat T).length:Nat):Int)=0):=by
    unfold qD
    rw [hr,h2,Bool.true_and]
    match S',s5 with
    | [],s5=>
     have s5:t.length-(flat T).length=0:=s5
     rw [s5];rfl
    | (T',w')::S'',s5=>
     have:=kL T'
     exact (dF (by have:=s5.1;omega)).symm
   refine ⟨x,bnd (l1In _ _ _) (stp ?_),fun S0 hS0 _=>?_⟩
   ·
    rw [hr]
    refine cFW rfl (sqW h1 ?_)
    rw [vI]
    refine bnd (a:=((t.length-1:Nat):Int)) (by rw [yC (by omega) (by omega)];congr 1;omega) (bnd (kA s2) (stp ?_))
    rw [ev]
   ·
    rw [h2] at hS0
    obtain rfl:=Option.some.inj hS0
    refine ⟨k1,⟨s1,s2,s3,s4,s5⟩,fun S0 p q hpq hp=>?_⟩
    refine hall p.length S0 (by rw [hpq];simp) ?_
    rw [hpq,List.take_left];exact hp
  ·
   refine ⟨x,bnd (l1In _ _ _) (stp ?_),fun S hS=>by rw [h2] at hS;cases hS⟩
   rw [hr]
   refine cFW rfl (sqW h1 ?_)
   rw [BE_]
   unfold qD
   rw [h2,hr];rfl
end Go.Proofs.YtodfjigndedehaaGreatDoor
namespace Go.Proofs.YtodfjigndedehaaGreatDoor
def qF:Tr→Option (Int×Int)
 | .leaf n=>if lfB n=true then some (lfT n) else none
 | .node k a b=>if k=15∨k=16 then (qF a).bind fun x=>(qF b).bind fun y=>jn k x y else none
def typS (S:Stk):Prop:=∀ p∈S,qF p.1=some p.2
theorem IN_ {S S':Stk}{n:Nod} (hS:typS S) (h:tC S n=some S'):typS S':=by
 unfold tC at h
 split at h
 ·
  rename_i hk
  split at h
  ·
   split at h
   ·
    rename_i b y a x S0
    obtain ⟨w,hw,rfl⟩:=Option.map_eq_some_iff.1 h
    intro p hp
    rcases List.mem_cons.1 hp with rfl | hp
    ·
     have h1:=hS (a,x) (by simp)
     have h2:=hS (b,y) (by simp)
     dsimp only at h1 h2
     show (if n.1=15∨n.1=16 then _ else none)=_
     rw [if_pos hk,h1,h2];exact hw
    · exact hS p (by simp [hp])
   · cases h
  · cases h
 ·
  split at h
  ·
   obtain rfl:=Option.some.inj h
   intro p hp
   rcases List.mem_cons.1 hp with rfl | hp
   ·
    show (if lfB n=true then _ else none)=_
    rw [if_pos ‹_›]
   · exact hS p hp
  · cases h
theorem DS_:∀ (t:List Nod) (S S':Stk),typS S→dD t S=some S'→typS S'
 | [],S,S',hS,h=>by obtain rfl:=Option.some.inj h;exact hS
 | n::t,S,S',hS,h=>by
  obtain ⟨S1,h1,h2⟩:=nB h
  exact DS_ t S1 S' (IN_ hS h1) h2
theorem yU {k:Int}{a b:Tr}{w:Int×Int} (h:qF (.node k a b)=some w):(k=15∨k=16)∧∃ x y,qF a=some x∧qF b=some y∧jn k x y=some w:=by
 unfold qF at h
 split at h
 ·
  obtain ⟨x,h1,h2⟩:=nB h
  obtain ⟨y,h3,h4⟩:=nB h2
  exact ⟨‹_›,x,y,h1,h3,h4⟩
 · cases h
theorem zU {n:Nod}{w:Int×Int} (h:qF (.leaf n)=some w):lfB n=true∧w=lfT n:=by
 unfold qF at h
 split at h
 · exact ⟨‹_›,(Option.some.inj h).symm⟩
 · cases h
theorem mX {n:Nod} (h:lfB n=true):1≤n.1∧n.1≤14:=by
 unfold lfB at h;simp only [Bool.and_eq_true] at h
 exact rng_true.1 h.2.1
theorem CN_ {t:List Nod} (h:qD t=true):∃ T w,t=flat T∧qF T=some w∧t.length≤400:=by
 unfold qD at h
 rw [Bool.and_eq_true] at h
 have hl:=rng_true.1 h.1
 cases hr:dD t [] with
 | none=>rw [hr] at h;cases h.2
 | some S=>
  rw [hr] at h
  match S,hr,h.2 with
  | [(T,w)],hr,_=>
   have h1:=AG_ _ _ _ hr
   have h2:=DS_ _ _ _ (fun p hp=>by cases hp) hr
   refine ⟨T,w,?_,h2 (T,w) (by simp),by omega⟩
   unfold aM at h1
   simpa using h1.symm
theorem IH_ {t:List Nod}{x:List Int×List Int×List Int}{b:Bool} (h:vT [] t=some (x,b)):yZ t=some (x,b):=bnd h rfl
def frL (a b:Nat):List Int:=(List.range b).map fun j:Nat=>((j:Int)+(a:Int))
theorem frL_len (a b:Nat):(frL a b).length=b:=by simp [frL]
def ugL (n:Nat):List Int:=(List.range n).map fun q:Nat=>(q:Int)
theorem ugL_len (n:Nat):(ugL n).length=n:=by simp [ugL]
theorem DK_ (n:Nat):ugL (n+1)=ugL n++[(n:Int)]:=by unfold ugL;rw [List.range_succ];simp
theorem frL_succ (a b:Nat):frL a (b+1)=frL a b++[(b:Int)+a]:=by unfold frL;rw [List.range_succ];simp
def aJ (n:Nod):Gra:=if n.1=1 then (n.2.1,[],ugL n.2.1.toNat,ugL n.2.1.toNat) else if n.1=2 then (2,[],[0,1],[1,0]) else
 ((kd n.1).1+(kd n.1).2,[(n.1,n.2.1,ugL (kd n.1).1.toNat,frL (kd n.1).1.toNat (kd n.1).2.toNat)],ugL (kd n.1).1.toNat,frL (kd n.1).1.toNat (kd n.1).2.toNat)
theorem hgId_ {n:Nat} (hn:n≤1000):As_ (n:Int)=some ((n:Int),[],ugL n,ugL n):=by
 have hm:bB=1099511627776:=rfl
 have loop:=fL (f:=fun (s166:List Int×List Int×Int)=>
   (some (decide (s166.2.2<(n:Int)))).bind fun a179=>
   cond a179
   ((oA s166.1 [s166.2.2]).bind fun a187=>
    (oA s166.2.1 [s166.2.2]).bind fun a196=>
    (nA s166.2.2 1).bind fun a202=>
    some (.inl (a187,a196,a202)))
   (some (.inr (s166.1,s166.2.1)))) (fun j=>(ugL j,ugL j,(j:Int))) (t:=(ugL n,ugL n)) n (fun j hj=>by
  refine stp (cTW (dT (by dsimp only;omega)) ?_)
  have e:oA (ugL j) [(j:Int)]=some (ugL (j+1)):=by rw [DK_];exact jB (by rw [ugL_len];simp;omega)
  exact bnd e (bnd e (bnd (gB (by dsimp only;omega) (by dsimp only;omega)) rfl)))
  (stp (cFW (dF (by dsimp only;omega)) rfl))
 exact bnd loop rfl
theorem Ip_ {a b:Nat} (ha:a≤1000) (hb:b≤1000):qB (fun (s328:List Int×List Int×List Int×List Int×Int)=>
     (nA (a:Int) (b:Int)).bind fun a345=>
     (some (decide (s328.2.2.2.2<a345))).bind fun a347=>
     cond a347
     ((some (decide (s328.2.2.2.2<(a:Int)))).bind fun a352=>
      cond a352
      ((oA s328.1 [s328.2.2.2.2]).bind fun a379=>
       (oA s328.2.2.1 [s328.2.2.2.2]).bind fun a388=>
       (nA s328.2.2.2.2 1).bind fun a394=>
       some (.inl (a379,s328.2.1,a388,s328.2.2.2.1,a394)))
      ((oA s328.2.1 [s328.2.2.2.2]).bind fun a358=>
       (oA s328.2.2.2.1 [s328.2.2.2.2]).bind fun a367=>
       (nA s328.2.2.2.2 1).bind fun a373=>
       some (.inl (s328.1,a358,s328.2.2.1,a367,a373))))
     (some (.inr (s328.1,s328.2.1,s328.2.2.1,s328.2.2.2.1)))) (([]:List Int),([]:List Int),([]:List Int),([]:List Int),(0:Int))=some (ugL a,frL a b,ugL a,frL a b):=by
 have hm:bB=1099511627776:=rfl
 have hs:nA (a:Int) (b:Int)=some ((a:Int)+b):=gB (by omega) (by omega)
 have loop:=fL (f:=fun (s328:List Int×List Int×List Int×List Int×Int)=>
     (nA (a:Int) (b:Int)).bind fun a345=>
     (some (decide (s328.2.2.2.2<a345))).bind fun a347=>
     cond a347
     ((some (decide (s328.2.2.2.2<(a:Int)))).bind fun a352=>
      cond a352
      ((oA s328.1 [s328.2.2.2.2]).bind fun a379=>
       (oA s328.2.2.1 [s328.2.2.2.2]).bind fun a388=>
       (nA s328.2.2.2.2 1).bind fun a394=>
       some (.inl (a379,s328.2.1,a388,s328.2.2.2.1,a394)))
      ((oA s328.2.1 [s328.2.2.2.2]).bind fun a358=>
       (oA s328.2.2.2.1 [s328.2.2.2.2]).bind fun a367=>
       (nA s328.2.2.2.2 1).bind fun a373=>
       some (.inl (s328.1,a358,s328.2.2.1,a367,a373))))
     (some (.inr (s328.1,s328.2.1,s328.2.2.1,s328.2.2.2.1)))) (fun j=>(ugL (min j a),frL a (j-a),ugL (min j a),frL a (j-a),(j:Int))) (t:=(ugL a,frL a b,ugL a,frL a b)) (a+b) (fun j hj=>by
  refine bnd hs (stp (cTW (dT (by dsimp only;omega)) ?_))
  have e1:nA ((j:Nat):Int) 1=some ((j+1:Nat):Int):=gB (by omega) (by omega)
  by_cases hja:j<a
  ·
   have e:oA (ugL (min j a)) [(j:Int)]=some (ugL (min (j+1) a)):=by
    rw [Nat.min_eq_left (by omega),Nat.min_eq_left (by omega),DK_];exact jB (by rw [ugL_len];simp;omega)
   refine stp (cTW (dT (by dsimp only;omega)) (bnd e (bnd e (bnd e1 ?_))))
   rw [show j+1-a=j-a by omega]
  ·
   have e:oA (frL a (j-a)) [(j:Int)]=some (frL a (j+1-a)):=by
    rw [show j+1-a=j-a+1 by omega,frL_succ,show ((j-a:Nat):Int)+a=j by omega];exact jB (by rw [frL_len];simp;omega)
   refine stp (cFW (dF (by dsimp only;omega)) (bnd e (bnd e (bnd e1 ?_))))
   rw [Nat.min_eq_right (by omega),Nat.min_eq_right (by omega)])
  (bnd hs (stp (cFW (dF (by dsimp only;omega)) (by rw [Nat.min_eq_right (by omega),Nat.add_sub_cancel_left]))))
 rw [Nat.zero_min,Nat.zero_sub] at loop
 exact loop
theorem xR (k:Int):∃ a b:Nat,kd k=((a:Int),(b:Int))∧a≤2∧b≤2:=by
 have h:=kd_le k
 refine ⟨(kd k).1.toNat,(kd k).2.toNat,Prod.ext (by dsimp only;omega) (by dsimp only;omega),by omega,by omega⟩
theorem BJ_ {n:Nod} (h:lfB n=true) (h1:n.1=1):0≤n.2.1∧n.2.1≤12:=by
 unfold lfB at h
 simp only [Bool.and_eq_true] at h
 rw [if_pos h1] at h
 exact rng_true.1 h.2.2
theorem Bt_ {n:Nod} (h:lfB n=true):xT n=some (aJ n):=by
 obtain ⟨k,v,s⟩:=n
 unfold xT aJ
 by_cases h1:k=1
 ·
  have hv:=BJ_ h h1
  dsimp only at hv
  obtain ⟨m,rfl⟩:∃ m:Nat,v=(m:Int):=⟨v.toNat,by omega⟩
  simp [h1,hgId_ (n:=m) (by omega)]
 by_cases h2:k=2
 · simp [h2]
 obtain ⟨a,b,hk,ha,hb⟩:=xR k
 have hs:nA (a:Int) (b:Int)=some ((a:Int)+b):=gB (by omega) (by omega)
 rw [if_neg h1,if_neg h2]
 refine stp (cFW (dF h1) (stp (cFW (dF h2) (bnd (tmKind_ k) ?_))))
 simp only [hk,Int.toNat_natCast]
 exact bnd hs (bnd (Ip_ (by omega) (by omega)) rfl)
theorem D4_ {n:Nod} (h:lfB n=true):gOk (aJ n)=true∧((aJ n).2.2.1.length:Int)=(lfT n).1∧((aJ n).2.2.2.length:Int)=(lfT n).2:=by
 have hkk:=mX h
 obtain ⟨k,v,s⟩:=n
 dsimp only at hkk
 unfold aJ lfT
 by_cases h1:k=1
 ·
  have hv:=BJ_ h h1
  dsimp only at hv
  obtain ⟨m,rfl⟩:∃ m:Nat,v=(m:Int):=⟨v.toNat,by omega⟩
  have key:∀ m:Nat,m<13→gOk ((m:Int),[],ugL m,ugL m)=true:=by decide
  simp only [h1,if_true,Int.toNat_natCast,ugL_len]
  exact ⟨key m (by omega),trivial,trivial⟩
 by_cases h2:k=2
 ·
  subst h2
  have e:gOk (2,[],[0,1],[1,0])=true:=by decide
  exact ⟨e,rfl,rfl⟩
 have hr:rng k 3 14=true:=rng_true.2 (by omega)
 have hg:fF k v=true:=by
  unfold lfB at h
  simp only [Bool.and_eq_true] at h
  rw [if_neg h1] at h
  unfold fF
  rw [hr,Bool.true_and];exact h.2.2
 obtain ⟨a,b,hk,ha,hb⟩:=xR k
 have h0:=hk
 simp only [h1,h2,if_false,hk,Int.toNat_natCast,ugL_len,frL_len,and_true]
 have hE:edW ((a:Int)+b) (k,v,ugL a,frL a b)=(wOk ((a:Int)+b) (ugL a)&&wOk ((a:Int)+b) (frL a b)):=by
  unfold edW arB edI edO
  simp only [hg,hk,ugL_len,frL_len,decide_true,Bool.true_and]
 have e1:((a:Int)+b)=((a+b:Nat):Int):=by omega
 unfold gOk bE
 simp only [List.all_cons,List.all_nil,hE,ugL_len,frL_len,List.map_cons,List.map_nil]
 have key:∀ a:Nat,a<3→∀ b:Nat,b<3→(rng ((a:Int)+b) 0 100&&(decide (1≤60)&&(decide (a≤12)&&(decide (b≤12)&&(wOk ((a:Int)+b) (ugL a)&&(wOk ((a:Int)+b) (frL a b)&&((wOk ((a:Int)+b) (ugL a)&&wOk ((a:Int)+b) (frL a b)&&true)&&(List.range ((a:Int)+b).toNat).all fun j:Nat=>decide ((j:Int)∈ugL a++frL a b++([ugL a++frL a b]).flatten))))))))=true:=by decide
 exact key a (by omega) b (by omega)
theorem C7_ {σ τ:Type}{f:Nat→σ→Option (σ⊕τ)}{n k:Nat}{s s':σ} (h:f k s=some (.inl s')):zC f (n+1) k s=zC f n (k+1) s':=by
 show (f k s).bind _=_
 rw [h];rfl
theorem Iq_ {σ τ:Type}{f:Nat→σ→Option (σ⊕τ)}{n k:Nat}{s:σ}{r:τ} (h:f k s=some (.inr r)):zC f (n+1) k s=some (.inr r):=by
 show (f k s).bind _=_
 rw [h];rfl
end Go.Proofs.YtodfjigndedehaaGreatDoor
namespace Go.Proofs.YtodfjigndedehaaGreatDoor
def selR (ends:List Nat) (v:List Int):List Int:=ends.map fun q=>el v q
theorem zO {ends:List Nat}{v:List Int}{j:Nat} (h:j<ends.length):el (selR ends v) j=el v (ends.getD j 0):=by
 unfold selR el
 rw [List.getD_eq_getElem?_getD,List.getElem?_map,List.getElem?_eq_getElem h,List.getD_eq_getElem?_getD (l:=ends),List.getElem?_eq_getElem h]
 rfl
theorem vW {f:List Int→List Int}{m:Rows}{i:Nat} (h:i<m.length):gr (m.map f) i=f (gr m i):=by
 unfold gr
 rw [List.getD_eq_getElem?_getD,List.getD_eq_getElem?_getD,List.getElem?_map,List.getElem?_eq_getElem h];rfl
theorem AR_ {p:Int}{W:Nat}{V:Rows}{ends:List Nat} (hlt:∀ q∈ends,q<W){x y:List Int} (hx:zD p W V x) (hy:∀ j,j<ends.length→el y j % p=el x (ends.getD j 0) % p):zD p ends.length (V.map (selR ends)) y:=by
 obtain ⟨c,hc⟩:=hx
 refine ⟨c,fun j hj=>?_⟩
 have hm:ends.getD j 0<W:=by
  rw [List.getD_eq_getElem?_getD,List.getElem?_eq_getElem hj]
  exact hlt _ (List.getElem_mem hj)
 rw [hy j hj,hc _ hm,List.length_map]
 congr 1
 exact mD fun i hi=>by rw [vW hi,zO hj]
theorem sW {p:Int}{W:Nat}{V:Rows}{ends:List Nat} (hlt:∀ q∈ends,q<W) (h:okM p W V):okM p ends.length (V.map (selR ends)):=by
 intro r hr
 obtain ⟨v,hv,rfl⟩:=List.mem_map.1 hr
 obtain ⟨h1,h2⟩:=h v hv
 refine ⟨by simp [selR],fun x hx=>?_⟩
 obtain ⟨q,hq,rfl⟩:=List.mem_map.1 hx
 exact h2 _ (oH (by rw [h1];exact hlt q hq))
theorem Br_ {p:Int}{W:Nat}{eqs G:Rows}{ends:List Nat} (hf:fdB p=true) (hlt:∀ q∈ends,q<W) (he:okM p W eqs) (hG:okM p ends.length G)
  (f1:∀ v:List Int,sH p W eqs v→zD p ends.length G (selR ends v))
  (f2:∀ i,i<G.length→∃ x,sH p W eqs x∧∀ j,j<ends.length→el (gr G i) j % p=el x (ends.getD j 0) % p) :
  eC p ends.length ((kG p W eqs).map (selR ends))=eC p ends.length G:=by
 have hN:=AU_ (n:=W) (m:=eqs) hf
 refine CO_ hf (sW hlt hN.ok) hG (fun i hi=>?_) (fun i hi=>?_)
 ·
  rw [List.length_map] at hi
  rw [vW hi]
  exact f1 _ ((jV hf he _).1 (mF hi))
 ·
  obtain ⟨x,h1,h2⟩:=f2 i hi
  exact AR_ hlt ((jV hf he x).2 h1) h2
def nX (p k v:Int):Rows:=
 if k=3 then [[p-1,1,0],[p-1,0,1]] else if k=5 then [[p-1,p-1,1]] else if k=6 then [[1]] else if k=7 then [[(p-v) % p,1]] else
 if k=9 then [[1,0,p-1],[0,1,p-1]] else if k=11 then [[1,p-1,p-1]] else if k=12 then [[1]] else if k=13 then [[1,(p-v) % p]] else []
def oL (k v:Int):Rows:=
 if k=3 then [[1,1,1]] else if k=4 then [[1]] else if k=5 then [[1,0,1],[0,1,1]] else if k=7 then [[1,v]] else
 if k=9 then [[1,1,1]] else if k=10 then [[1]] else if k=11 then [[1,1,0],[1,0,1]] else if k=13 then [[v,1]] else []
theorem FR_ {p v:Int} (hp:2≤p∧p≤97) (hv:0≤v∧v<p):An_ p 0 v=some v:=by
 refine bnd (gB (by omega) (by omega)) (bnd (aH (by omega)) ?_)
 rw [Int.tmod_eq_emod_of_nonneg (by omega),Int.zero_add,Int.emod_eq_of_lt hv.1 hv.2]
theorem FW_ {p:Int} (hp:2≤p∧p≤97){v w:Int} (hv:0≤v∧v<p) (hw:0≤w∧w<p) :
  kF p 1 [0] [v]=some [v]∧kF p 2 [1,0] [v,w]=some [w,v]∧kF p 2 [0,1] [v,w]=some [v,w] ∧
  kF p 3 [1,0] [v,w]=some [w,v,0]∧kF p 3 [2,0] [v,w]=some [w,0,v]∧kF p 3 [0,2] [v,w]=some [v,0,w]∧kF p 3 [1,2] [v,w]=some [0,v,w] ∧
  kF p 3 [2,0,1] [v,w,w]=some [w,w,v]∧kF p 3 [0,1,2] [v,w,w]=some [v,w,w]:=by
 have a1:=FR_ hp hv
 have a2:=FR_ hp hw
 have m1:bD (1:Int) (0:Int)=some [0]:=rfl
 have m2:bD (2:Int) (0:Int)=some [0,0]:=rfl
 have m3:bD (3:Int) (0:Int)=some [0,0,0]:=rfl
 refine ⟨?_,?_,?_,?_,?_,?_,?_,?_,?_⟩ <;> simp [kF,m1,m2,m3,forS,idxO,setO,a1,a2]
theorem hgSel_ {ends:List Nat}{v:List Int}{W:Nat} (hv:v.length=W) (hlt:∀ q∈ends,q<W) (hl:ends.length≤1000):qJ (ends.map fun q:Nat=>(q:Int)) v=some (selR ends v):=by
 have hm:bB=1099511627776:=rfl
 have loop:=uE (f:=fun (k3:Nat) (s58:List Int)=>
   (idxO (ends.map fun q:Nat=>(q:Int)) ((k3:Nat):Int)).bind fun a75=>
   (idxO v a75).bind fun a83=>
   (oA s58 [a83]).bind fun a88=>
   some a88) (fun a:Int=>el v a.toNat) (ends.map fun q:Nat=>(q:Int)) [] (by simp;omega) (fun j a s hj hs=>by
  have hjl:=(List.getElem?_eq_some_iff.1 hj).1
  rw [List.length_map] at hjl
  rw [List.getElem?_map,List.getElem?_eq_getElem hjl] at hj
  obtain rfl:=Option.some.inj hj
  have hq:=hlt _ (List.getElem_mem hjl)
  refine bnd (kA (by rw [List.getElem?_map,List.getElem?_eq_getElem hjl];rfl)) (bnd (gE (by omega)) (bnd (jB (by simp at hs ⊢;omega)) ?_))
  rw [Int.toNat_natCast])
 refine bnd loop (congrArg some ?_)
 rw [List.nil_append,List.map_map]
 unfold selR
 exact List.map_congr_left fun q _=>by show el v ((q:Int)).toNat=_;rw [Int.toNat_natCast]
theorem AC_ (k:Int):uK k=some (decide (k≠8∧k≠14)):=by
 unfold uK
 by_cases h1:k=8
 · simp [h1]
 · by_cases h2:k=14 <;> simp [h1,h2]
theorem asked_ {p:Int}{g:Gra} (hf:fdB p=true) (hg:gOk g=true) (he:∀ e∈g.2.1,e.2.1<p∧e.1≠8∧e.1≠14):rZ p g=some true:=by
 have h1:Aa_ p g=some true:=by
  refine bnd (a:=false) (bnd (BO_ p) (stp (by rw [hf];exact cFW rfl (bnd (A0_ g) (stp (by rw [hg];rfl)))))) (cFW rfl (sqW (yH (fun e:Edg=>decide (¬p≤e.2.1)) g.2.1 0 (t:=false) (fun j e hj=>?_)) ?_))
  ·
   rw [Nat.zero_add]
   have:=(he e (xC hj)).1
   refine bnd (kA hj) (stp (cFW (dF (by omega)) ?_))
   rw [show decide (¬p≤e.2.1)=true from dT (by omega)];rfl
  · rw [List.all_eq_true.2 fun e h=>dT (by have:=(he e h).1;omega)];rfl
 refine bnd h1 (stp (cFW rfl (sqW (yH (fun e:Edg=>decide (e.1≠8∧e.1≠14)) g.2.1 0 (t:=false) (fun j e hj=>?_)) ?_)))
 ·
  rw [Nat.zero_add]
  have:=(he e (xC hj)).2
  refine bnd (kA hj) (bnd (AC_ e.1) (stp ?_))
  rw [dT this];rfl
 · rw [List.all_eq_true.2 fun e h=>dT (he e h).2];rfl
theorem A6_ {p:Int}{W a b:Nat}{E:List Edg}{I O:List Int}{ends:List Nat}{eqs:Rows} (hf:fdB p=true) (hg:gOk ((W:Int),E,I,O)=true) (he:∀ e∈E,e.2.1<p∧e.1≠8∧e.1≠14)
  (hI:I.length=a) (hO:O.length=b) (hends:I++O=ends.map fun q:Nat=>(q:Int)) (hlt:∀ q∈ends,q<W) (hq:okM p W eqs) (hql:eqs.length≤1000)
  (hrows:forS (fun (k7:Nat) (s70:List (List Int))=>
   (idxO E ((k7:Nat):Int)).bind fun a87=>
   (dQ p (W:Int) (a87.1,a87.2.1,a87.2.2.1,a87.2.2.2)).bind fun y99=>
   (oA s70 y99).bind fun a104=>
   some a104) E.length 0 []=some eqs):qZ p ((W:Int),E,I,O)=some (((a:Int),(b:Int),eC p (a+b) ((kG p W eqs).map (selR ends))),true):=by
 have hm:bB=1099511627776:=rfl
 obtain ⟨n,hgk⟩:=AL_ hg
 have hW:W≤100:=by have:=hgk.w;have:=hgk.n100;dsimp only at *;omega
 have hi12:=hgk.i12;have ho12:=hgk.o12
 dsimp only at hi12 ho12
 have hel:ends.length=a+b:=by
  have:=congrArg List.length hends
  rw [List.length_append,List.length_map] at this;omega
 have hN:=AU_ (n:=W) (m:=eqs) hf
 have hNl:=mO hf hN
 have hV:lZ p ((W:Int),E,I,O)=some (kG p W eqs):=bnd hrows (bnd (ER_ hf (by omega) hq (by omega)) rfl)
 have hsel:=uE (f:=fun (k32:Nat) (s111:List (List Int))=>
    (idxO (kG p W eqs) ((k32:Nat):Int)).bind fun a128=>
    (qJ (I++O) a128).bind fun y132=>
    (oA s111 [y132]).bind fun a140=>
    some a140) (selR ends) (kG p W eqs) [] (by simp;omega) (fun j v s hj hs=>by
  have hv:=(hN.ok v (xC hj)).1
  have hjl:=(List.getElem?_eq_some_iff.1 hj).1
  have:=hgSel_ hv hlt (by omega)
  rw [←hends] at this
  exact bnd (kA hj) (bnd this (bnd (jB (by simp at hs ⊢;omega)) rfl)))
 have hok:=sW hlt hN.ok
 rw [hel] at hok
 have hred:=pQ hf (Nat.le_refl (a+b)) (by omega) hok (by simp;omega)
 refine bnd (asked_ hf hg he) (stp (cFW rfl (bnd (own_ (by dsimp only;omega)) (bnd (jB (by dsimp only;omega)) (bnd hV (bnd hsel ?_))))))
 refine bnd (a:=((a:Int),(b:Int),eC p (a+b) ((kG p W eqs).map (selR ends)))) ?_ rfl
 dsimp only
 rw [hI,hO]
 refine bnd (a:=((a+b:Nat):Int)) (by rw [gB (by omega) (by omega)];congr 1) (bnd ?_ rfl)
 exact hred
end Go.Proofs.YtodfjigndedehaaGreatDoor
namespace Go.Proofs.YtodfjigndedehaaGreatDoor
theorem sg1 (f:Nat→Int):sg 1 f=f 0:=by simp [sg]
theorem sg2 (f:Nat→Int):sg 2 f=f 0+f 1:=by simp [sg]
theorem sg3 (f:Nat→Int):sg 3 f=f 0+f 1+f 2:=by simp [sg]
theorem cgr {p c d x y:Int} (h:(c+d) % p=0):(c*x+y) % p=0↔y % p=(d*x) % p:=by
 have e:c*x+y=(c+d)*x+(y-d*x):=by rw [Int.add_mul];omega
 rw [e,Int.add_emod,Int.mul_emod,h,Int.zero_mul,Int.zero_emod,Int.zero_add,Int.emod_emod_of_dvd _ (Int.dvd_refl p)]
 exact (Int.emod_eq_emod_iff_emod_sub_eq_zero).symm
theorem cg1 {p:Int}:(p-1+1) % p=0:=by rw [Int.sub_add_cancel,Int.emod_self]
theorem cgv {p v:Int}:((p-v) % p+v) % p=0:=by rw [EB_,Int.sub_add_cancel,Int.emod_self]
structure Mate (p:Int) (N:Nat) (E G:Rows):Prop where
 e:okM p N E
 el:E.length≤1000
 g:okM p N G
 gl:G.length≤1000
 f1:∀ v:List Int,sH p N E v→∃ c:Nat→Int,∀ j,j<N→Go.Proofs.YtodfjigndedehaaGreatDoor.el v j % p=sg G.length (fun i=>c i*Go.Proofs.YtodfjigndedehaaGreatDoor.el (gr G i) j) % p
 f2:∀ i,i<G.length→sH p N E (gr G i)
theorem Mate.red {p:Int}{N:Nat}{E G:Rows} (hf:fdB p=true) (h:Mate p N E G):eC p N ((kG p N E).map (selR (List.range N)))=eC p N G:=by
 have:=Br_ (p:=p) (W:=N) (eqs:=E) (G:=G) (ends:=List.range N) hf (fun q hq=>List.mem_range.1 hq) h.e (by rw [List.length_range];exact h.g) (fun v hv=>?_) (fun i hi=>⟨gr G i,h.f2 i hi,fun j hj=>?_⟩)
 · rwa [List.length_range] at this
 ·
  obtain ⟨c,hc⟩:=h.f1 v hv
  rw [List.length_range]
  refine ⟨c,fun j hj=>?_⟩
  rw [zO (by rw [List.length_range];exact hj),← hc j hj]
  congr 2
  rw [List.getD_eq_getElem?_getD,List.getElem?_range hj];rfl
 ·
  rw [List.length_range] at hj
  congr 2
  rw [List.getD_eq_getElem?_getD,List.getElem?_range hj];rfl
theorem mE {p:Int}{n:Nat}{r:List Int} (h:r.length=n) (h2:inP p r):okM p n [r]:=fun x hx=>by
 rw [List.mem_singleton.1 hx];exact ⟨h,h2⟩
theorem okM2 {p:Int}{n:Nat}{r s:List Int} (h:okM p n [r]) (h2:okM p n [s]):okM p n [r,s]:=fun x hx=>by
 rcases List.mem_cons.1 hx with rfl | hx
 · exact h x (by simp)
 · exact h2 x hx
theorem j1 {P:Nat→Prop} (h0:P 0):∀ j,j<1→P j:=fun j hj=>by
 obtain rfl:j=0:=by omega
 exact h0
theorem j2 {P:Nat→Prop} (h0:P 0) (h1:P 1):∀ j,j<2→P j:=fun j hj=>by
 match j,hj with
 | 0,_=>exact h0
 | 1,_=>exact h1
theorem j3 {P:Nat→Prop} (h0:P 0) (h1:P 1) (h2:P 2):∀ j,j<3→P j:=fun j hj=>by
 match j,hj with
 | 0,_=>exact h0
 | 1,_=>exact h1
 | 2,_=>exact h2
theorem nE {p a:Int} (h:0≤a∧a<p):inP p [a]:=fun x hx=>by rw [List.mem_singleton.1 hx];exact h
theorem uC {p a:Int}{l:List Int} (h:0≤a∧a<p) (hl:inP p l):inP p (a::l):=fun x hx=>by
 rcases List.mem_cons.1 hx with rfl | hx
 · exact h
 · exact hl x hx
section
variable {p v:Int} (hp:2≤p∧p≤97) (hv:0≤v∧v<p)
include hp
theorem mate3:Mate p 3 [[p-1,1,0],[p-1,0,1]] [[1,1,1]]:=by
 have b0:(0:Int)≤0∧(0:Int)<p:=⟨by omega,by omega⟩
 have b1:(0:Int)≤1∧(1:Int)<p:=⟨by omega,by omega⟩
 have bp:(0:Int)≤p-1∧p-1<p:=⟨by omega,by omega⟩
 refine ⟨okM2 (mE rfl (uC bp (uC b1 (nE b0)))) (mE rfl (uC bp (uC b0 (nE b1)))),by simp,mE rfl (uC b1 (uC b1 (nE b1))),by simp,fun x hx=>⟨fun _=>el x 0,?_⟩,j1 (j2 ?_ ?_)⟩
 ·
  have h0:((p-1)*el x 0+el x 1) % p=0:=by
   have:=hx 0 (by simp)
   rw [sg3] at this
   have h:((p-1)*el x 0+1*el x 1+0*el x 2) % p=0:=this
   rwa [Int.one_mul,Int.zero_mul,Int.add_zero] at h
  have h1:((p-1)*el x 0+el x 2) % p=0:=by
   have:=hx 1 (by simp)
   rw [sg3] at this
   have h:((p-1)*el x 0+0*el x 1+1*el x 2) % p=0:=this
   rwa [Int.one_mul,Int.zero_mul,Int.add_zero] at h
  have k0:=(cgr cg1).1 h0
  have k1:=(cgr cg1).1 h1
  rw [Int.one_mul] at k0 k1
  refine j3 ?_ ?_ ?_
  ·
   show _=sg 1 _ % p
   rw [sg1]
   show el x 0 % p=(el x 0*1) % p
   rw [Int.mul_one]
  ·
   show _=sg 1 _ % p
   rw [sg1]
   show el x 1 % p=(el x 0*1) % p
   rw [Int.mul_one,k0]
  ·
   show _=sg 1 _ % p
   rw [sg1]
   show el x 2 % p=(el x 0*1) % p
   rw [Int.mul_one,k1]
 ·
  rw [sg3]
  show ((p-1)*1+1*1+0*1) % p=0
  rw [show ((p-1)*1+1*1+0*1:Int)=p by omega,Int.emod_self]
 ·
  rw [sg3]
  show ((p-1)*1+0*1+1*1) % p=0
  rw [show ((p-1)*1+0*1+1*1:Int)=p by omega,Int.emod_self]
theorem mate4:Mate p 1 ([]:Rows) ([[1]]:Rows):=by
 have b0:(0:Int)≤0∧(0:Int)<p:=⟨by omega,by omega⟩
 have b1:(0:Int)≤1∧(1:Int)<p:=⟨by omega,by omega⟩
 have bp:(0:Int)≤p-1∧p-1<p:=⟨by omega,by omega⟩
 refine ⟨(fun x hx=>by cases hx),by simp,(mE rfl (nE b1)),by simp,fun x hx=>⟨fun _=>el x 0,?_⟩,?_⟩
 ·
  refine j1 ?_
  ·
   show _=sg 1 _ % p
   rw [sg1]
   show el x 0 % p=(el x 0*1) % p
   first | (simp;done) | (simp only [Int.mul_one,Int.mul_zero,Int.add_zero,Int.zero_add];assumption)
 · intro i hi k hk;simp at hk
theorem mate6:Mate p 1 ([[1]]:Rows) ([]:Rows):=by
 have b0:(0:Int)≤0∧(0:Int)<p:=⟨by omega,by omega⟩
 have b1:(0:Int)≤1∧(1:Int)<p:=⟨by omega,by omega⟩
 have bp:(0:Int)≤p-1∧p-1<p:=⟨by omega,by omega⟩
 refine ⟨(mE rfl (nE b1)),by simp,(fun x hx=>by cases hx),by simp,fun x hx=>⟨fun _=>0,?_⟩,?_⟩
 ·
  have q0:(1*el x 0) % p=0:=by
   have:=hx 0 (by simp)
   rw [sg1] at this
   exact this
  have k0:el x 0 % p=0:=by rwa [Int.one_mul] at q0
  refine j1 ?_
  ·
   show el x 0 % p=(0:Int) % p
   rw [k0,Int.zero_emod]
 · intro i hi;simp at hi
theorem mate5:Mate p 3 ([[p-1,p-1,1]]:Rows) ([[1,0,1],[0,1,1]]:Rows):=by
 have b0:(0:Int)≤0∧(0:Int)<p:=⟨by omega,by omega⟩
 have b1:(0:Int)≤1∧(1:Int)<p:=⟨by omega,by omega⟩
 have bp:(0:Int)≤p-1∧p-1<p:=⟨by omega,by omega⟩
 refine ⟨(mE rfl (uC bp (uC bp (nE b1)))),by simp,(okM2 (mE rfl (uC b1 (uC b0 (nE b1)))) (mE rfl (uC b0 (uC b1 (nE b1))))),by simp,fun x hx=>⟨fun i=>el x i,?_⟩,?_⟩
 ·
  have q0:((p-1)*el x 0+(p-1)*el x 1+1*el x 2) % p=0:=by
   have:=hx 0 (by simp)
   rw [sg3] at this
   exact this
  have k0:el x 2 % p=(el x 0+el x 1) % p:=by
   have:=(cgr (x:=el x 0+el x 1) (y:=el x 2) cg1).1 (by rw [←q0];congr 1;rw [Int.mul_add];omega)
   rwa [Int.one_mul] at this
  refine j3 ?_ ?_ ?_
  ·
   show _=sg 2 _ % p
   rw [sg2]
   show el x 0 % p=(el x 0*1+el x 1*0) % p
   first | (simp;done) | (simp only [Int.mul_one,Int.mul_zero,Int.add_zero,Int.zero_add];assumption)
  ·
   show _=sg 2 _ % p
   rw [sg2]
   show el x 1 % p=(el x 0*0+el x 1*1) % p
   first | (simp;done) | (simp only [Int.mul_one,Int.mul_zero,Int.add_zero,Int.zero_add];assumption)
  ·
   show _=sg 2 _ % p
   rw [sg2]
   show el x 2 % p=(el x 0*1+el x 1*1) % p
   first | (simp;done) | (simp only [Int.mul_one,Int.mul_zero,Int.add_zero,Int.zero_add];assumption)
 ·
  refine j2 ?_ ?_
  ·
   refine j1 ?_
   ·
    rw [sg3]
    show ((p-1)*1+(p-1)*0+1*1) % p=0
    first | (rw [show ((p-1)*1+(p-1)*0+1*1:Int)=p by omega,Int.emod_self]) | (rw [show ((p-1)*0+(p-1)*1+1*1:Int)=p by omega,Int.emod_self]) | (rw [show (1*1+0*1+(p-1)*1:Int)=p by omega,Int.emod_self]) | (rw [show (0*1+1*1+(p-1)*1:Int)=p by omega,Int.emod_self]) | (rw [show (1*1+(p-1)*1+(p-1)*0:Int)=p by omega,Int.emod_self]) | (rw [show (1*1+(p-1)*0+(p-1)*1:Int)=p by omega,Int.emod_self])
  ·
   refine j1 ?_
   ·
    rw [sg3]
    show ((p-1)*0+(p-1)*1+1*1) % p=0
    first | (rw [show ((p-1)*1+(p-1)*0+1*1:Int)=p by omega,Int.emod_self]) | (rw [show ((p-1)*0+(p-1)*1+1*1:Int)=p by omega,Int.emod_self]) | (rw [show (1*1+0*1+(p-1)*1:Int)=p by omega,Int.emod_self]) | (rw [show (0*1+1*1+(p-1)*1:Int)=p by omega,Int.emod_self]) | (rw [show (1*1+(p-1)*1+(p-1)*0:Int)=p by omega,Int.emod_self]) | (rw [show (1*1+(p-1)*0+(p-1)*1:Int)=p by omega,Int.emod_self])
theorem mate9:Mate p 3 ([[1,0,p-1],[0,1,p-1]]:Rows) ([[1,1,1]]:Rows):=by
 have b0:(0:Int)≤0∧(0:Int)<p:=⟨by omega,by omega⟩
 have b1:(0:Int)≤1∧(1:Int)<p:=⟨by omega,by omega⟩
 have bp:(0:Int)≤p-1∧p-1<p:=⟨by omega,by omega⟩
 refine ⟨(okM2 (mE rfl (uC b1 (uC b0 (nE bp)))) (mE rfl (uC b0 (uC b1 (nE bp))))),by simp,(mE rfl (uC b1 (uC b1 (nE b1)))),by simp,fun x hx=>⟨fun _=>el x 2,?_⟩,?_⟩
 ·
  have q0:(1*el x 0+0*el x 1+(p-1)*el x 2) % p=0:=by
   have:=hx 0 (by simp)
   rw [sg3] at this
   exact this
  have q1:(0*el x 0+1*el x 1+(p-1)*el x 2) % p=0:=by
   have:=hx 1 (by simp)
   rw [sg3] at this
   exact this
  have k0:el x 0 % p=el x 2 % p:=by
   have:=(cgr (x:=el x 2) (y:=el x 0) cg1).1 (by rw [←q0];congr 1;omega)
   rwa [Int.one_mul] at this
  have k1:el x 1 % p=el x 2 % p:=by
   have:=(cgr (x:=el x 2) (y:=el x 1) cg1).1 (by rw [←q1];congr 1;omega)
   rwa [Int.one_mul] at this
  refine j3 ?_ ?_ ?_
  ·
   show _=sg 1 _ % p
   rw [sg1]
   show el x 0 % p=(el x 2*1) % p
   first | (simp;done) | (simp only [Int.mul_one,Int.mul_zero,Int.add_zero,Int.zero_add];assumption)
  ·
   show _=sg 1 _ % p
   rw [sg1]
   show el x 1 % p=(el x 2*1) % p
   first | (simp;done) | (simp only [Int.mul_one,Int.mul_zero,Int.add_zero,Int.zero_add];assumption)
  ·
   show _=sg 1 _ % p
   rw [sg1]
   show el x 2 % p=(el x 2*1) % p
   first | (simp;done) | (simp only [Int.mul_one,Int.mul_zero,Int.add_zero,Int.zero_add];assumption)
 ·
  refine j1 ?_
  ·
   refine j2 ?_ ?_
   ·
    rw [sg3]
    show (1*1+0*1+(p-1)*1) % p=0
    first | (rw [show ((p-1)*1+(p-1)*0+1*1:Int)=p by omega,Int.emod_self]) | (rw [show ((p-1)*0+(p-1)*1+1*1:Int)=p by omega,Int.emod_self]) | (rw [show (1*1+0*1+(p-1)*1:Int)=p by omega,Int.emod_self]) | (rw [show (0*1+1*1+(p-1)*1:Int)=p by omega,Int.emod_self]) | (rw [show (1*1+(p-1)*1+(p-1)*0:Int)=p by omega,Int.emod_self]) | (rw [show (1*1+(p-1)*0+(p-1)*1:Int)=p by omega,Int.emod_self])
   ·
    rw [sg3]
    show (0*1+1*1+(p-1)*1) % p=0
    first | (rw [show ((p-1)*1+(p-1)*0+1*1:Int)=p by omega,Int.emod_self]) | (rw [show ((p-1)*0+(p-1)*1+1*1:Int)=p by omega,Int.emod_self]) | (rw [show (1*1+0*1+(p-1)*1:Int)=p by omega,Int.emod_self]) | (rw [show (0*1+1*1+(p-1)*1:Int)=p by omega,Int.emod_self]) | (rw [show (1*1+(p-1)*1+(p-1)*0:Int)=p by omega,Int.emod_self]) | (rw [show (1*1+(p-1)*0+(p-1)*1:Int)=p by omega,Int.emod_self])
theorem mate11:Mate p 3 ([[1,p-1,p-1]]:Rows) ([[1,1,0],[1,0,1]]:Rows):=by
 have b0:(0:Int)≤0∧(0:Int)<p:=⟨by omega,by omega⟩
 have b1:(0:Int)≤1∧(1:Int)<p:=⟨by omega,by omega⟩
 have bp:(0:Int)≤p-1∧p-1<p:=⟨by omega,by omega⟩
 refine ⟨(mE rfl (uC b1 (uC bp (nE bp)))),by simp,(okM2 (mE rfl (uC b1 (uC b1 (nE b0)))) (mE rfl (uC b1 (uC b0 (nE b1))))),by simp,fun x hx=>⟨fun i=>el x (i+1),?_⟩,?_⟩
 ·
  have q0:(1*el x 0+(p-1)*el x 1+(p-1)*el x 2) % p=0:=by
   have:=hx 0 (by simp)
   rw [sg3] at this
   exact this
  have k0:el x 0 % p=(el x 1+el x 2) % p:=by
   have:=(cgr (x:=el x 1+el x 2) (y:=el x 0) cg1).1 (by rw [←q0];congr 1;rw [Int.mul_add];omega)
   rwa [Int.one_mul] at this
  refine j3 ?_ ?_ ?_
  ·
   show _=sg 2 _ % p
   rw [sg2]
   show el x 0 % p=(el x 1*1+el x 2*1) % p
   first | (simp;done) | (simp only [Int.mul_one,Int.mul_zero,Int.add_zero,Int.zero_add];assumption)
  ·
   show _=sg 2 _ % p
   rw [sg2]
   show el x 1 % p=(el x 1*1+el x 2*0) % p
   first | (simp;done) | (simp only [Int.mul_one,Int.mul_zero,Int.add_zero,Int.zero_add];assumption)
  ·
   show _=sg 2 _ % p
   rw [sg2]
   show el x 2 % p=(el x 1*0+el x 2*1) % p
   first | (simp;done) | (simp only [Int.mul_one,Int.mul_zero,Int.add_zero,Int.zero_add];assumption)
 ·
  refine j2 ?_ ?_
  ·
   refine j1 ?_
   ·
    rw [sg3]
    show (1*1+(p-1)*1+(p-1)*0) % p=0
    first | (rw [show ((p-1)*1+(p-1)*0+1*1:Int)=p by omega,Int.emod_self]) | (rw [show ((p-1)*0+(p-1)*1+1*1:Int)=p by omega,Int.emod_self]) | (rw [show (1*1+0*1+(p-1)*1:Int)=p by omega,Int.emod_self]) | (rw [show (0*1+1*1+(p-1)*1:Int)=p by omega,Int.emod_self]) | (rw [show (1*1+(p-1)*1+(p-1)*0:Int)=p by omega,Int.emod_self]) | (rw [show (1*1+(p-1)*0+(p-1)*1:Int)=p by omega,Int.emod_self])
  ·
   refine j1 ?_
   ·
    rw [sg3]
    show (1*1+(p-1)*0+(p-1)*1) % p=0
    first | (rw [show ((p-1)*1+(p-1)*0+1*1:Int)=p by omega,Int.emod_self]) | (rw [show ((p-1)*0+(p-1)*1+1*1:Int)=p by omega,Int.emod_self]) | (rw [show (1*1+0*1+(p-1)*1:Int)=p by omega,Int.emod_self]) | (rw [show (0*1+1*1+(p-1)*1:Int)=p by omega,Int.emod_self]) | (rw [show (1*1+(p-1)*1+(p-1)*0:Int)=p by omega,Int.emod_self]) | (rw [show (1*1+(p-1)*0+(p-1)*1:Int)=p by omega,Int.emod_self])
include hv
theorem mate7:Mate p 2 ([[(p-v) % p,1]]:Rows) ([[1,v]]:Rows):=by
 have b0:(0:Int)≤0∧(0:Int)<p:=⟨by omega,by omega⟩
 have b1:(0:Int)≤1∧(1:Int)<p:=⟨by omega,by omega⟩
 have bp:(0:Int)≤p-1∧p-1<p:=⟨by omega,by omega⟩
 have bv:(0:Int)≤(p-v) % p∧(p-v) % p<p:=qL hp.1
 refine ⟨(mE rfl (uC bv (nE b1))),by simp,(mE rfl (uC b1 (nE hv))),by simp,fun x hx=>⟨fun _=>el x 0,?_⟩,?_⟩
 ·
  have q0:(((p-v) % p)*el x 0+1*el x 1) % p=0:=by
   have:=hx 0 (by simp)
   rw [sg2] at this
   exact this
  have k0:el x 1 % p=(el x 0*v) % p:=by
   have:=(cgr (x:=el x 0) (y:=el x 1) (cgv (v:=v))).1 (by rw [←q0];congr 1;omega)
   rwa [Int.mul_comm] at this
  refine j2 ?_ ?_
  ·
   show _=sg 1 _ % p
   rw [sg1]
   show el x 0 % p=(el x 0*1) % p
   first | (simp;done) | (simp only [Int.mul_one,Int.mul_zero,Int.add_zero,Int.zero_add];assumption)
  ·
   show _=sg 1 _ % p
   rw [sg1]
   show el x 1 % p=(el x 0*v) % p
   exact k0
 ·
  refine j1 ?_
  ·
   refine j1 ?_
   ·
    rw [sg2]
    show (((p-v) % p)*1+1*v) % p=0
    rw [Int.mul_one,Int.one_mul];exact cgv
theorem mate13:Mate p 2 ([[1,(p-v) % p]]:Rows) ([[v,1]]:Rows):=by
 have b0:(0:Int)≤0∧(0:Int)<p:=⟨by omega,by omega⟩
 have b1:(0:Int)≤1∧(1:Int)<p:=⟨by omega,by omega⟩
 have bp:(0:Int)≤p-1∧p-1<p:=⟨by omega,by omega⟩
 have bv:(0:Int)≤(p-v) % p∧(p-v) % p<p:=qL hp.1
 refine ⟨(mE rfl (uC b1 (nE bv))),by simp,(mE rfl (uC hv (nE b1))),by simp,fun x hx=>⟨fun _=>el x 1,?_⟩,?_⟩
 ·
  have q0:(1*el x 0+((p-v) % p)*el x 1) % p=0:=by
   have:=hx 0 (by simp)
   rw [sg2] at this
   exact this
  have k0:el x 0 % p=(el x 1*v) % p:=by
   have:=(cgr (x:=el x 1) (y:=el x 0) (cgv (v:=v))).1 (by rw [←q0];congr 1;omega)
   rwa [Int.mul_comm] at this
  refine j2 ?_ ?_
  ·
   show _=sg 1 _ % p
   rw [sg1]
   show el x 0 % p=(el x 1*v) % p
   exact k0
  ·
   show _=sg 1 _ % p
   rw [sg1]
   show el x 1 % p=(el x 1*1) % p
   first | (simp;done) | (simp only [Int.mul_one,Int.mul_zero,Int.add_zero,Int.zero_add];assumption)
 ·
  refine j1 ?_
  ·
   refine j1 ?_
   ·
    rw [sg2]
    show (1*v+((p-v) % p)*1) % p=0
    rw [Int.mul_one,Int.one_mul,Int.add_comm];exact cgv
end
theorem lV {p k v:Int} (hp:2≤p∧p≤97) (hk:rng k 3 14=true) (h8:k≠8) (h14:k≠14) (hv:0≤v∧v<p):Mate p ((kd k).1.toNat+(kd k).2.toNat) (nX p k v) (oL k v):=by
 have:=rng_true.1 hk
 have hc:k=3∨k=4∨k=5∨k=6∨k=7∨k=9∨k=10∨k=11∨k=12∨k=13:=by omega
 rcases hc with rfl | rfl | rfl | rfl | rfl | rfl | rfl | rfl | rfl | rfl
 · exact mate3 hp
 · exact mate4 hp
 · exact mate5 hp
 · exact mate6 hp
 · exact mate7 hp hv
 · exact mate9 hp
 · exact mate4 hp
 · exact mate11 hp
 · exact mate6 hp
 · exact mate13 hp hv
theorem dnRows_ {p k v:Int} (hp:2≤p∧p≤97) (hk:rng k 3 14=true) (h8:k≠8) (h14:k≠14) (hv:0≤v∧v<p) :
  dQ p ((kd k).1+(kd k).2) (k,v,ugL (kd k).1.toNat,frL (kd k).1.toNat (kd k).2.toNat)=some (nX p k v):=by
 have:=rng_true.1 hk
 have b0:(0:Int)≤0∧(0:Int)<p:=⟨by omega,by omega⟩
 have b1:(0:Int)≤1∧(1:Int)<p:=⟨by omega,by omega⟩
 have bp:(0:Int)≤p-1∧p-1<p:=⟨by omega,by omega⟩
 have bv:(0:Int)≤(p-v) % p∧(p-v) % p<p:=qL hp.1
 obtain ⟨r1,r2,r3,r4,r5,r6,r7,r8,r9⟩:=FW_ hp b1 bp
 obtain ⟨_,s2,s3,_⟩:=FW_ hp b1 bv
 have sp:subO p 1=some (p-1):=yC (by omega) (by omega)
 have ng:=BN_ hp hv
 have hc:k=3∨k=4∨k=5∨k=6∨k=7∨k=9∨k=10∨k=11∨k=12∨k=13:=by omega
 have u0:ugL 0=[]:=rfl
 have u1:ugL 1=[0]:=rfl
 have u2:ugL 2=[0,1]:=rfl
 have f01:frL 0 1=[0]:=rfl
 have f11:frL 1 1=[1]:=rfl
 have f12:frL 1 2=[1,2]:=rfl
 have f21:frL 2 1=[2]:=rfl
 have f10:frL 1 0=[]:=rfl
 have q3:subO 9 9=some 0:=rfl
 have q4:subO 10 9=some 1:=rfl
 have q5:subO 11 9=some 2:=rfl
 have q6:subO 12 9=some 3:=rfl
 have q7:subO 13 9=some 4:=rfl
 have t0:nA 0 3=some 3:=rfl
 have t1:nA 1 3=some 4:=rfl
 have t2:nA 2 3=some 5:=rfl
 have t3:nA 3 3=some 6:=rfl
 have t4:nA 4 3=some 7:=rfl
 unfold nX
 generalize (p-v) % p=q at ng s2 s3 ⊢
 rcases hc with rfl | rfl | rfl | rfl | rfl | rfl | rfl | rfl | rfl | rfl <;>
  simp [dQ,kd,idxO,sp,ng,r1,r2,r3,r4,r5,r6,r7,r8,r9,s2,s3,u0,u1,u2,f01,f11,f12,f21,f10,q3,q4,q5,q6,q7,t0,t1,t2,t3,t4]
theorem Id_ (a b:Nat):ugL a++frL a b=(List.range (a+b)).map fun q:Nat=>(q:Int):=by
 unfold ugL frL
 rw [List.range_add,List.map_append,List.map_map]
 congr 1
 refine List.map_congr_left fun q _=>?_
 show (q:Int)+a=((a+q:Nat):Int)
 omega
theorem Bq_ {n:Nod} (h:lfB n=true) (h1:n.1≠1) (h2:n.1≠2):rng n.1 3 14=true∧0≤n.2.1:=by
 have hk:=mX h
 refine ⟨rng_true.2 (by omega),?_⟩
 unfold lfB at h
 simp only [Bool.and_eq_true] at h
 have h3:=h.2.2
 rw [if_neg h1] at h3
 split at h3
 · exact (rng_true.1 h3).1
 · have:=of_decide_eq_true h3;omega
theorem Ir_ {p:Int}{n:Nod} (hf:fdB p=true) (h:lfB n=true) (h1:n.1≠1) (h2:n.1≠2) (h8:n.1≠8) (h14:n.1≠14) (hv:n.2.1<p) :
  nM p n=some ((kd n.1).1,(kd n.1).2,eC p ((kd n.1).1.toNat+(kd n.1).2.toNat) (oL n.1 n.2.1)):=by
 have hp:=gC hf
 obtain ⟨hr,h0⟩:=Bq_ h h1 h2
 obtain ⟨k,v,s⟩:=n
 dsimp only at *
 have hM:=lV hp hr h8 h14 ⟨h0,hv⟩
 have hR:=dnRows_ hp hr h8 h14 ⟨h0,hv⟩
 have hG:=D4_ h
 have hL:=Bt_ h
 have eL:aJ (k,v,s)=((kd k).1+(kd k).2,[(k,v,ugL (kd k).1.toNat,frL (kd k).1.toNat (kd k).2.toNat)],ugL (kd k).1.toNat,frL (kd k).1.toNat (kd k).2.toNat):=by
  unfold aJ;dsimp only;rw [if_neg h1,if_neg h2]
 rw [eL] at hG hL
 obtain ⟨a,b,hk,ha,hb⟩:=xR k
 rw [hk] at hM hR hG hL ⊢
 dsimp only [Int.toNat_natCast] at hM hR hG hL ⊢
 have e1:((a:Int)+(b:Int))=((a+b:Nat):Int):=by omega
 rw [e1] at hR hG hL
 have hm:bB=1099511627776:=rfl
 have hD:=A6_ (W:=a+b) (a:=a) (b:=b) (ends:=List.range (a+b)) (eqs:=nX p k v) hf hG.1 (fun e he=>by
  rw [List.mem_singleton.1 he];exact ⟨hv,h8,h14⟩) (ugL_len a) (frL_len a b) (Id_ a b) (fun q hq=>List.mem_range.1 hq) hM.e hM.el
  (bnd (bnd (a:=(k,v,ugL a,frL a b)) rfl (bnd hR (bnd (jB (by have:=hM.el;simp;omega)) rfl))) (by rw [List.nil_append];rfl))
 rw [hM.red hf] at hD
 exact bnd hL (bnd hD rfl)
end Go.Proofs.YtodfjigndedehaaGreatDoor
namespace Go.Proofs.YtodfjigndedehaaGreatDoor
instance (s:ByteArray) (l:List ByteArray):Decidable (s∈l):=decidable_of_iff (l.any (fun a=>decide (a=s))=true) (by simp [List.any_eq_true])
theorem rng_false {x a b:Int}:rng x a b=false↔¬(a≤x∧x≤b):=by
 rw [←rng_true];simp
def ovN (p:Int) (n:Nod):Bool:=!(decide (n.1=7∨n.1=13)&&decide (p≤n.2.1))
def ovB (p:Int) (t:List Nod):Bool:=qD t&&(fdB p&&t.all (ovN p))
theorem Jd_ (k:Int):tN k=some (decide (k=7∨k=13)):=by
 unfold tN
 by_cases h1:k=7
 · simp [h1]
 · by_cases h2:k=13 <;> simp [h1,h2]
theorem Bb_ (p:Int) (t:List Nod):sT p t=some (ovB p t):=by
 obtain ⟨x,h1,_⟩:=lbScan_ t
 unfold ovB
 refine bnd (IH_ h1) ?_
 cases hv:qD t with
 | false=>rfl
 | true=>
  cases hf:fdB p with
  | false=>exact bnd (a:=true) (stp (cFW rfl (bnd (BO_ p) (stp (by rw [hf];rfl))))) rfl
  | true=>
   refine bnd (a:=false) (stp (cFW rfl (bnd (BO_ p) (stp (by rw [hf];rfl))))) (cFW rfl ?_)
   refine sqW (yH (ovN p) t 0 ?_ (t:=false)) ?_
   ·
    intro j n hj
    rw [Nat.zero_add]
    refine bnd (kA hj) ?_
    unfold ovN
    by_cases k7:n.1=7
    · by_cases hp:p≤n.2.1 <;> simp [k7,hp]
    ·
     by_cases k13:n.1=13
     · by_cases hp:p≤n.2.1 <;> simp [k13,hp]
     · simp [k7,k13]
   · cases t.all (ovN p) <;> rfl
theorem isOver_ (p:Int) (t:List Nod):sY t p=some (ovB p t):=by
 unfold ovB
 cases hf:fdB p with
 | false=>
  refine (bnd (a:=true) (bnd (AZ_ p) (stp (by rw [hf];rfl))) rfl:_=some false).trans ?_
  cases qD t <;> rfl
 | true=>
  cases hv:qD t with
  | false=>exact bnd (a:=true) (bnd (AZ_ p) (stp (by rw [hf];exact cFW rfl (bnd (Eb_ t) (stp (by rw [hv];rfl)))))) rfl
  | true=>
   refine bnd (a:=false) (bnd (AZ_ p) (stp (by rw [hf];exact cFW rfl (bnd (Eb_ t) (stp (by rw [hv];rfl)))))) (cFW rfl ?_)
   refine sqW (yH (ovN p) t 0 ?_ (t:=false)) ?_
   ·
    intro j n hj
    rw [Nat.zero_add]
    refine bnd (kA hj) ?_
    have hh:=Jd_ n.1
    unfold ovN
    by_cases k:n.1=7∨n.1=13
    · by_cases hp:p≤n.2.1 <;> simp [hh,k,hp]
    · simp [hh,k]
   · cases t.all (ovN p) <;> rfl
end Go.Proofs.YtodfjigndedehaaGreatDoor
