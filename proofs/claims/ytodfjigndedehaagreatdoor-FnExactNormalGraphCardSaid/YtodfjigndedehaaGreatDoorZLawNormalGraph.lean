/-
  Plain laws: the relations of leaves in both: generators the program's way, crossings, identities. No program in sight. No condition.
-/
import Derived.Test.YtodfjigndedehaaGreatDoorZP44
import Derived.Test.YtodfjigndedehaaGreatDoorZP28
import Derived.Test.YtodfjigndedehaaGreatDoorZP92
namespace Go.Proofs.YtodfjigndedehaaGreatDoor
theorem qU {p:Int}{a b:Nat}{G:Rows} (hf:fdB p=true) (hN:a+b≤1000) (hG:okM p (a+b) G) (hl:G.length≤10000):vK p (a:Int) (b:Int) G=some ((a:Int),(b:Int),eC p (a+b) G):=by
 have hred:=fV hf (Nat.le_refl (a+b)) (by omega) hG (by omega)
 refine bnd (a:=((a+b:Nat):Int)) (by rw [gB (by omega) (by omega)];congr 1) (bnd hred rfl)
def iG (l:Nat) (x:List Int):List Int:=x.drop l++x.take l
def swpE (l r:Nat):List Nat:=(List.range r).map (fun q=>l+q)++List.range l
theorem DM_ (l r:Nat):(swpE l r).length=r+l:=by simp [swpE]
theorem wV {l r:Nat}:∀ q∈swpE l r,q<l+r:=by
 intro q hq
 rcases List.mem_append.1 hq with h | h
 ·
  obtain ⟨t,ht,rfl⟩:=List.mem_map.1 h
  have:=List.mem_range.1 ht;omega
 · have:=List.mem_range.1 h;omega
theorem EN_ {l r:Nat}{x:List Int} (h:x.length=l+r):iG l x=selR (swpE l r) x:=by
 refine zR (by simp [iG,selR,swpE,h]) (fun j hj=>?_)
 have hj2:j<r+l:=by simp [iG] at hj;omega
 rw [zO (by rw [DM_];exact hj2)]
 unfold iG swpE
 have ld:(x.drop l).length=r:=by simp;omega
 rw [el_app2,ld,List.getD_eq_getElem?_getD]
 by_cases c:j<r
 · rw [if_pos c,el_drop2,List.getElem?_append_left (by simpa using c),List.getElem?_map,List.getElem?_range c];rfl
 · rw [if_neg c,A5_ (by omega),List.getElem?_append_right (by simpa using c),List.length_map,List.length_range,List.getElem?_range (by omega)];rfl
theorem Jj_ {p:Int}{l r:Nat}{B:Rows} (hf:fdB p=true) (hN:l+r≤1000) (hB:okM p (l+r) B) (hL:B.length≤1000):oZ p ((l:Int),(r:Int),B)=some ((r:Int),(l:Int),eC p (r+l) (B.map (iG l))):=by
 have hm:bB=1099511627776:=rfl
 have e:sX ((l:Int),(r:Int),B) ((l:Int),(r:Int),B)=some (B.map (iG l)):=by
  refine bnd (uE (iG l) B [] (by simp;omega) (fun j x s hj hs=>?_)) rfl
  have hx:=(hB x (xC hj)).1
  have hjl:=(List.getElem?_eq_some_iff.1 hj).1
  have hjo:=mR (l:=[x.drop l,x.take l]) (by simp;omega)
  refine bnd (kA hj) (bnd (bnd (aW (l:=l) rfl (by omega)) (bnd (wW (l:=l) rfl (by omega)) (bnd hjo rfl))) (bnd (jB (by simp at hs ⊢;omega)) ?_))
  simp [iG]
 have hok:okM p (r+l) (B.map (iG l)):=by
  intro y hy
  obtain ⟨x,hx,rfl⟩:=List.mem_map.1 hy
  obtain ⟨h1,h2⟩:=hB x hx
  refine ⟨by simp [iG];omega,fun z hz=>?_⟩
  rcases List.mem_append.1 hz with h | h
  · exact h2 z (List.mem_of_mem_drop h)
  · exact h2 z (List.mem_of_mem_take h)
 exact bnd e (bnd (qU hf (by omega) hok (by simp;omega)) rfl)
theorem swp_red {p:Int}{l r:Nat}{G:Rows} (hf:fdB p=true) (hG:okM p (l+r) G):eC p (r+l) ((eC p (l+r) G).map (iG l))=eC p (r+l) (G.map (iG l)):=by
 have hR:=rG hf hG
 obtain ⟨s1,s2⟩:=sM hf hG
 have m1:(eC p (l+r) G).map (iG l)=(eC p (l+r) G).map (selR (swpE l r)):=List.map_congr_left fun x hx=>EN_ (hR.ok x hx).1
 have m2:G.map (iG l)=G.map (selR (swpE l r)):=List.map_congr_left fun x hx=>EN_ (hG x hx).1
 rw [m1,m2,← DM_ l r]
 refine CO_ hf (sW wV hR.ok) (sW wV hG) (fun i hi=>?_) (fun i hi=>?_)
 ·
  rw [List.length_map] at hi
  rw [vW hi]
  exact AR_ wV (s1 i hi) (fun j hj=>by rw [zO hj])
 ·
  rw [List.length_map] at hi
  rw [vW hi]
  exact AR_ wV (s2 i hi) (fun j hj=>by rw [zO hj])
theorem Cn_ {k v:Int} (h:k=3∨k=4∨k=5∨k=6∨k=7):sS k v=some (oL k v):=by
 rcases h with rfl | rfl | rfl | rfl | rfl <;> rfl
theorem CQ_ {k:Int} (h:9≤k∧k≤13):yS k=some (k-6):=by
 refine bnd (within_ k 3 8) ?_
 rw [show rng k 3 8=false from rng_false.2 (by omega)]
 refine cFW rfl (bnd (within_ k 9 14) ?_)
 rw [show rng k 9 14=true from rng_true.2 (by omega)]
 refine cTW rfl (bnd (yC (by omega) (by omega)) (bnd (gB (by omega) (by omega)) ?_))
 congr 1;omega
theorem HZ_ {p:Int}{n:Nod} (hf:fdB p=true) (h:lfB n=true) (h1:n.1≠1) (h2:n.1≠2) (h8:n.1≠8) (h14:n.1≠14) (hv:n.2.1<p) :
  iM p n=some ((kd n.1).1,(kd n.1).2,eC p ((kd n.1).1.toNat+(kd n.1).2.toNat) (oL n.1 n.2.1)):=by
 have hp:=gC hf
 obtain ⟨hr,h0⟩:=Bq_ h h1 h2
 obtain ⟨k,v,s⟩:=n
 dsimp only at *
 have hb:=rng_true.1 hr
 have hM:=lV hp hr h8 h14 ⟨h0,hv⟩
 by_cases h9:9≤k
 ·
  have hc:k=9∨k=10∨k=11∨k=12∨k=13:=by omega
  have hr6:rng (k-6) 3 14=true:=rng_true.2 (by omega)
  have hM6:=lV (p:=p) (k:=k-6) (v:=v) hp hr6 (by omega) (by omega) ⟨h0,hv⟩
  have hsw:(kd (k-6)).1=(kd k).2∧(kd (k-6)).2=(kd k).1∧(oL (k-6) v).map (iG (kd k).2.toNat)=oL k v:=by
   rcases hc with rfl | rfl | rfl | rfl | rfl <;> exact ⟨rfl,rfl,rfl⟩
  obtain ⟨a,b,hk,ha,hbb⟩:=xR k
  obtain ⟨w1,w2,w3⟩:=hsw
  rw [hk] at w1 w2 w3 hM ⊢
  dsimp only [Int.toNat_natCast] at w1 w2 w3 hM ⊢
  rw [w1,w2] at hM6
  simp only [Int.toNat_natCast] at hM6
  have hgw:=iT hr6
  have e6:kd (k-6)=((b:Int),(a:Int)):=Prod.ext w1 w2
  rw [e6] at hgw
  have hrel:=qU (a:=b) (b:=a) hf (by omega) hM6.g (by have:=hM6.gl;omega)
  have hR:=rG hf hM6.g
  have hcv:=Jj_ (l:=b) (r:=a) hf (by omega) hR.ok (by have:=mO hf hR;omega)
  rw [swp_red hf hM6.g,w3] at hcv
  refine stp (cFW (dF h1) (stp (cFW (dF h2) (stp (cTW (dT h9) (bnd (CQ_ (by omega)) (bnd hgw (bnd (CQ_ (by omega)) (bnd (Cn_ (by omega)) (bnd hrel (bnd hcv rfl)))))))))))
 ·
  obtain ⟨a,b,hk,ha,hbb⟩:=xR k
  have hgw:=iT hr
  rw [hk] at hM hgw ⊢
  dsimp only [Int.toNat_natCast] at hM ⊢
  have hrel:=qU (a:=a) (b:=b) hf (by omega) hM.g (by have:=hM.gl;omega)
  exact stp (cFW (dF h1) (stp (cFW (dF h2) (stp (cFW (dF h9) (bnd hgw (bnd (Cn_ (by omega)) (bnd hrel rfl))))))))
theorem AS_ (p:Int) (n:Nat) (x:List Int):sH p n [] x:=fun i hi=>by simp at hi
theorem cW (p:Int) (n:Nat):okM p n []:=fun x hx=>by cases hx
def swG:Rows:=[[1,0,0,1],[0,1,1,0]]
theorem BD_ {p:Int} (hp:2≤p):okM p 4 swG:=by
 have b0:(0:Int)≤0∧(0:Int)<p:=⟨by omega,by omega⟩
 have b1:(0:Int)≤1∧(1:Int)<p:=⟨by omega,by omega⟩
 exact okM2 (mE rfl (uC b1 (uC b0 (uC b0 (nE b1))))) (mE rfl (uC b0 (uC b1 (uC b1 (nE b0)))))
theorem j4 {P:Nat→Prop} (h0:P 0) (h1:P 1) (h2:P 2) (h3:P 3):∀ j,j<4→P j:=fun j hj=>by
 match j,hj with
 | 0,_=>exact h0
 | 1,_=>exact h1
 | 2,_=>exact h2
 | 3,_=>exact h3
theorem swap_eq {p:Int} (hf:fdB p=true):eC p 4 ((kG p 2 []).map (selR [0,1,1,0]))=eC p 4 swG:=by
 have hp:=gC hf
 refine Br_ (W:=2) (ends:=[0,1,1,0]) hf (by decide) (cW p 2) (BD_ hp.1) (fun v _=>⟨fun i=>el v i,j4 ?_ ?_ ?_ ?_⟩) (j2 ⟨[1,0],AS_ _ _ _,j4 rfl rfl rfl rfl⟩ ⟨[0,1],AS_ _ _ _,j4 rfl rfl rfl rfl⟩)
 ·
  show _=sg 2 _ % p
  rw [sg2]
  show el v 0 % p=(el v 0*1+el v 1*0) % p
  simp
 ·
  show _=sg 2 _ % p
  rw [sg2]
  show el v 1 % p=(el v 0*0+el v 1*1) % p
  simp
 ·
  show _=sg 2 _ % p
  rw [sg2]
  show el v 1 % p=(el v 0*0+el v 1*1) % p
  simp
 ·
  show _=sg 2 _ % p
  rw [sg2]
  show el v 0 % p=(el v 0*1+el v 1*0) % p
  simp
theorem IL_ {p v:Int}{s:ByteArray} (hf:fdB p=true) (h:lfB (2,v,s)=true):nM p (2,v,s)=some (2,2,eC p 4 swG)∧iM p (2,v,s)=some (2,2,eC p 4 swG):=by
 have hp:=gC hf
 have hm:bB=1099511627776:=rfl
 have hD:=A6_ (p:=p) (W:=2) (a:=2) (b:=2) (E:=[]) (I:=[0,1]) (O:=[1,0]) (ends:=[0,1,1,0]) (eqs:=[]) hf (by decide) (fun e he=>by cases he) rfl rfl rfl (by decide) (cW p 2) (by simp) rfl
 rw [swap_eq hf] at hD
 have hL:=Bt_ h
 have hrel:=qU (a:=2) (b:=2) (G:=swG) hf (by omega) (BD_ hp.1) (by decide)
 exact ⟨bnd hL (bnd hD rfl),stp (cFW rfl (stp (cTW rfl (bnd hrel rfl))))⟩
def idP (n:Nat):Rows:=(List.range n).map fun i=>aE n i++aE n i
theorem idP_gr {n i:Nat} (h:i<n):gr (idP n) i=aE n i++aE n i:=by
 unfold gr idP
 rw [List.getD_eq_getElem?_getD,List.getElem?_map,List.getElem?_range h];rfl
theorem DJ_ (n i:Nat):(aE n i).length=n:=by simp [aE]
theorem yO {n i j:Nat} (hi:i<n) (hj:j<n+n):el (gr (idP n) i) j=if i=(if j<n then j else j-n) then 1 else 0:=by
 rw [idP_gr hi,el_app2,DJ_]
 by_cases c:j<n
 · rw [if_pos c,if_pos c,iL hi]
 · rw [if_neg c,if_neg c,iL hi]
theorem idP_len (n:Nat):(idP n).length=n:=by simp [idP]
theorem E7_ {p:Int} (hp:2≤p) (n:Nat):Red p (n+n) (idP n):=by
 have lead:∀ i,i<n→leadN (gr (idP n) i)=i:=fun i hi=>by
  refine AX_ (fun j hj=>?_) ?_
  · rw [yO hi (by omega),show (if j<n then j else j-n)=j from if_pos (by omega)];exact if_neg (by omega)
  · rw [yO hi (by omega),if_pos hi,if_pos rfl];decide
 refine ⟨fun r hr=>?_,fun i hi=>?_,fun i hi=>?_,fun i j hi hj hne=>?_,fun i j hij hj=>?_⟩
 ·
  obtain ⟨i,hi,rfl⟩:=List.mem_map.1 hr
  exact Bh_ (wU hp n i) (wU hp n i)
 ·
  rw [idP_len] at hi
  rw [lead i hi];omega
 ·
  rw [idP_len] at hi
  rw [lead i hi,yO hi (by omega),if_pos hi,if_pos rfl]
 ·
  rw [idP_len] at hi hj
  rw [lead i hi,yO hj (by omega),if_pos hi,if_neg (fun e=>hne e.symm)]
 ·
  rw [idP_len] at hj
  rw [lead i (by omega),lead j hj];exact hij
def dblE (n:Nat):List Nat:=List.range n++List.range n
theorem Et_ {n j:Nat} (h:j<n+n):(dblE n).getD j 0=if j<n then j else j-n:=by
 unfold dblE
 rw [List.getD_eq_getElem?_getD]
 by_cases c:j<n
 · rw [if_pos c,List.getElem?_append_left (by simpa using c),List.getElem?_range c];rfl
 · rw [if_neg c,List.getElem?_append_right (by simpa using c),List.length_range,List.getElem?_range (by omega)];rfl
theorem sg_unit (n:Nat) (f:Nat→Int){q:Nat} (h:q<n):sg n (fun i=>f i*(if i=q then 1 else 0))=f q:=by
 rw [eI h (fun i _ hne=>by rw [if_neg hne,Int.mul_zero]),if_pos rfl,Int.mul_one]
theorem id_eq {p:Int} (hf:fdB p=true) (n:Nat):eC p (n+n) ((kG p n []).map (selR (dblE n)))=idP n:=by
 have hp:=gC hf
 have hR:=E7_ hp.1 n
 have hl:(dblE n).length=n+n:=by simp [dblE]
 have hlt:∀ q∈dblE n,q<n:=fun q hq=>by
  rcases List.mem_append.1 hq with h | h <;> exact List.mem_range.1 h
 rw [←Dn_ hf hR,← hl]
 have hok:okM p (dblE n).length (idP n):=by rw [hl];exact hR.ok
 refine Br_ hf hlt (cW p n) hok (fun v _=>⟨fun i=>el v i,fun j hj=>?_⟩) (fun i hi=>?_)
 ·
  rw [hl] at hj
  rw [zO (by rw [hl];exact hj),Et_ hj,idP_len,mD (g:=fun i=>el v i*(if i=(if j<n then j else j-n) then 1 else 0)) (fun i hi=>by rw [yO hi hj]),sg_unit n (fun i=>el v i) (by split <;> omega)]
 ·
  rw [idP_len] at hi
  refine ⟨aE n i,AS_ _ _ _,fun j hj=>?_⟩
  rw [hl] at hj
  rw [Et_ hj,yO hi hj,iL hi]
theorem id_both {p:Int}{s:ByteArray}{n:Nat} (hf:fdB p=true) (hn:n≤12) (h:lfB (1,(n:Int),s)=true):nM p (1,(n:Int),s)=some ((n:Int),(n:Int),idP n)∧iM p (1,(n:Int),s)=some ((n:Int),(n:Int),idP n):=by
 have hp:=gC hf
 have hm:bB=1099511627776:=rfl
 have hG:=(D4_ h).1
 have eG:aJ (1,(n:Int),s)=((n:Int),[],ugL n,ugL n):=by unfold aJ;dsimp only;rw [if_pos rfl,Int.toNat_natCast]
 have hL:=Bt_ h
 rw [eG] at hL hG
 have hD:=A6_ (p:=p) (W:=n) (a:=n) (b:=n) (E:=[]) (I:=ugL n) (O:=ugL n) (ends:=dblE n) (eqs:=[]) hf hG (fun e he=>by cases he) (ugL_len n) (ugL_len n) (by unfold dblE ugL;rw [List.map_append]) (fun q hq=>by
  rcases List.mem_append.1 hq with h | h <;> exact List.mem_range.1 h) (cW p n) (by simp) rfl
 rw [id_eq hf] at hD
 refine ⟨bnd hL (bnd hD rfl),stp (cTW rfl (bnd (bnd (nK ⟨by dsimp only;omega,by dsimp only;omega⟩) (bnd (a:=idP n) ?_ rfl)) rfl))⟩
 rw [Int.toNat_natCast]
 have loop:=vC (f:=fun (k8:Nat) (s71:List (List Int))=>
   (qM (n:Int) ((k8:Nat):Int)).bind fun y85=>
   (qM (n:Int) ((k8:Nat):Int)).bind fun y90=>
   (rE [y85,y90]).bind fun y98=>
   (oA s71 [y98]).bind fun a106=>
   some a106) (n:=n) (fun j=>(List.range j).map fun i=>aE n i++aE n i) (fun j hj=>by
  have hjo:=mR (l:=[aE n j,aE n j]) (by simp [DJ_];omega)
  refine bnd (unit_ hj (by omega)) (bnd (unit_ hj (by omega)) (bnd hjo (bnd (jB (by simp;omega)) ?_)))
  rw [List.range_succ,List.map_append];simp)
 exact loop
end Go.Proofs.YtodfjigndedehaaGreatDoor
namespace Go.Proofs.YtodfjigndedehaaGreatDoor
def gI (p:Int) (n:Nod):Rel:=
 if n.1=1 then (n.2.1,n.2.1,idP n.2.1.toNat) else if n.1=2 then (2,2,eC p 4 swG) else ((kd n.1).1,(kd n.1).2,eC p ((kd n.1).1.toNat+(kd n.1).2.toNat) (oL n.1 n.2.1))
def rF (n:Nod):Bool:=decide (n.1≠8∧n.1≠14)
structure RelOk (p:Int) (w:Int×Int) (R:Rel):Prop where
 l:R.1=w.1
 r:R.2.1=w.2
 red:Red p (w.1.toNat+w.2.toNat) R.2.2
theorem BK_ {p:Int}{n:Nod} (hf:fdB p=true) (h:lfB n=true) (ht:rF n=true) (ho:ovN p n=true):RelOk p (lfT n) (gI p n)∧nM p n=some (gI p n)∧iM p n=some (gI p n):=by
 have hp:=gC hf
 have ht:=of_decide_eq_true ht
 by_cases h1:n.1=1
 ·
  have hv:=BJ_ h h1
  obtain ⟨k,v,s⟩:=n
  dsimp only at h1 hv
  subst h1
  obtain ⟨m,rfl⟩:∃ m:Nat,v=(m:Int):=⟨v.toNat,by omega⟩
  have e:gI p (1,(m:Int),s)=((m:Int),(m:Int),idP m):=by unfold gI;dsimp only;rw [if_pos rfl,Int.toNat_natCast]
  rw [e]
  have:=id_both (n:=m) hf (by omega) h
  exact ⟨⟨rfl,rfl,by show Red p ((m:Int).toNat+(m:Int).toNat) _;rw [Int.toNat_natCast];exact E7_ hp.1 m⟩,this.1,this.2⟩
 by_cases h2:n.1=2
 ·
  obtain ⟨k,v,s⟩:=n
  dsimp only at h2
  subst h2
  have:=IL_ hf h
  exact ⟨⟨rfl,rfl,rG (n:=4) hf (BD_ hp.1)⟩,this.1,this.2⟩
 have hg:=Bq_ h h1 h2
 have hv:n.2.1<p:=by
  unfold ovN at ho
  by_cases hs:n.1=7∨n.1=13
  ·
   rw [dT hs,Bool.true_and] at ho
   by_cases hq:p≤n.2.1
   · rw [dT hq] at ho;cases ho
   · omega
  ·
   unfold lfB at h
   simp only [Bool.and_eq_true] at h
   have h3:=h.2.2
   rw [if_neg h1,if_neg hs] at h3
   have:=of_decide_eq_true h3
   omega
 have e:gI p n=((kd n.1).1,(kd n.1).2,eC p ((kd n.1).1.toNat+(kd n.1).2.toNat) (oL n.1 n.2.1)):=by unfold gI;rw [if_neg h1,if_neg h2]
 have eT:lfT n=kd n.1:=by unfold lfT;rw [if_neg h1]
 rw [e,eT]
 exact ⟨⟨rfl,rfl,rG hf (lV hp hg.1 ht.1 ht.2 ⟨hg.2,hv⟩).g⟩,Ir_ hf h h1 h2 ht.1 ht.2 hv,HZ_ hf h h1 h2 ht.1 ht.2 hv⟩
def bJ (p k:Int) (x y:Rel):Rel:=
 if k=15 then (x.1,y.2.1,cmpR p x.1.toNat x.2.1.toNat y.2.1.toNat x.2.2 y.2.2) else (x.1+y.1,x.2.1+y.2.1,tenR p x.1.toNat x.2.1.toNat y.1.toNat y.2.1.toNat x.2.2 y.2.2)
theorem BR_ {p k:Int}{x y:Rel}{u v w:Int×Int} (hf:fdB p=true) (hu:gG u) (hv:gG v) (hx:RelOk p u x) (hy:RelOk p v y) (h:jn k u v=some w) :
  RelOk p w (bJ p k x y)∧(k=15→tP p x y=some (bJ p k x y)∧wP p x y=some (bJ p k x y))∧(k≠15→vP p x y=some (bJ p k x y)∧eQ p x y=some (bJ p k x y)):=by
 have hp:=gC hf
 obtain ⟨u1,u2⟩:=u
 obtain ⟨v1,v2⟩:=v
 obtain ⟨a1,a2,a3,a4⟩:=hu
 obtain ⟨b1,b2,b3,b4⟩:=hv
 obtain ⟨x1,x2,A⟩:=x
 obtain ⟨y1,y2,B⟩:=y
 obtain ⟨e1,e2,rA⟩:=hx
 obtain ⟨e3,e4,rB⟩:=hy
 dsimp only at a1 a2 a3 a4 b1 b2 b3 b4 e1 e2 e3 e4 rA rB
 subst e1 e2 e3 e4
 obtain ⟨l,rfl⟩:∃ l:Nat,x1=(l:Int):=⟨x1.toNat,by omega⟩
 obtain ⟨m,rfl⟩:∃ m:Nat,x2=(m:Int):=⟨x2.toNat,by omega⟩
 obtain ⟨q,rfl⟩:∃ q:Nat,y1=(q:Int):=⟨y1.toNat,by omega⟩
 obtain ⟨r,rfl⟩:∃ r:Nat,y2=(r:Int):=⟨y2.toNat,by omega⟩
 simp only [Int.toNat_natCast] at rA rB
 have lA:=mO hf rA
 have lB:=mO hf rB
 unfold jn at h
 unfold bJ
 simp only [Int.toNat_natCast]
 by_cases hk:k=15
 ·
  rw [if_pos hk] at h ⊢
  split at h
  ·
   rename_i hm
   obtain rfl:=Option.some.inj h
   have hm:(m:Int)=(q:Int):=hm
   obtain rfl:q=m:=by omega
   refine ⟨⟨rfl,rfl,?_⟩,fun _=>⟨Ic_ hf (by omega) (by omega) (by omega) rA.ok rB.ok (by omega) (by omega),Jl_ hf (by omega) (by omega) (by omega) rA.ok rB.ok (by omega) (by omega)⟩,fun h=>(h hk).elim⟩
   show Red p ((l:Int).toNat+(r:Int).toNat) _
   rw [Int.toNat_natCast,Int.toNat_natCast]
   exact rG hf (By_ hf rA.ok rB.ok)
  · cases h
 ·
  rw [if_neg hk] at h ⊢
  split at h
  ·
   obtain rfl:=Option.some.inj h
   have t1:=IT_ hf (l1:=l) (r1:=m) (l2:=q) (r2:=r) (by omega) (by omega) (by omega) (by omega) rA.ok rB.ok (by omega) (by omega)
   have t2:=tensor_ hf (l1:=l) (r1:=m) (l2:=q) (r2:=r) (by omega) (by omega) (by omega) (by omega) rA.ok rB.ok (by omega) (by omega)
   refine ⟨⟨rfl,rfl,?_⟩,fun h=>(hk h).elim,fun _=>⟨t1,t2⟩⟩
   show Red p (((l:Int)+(q:Int)).toNat+((m:Int)+(r:Int)).toNat) _
   rw [show ((l:Int)+(q:Int)).toNat=l+q by omega,show ((m:Int)+(r:Int)).toNat=m+r by omega]
   exact rG hf (Bc_ hp.1 rA.ok rB.ok)
  · cases h
def tH (p:Int):Tr→Rel
 | .leaf n=>gI p n
 | .node k a b=>bJ p k (tH p a) (tH p b)
def okT (p:Int) (T:Tr):Prop:=∀ n∈flat T,rF n=true∧ovN p n=true
theorem cK:∀ {T:Tr}{w:Int×Int},qF T=some w→gG w
 | .leaf n,w,h=>by obtain ⟨h1,rfl⟩:=zU h;exact FM_ h1
 | .node k a b,w,h=>by
  obtain ⟨_,x,y,h1,h2,h3⟩:=yU h
  exact jn_ok (cK h1) (cK h2) h3
theorem xM {p:Int} (hf:fdB p=true):∀ {T:Tr}{w:Int×Int},qF T=some w→okT p T→RelOk p w (tH p T)
 | .leaf n,w,h,ho=>by
  obtain ⟨h1,rfl⟩:=zU h
  have:=ho n (by simp [flat])
  exact (BK_ hf h1 this.1 this.2).1
 | .node k a b,w,h,ho=>by
  obtain ⟨_,x,y,h1,h2,h3⟩:=yU h
  exact (BR_ hf (cK h1) (cK h2) (xM hf h1 (fun n hn=>ho n (by simp [flat,hn]))) (xM hf h2 (fun n hn=>ho n (by simp [flat,hn]))) h3).1
end Go.Proofs.YtodfjigndedehaaGreatDoor
namespace Go.Proofs.YtodfjigndedehaaGreatDoor
def vG (T:Tr):Bool:=(flat T).all rF
def noR:Rel:=(0,0,[])
noncomputable def gS (p:Int) (t:List Nod) (k11:Nat) (s299:List Rel):Option (List Rel):=
   (idxO t ((k11:Nat):Int)).bind fun a315=>
   (subO ((s299.length:Nat):Int) 1).bind fun a323=>
   (some (decide (a315.1=15))).bind fun a325=>
   cond a325
   ((subO a323 1).bind fun a401=>
    (subO a323 1).bind fun a403=>
    (idxO s299 a403).bind fun a411=>
    (idxO s299 a323).bind fun a423=>
    (iB s299 0 a401).bind fun a429=>
    (wP p (a411.1,a411.2.1,a411.2.2) (a423.1,a423.2.1,a423.2.2)).bind fun y433=>
    (oA a429 [(y433.1,y433.2.1,y433.2.2)]).bind fun a445=>
    some a445)
   ((some (decide (a315.1=16))).bind fun a328=>
    cond a328
    ((subO a323 1).bind fun a350=>
     (subO a323 1).bind fun a352=>
     (idxO s299 a352).bind fun a360=>
     (idxO s299 a323).bind fun a372=>
     (iB s299 0 a350).bind fun a378=>
     (eQ p (a360.1,a360.2.1,a360.2.2) (a372.1,a372.2.1,a372.2.2)).bind fun y382=>
     (oA a378 [(y382.1,y382.2.1,y382.2.2)]).bind fun a394=>
     some a394)
    ((iM p (a315.1,a315.2.1,a315.2.2)).bind fun y331=>
     (oA s299 [(y331.1,y331.2.1,y331.2.2)]).bind fun a343=>
     some a343))
theorem top2 {s:List Rel}{x y:Rel} (hs:s.length≤1000):(s++[x]++[y]).length=s.length+2∧subO (((s++[x]++[y]).length:Nat):Int) 1=some ((s.length+1:Nat):Int)∧subO ((s.length+1:Nat):Int) 1=some ((s.length:Nat):Int) ∧
  subO (((s++[x]++[y]).length:Nat):Int) 2=some ((s.length:Nat):Int)∧idxO (s++[x]++[y]) ((s.length:Nat):Int)=some x∧idxO (s++[x]++[y]) ((s.length+1:Nat):Int)=some y∧iB (s++[x]++[y]) 0 ((s.length:Nat):Int)=some s:=by
 have hlen:(s++[x]++[y]).length=s.length+2:=by simp
 refine ⟨hlen,by rw [hlen,yC (by omega) (by omega)];congr 1;omega,by rw [yC (by omega) (by omega)];congr 1;omega,by rw [hlen,yC (by omega) (by omega)];congr 1;omega,?_,?_,?_⟩
 · rw [idxO_nat,List.append_assoc,List.getElem?_append_right (Nat.le_refl _),Nat.sub_self];rfl
 · rw [idxO_nat,List.append_assoc,List.getElem?_append_right (by omega),Nat.add_sub_cancel_left];rfl
 ·
  unfold iB;rw [if_pos ⟨by omega,by omega,by rw [hlen];omega⟩,List.append_assoc]
  simp
theorem Iw_ {p:Int}{t:List Nod}{j:Nat}{n:Nod}{s:List Rel} (hf:fdB p=true) (ht:t[j]?=some n) (hn:lfB n=true) (h1:rF n=true) (h2:ovN p n=true) (hs:s.length≤1000):gS p t j s=some (s++[gI p n]):=by
 have hm:bB=1099511627776:=rfl
 have hk:=mX hn
 exact bnd (kA ht) (bnd (yC (by omega) (by omega)) (stp (cFW (dF (by omega)) (stp (cFW (dF (by omega)) (bnd (BK_ hf hn h1 h2).2.2 (bnd (jB (by simp;omega)) rfl)))))))
theorem Iv_ {p:Int}{t:List Nod}{j:Nat}{k:Int}{s:List Rel}{x y:Rel}{u v w:Int×Int} (hf:fdB p=true) (ht:t[j]?=some (k,0,.empty)) (hk:k=15∨k=16) (hs:s.length≤1000) (hu:gG u) (hv:gG v) (hx:RelOk p u x) (hy:RelOk p v y) (h:jn k u v=some w) :
  gS p t j (s++[x]++[y])=some (s++[bJ p k x y]):=by
 have hm:bB=1099511627776:=rfl
 obtain ⟨q1,q2,q3,_,q5,q6,q7⟩:=top2 (s:=s) (x:=x) (y:=y) hs
 obtain ⟨_,c1,c2⟩:=BR_ hf hu hv hx hy h
 refine bnd (kA ht) (bnd q2 ?_)
 by_cases h15:k=15
 · exact stp (cTW (dT h15) (bnd q3 (bnd q3 (bnd q5 (bnd q6 (bnd q7 (bnd (c1 h15).2 (bnd (jB (by simp;omega)) rfl))))))))
 · exact stp (cFW (dF h15) (stp (cTW (dT (by dsimp only;omega)) (bnd q3 (bnd q3 (bnd q5 (bnd q6 (bnd q7 (bnd (c2 h15).2 (bnd (jB (by simp;omega)) rfl))))))))))
theorem C6_ {σ:Type}{f:Nat→σ→Option σ}{n k:Nat}{s s':σ} (h:f k s=some s'):forS f (n+1) k s=forS f n (k+1) s':=by
 show (f k s).bind _=_
 rw [h];rfl
theorem A7_ {p:Int} (hf:fdB p=true){t:List Nod} (ht:t.length≤400):∀ {T:Tr}{w:Int×Int},qF T=some w→okT p T→∀ (pre q:List Nod) (r:List Rel),t=pre++(flat T++q)→r.length≤pre.length →
  forS (gS p t) ((flat T).length+q.length) pre.length r=forS (gS p t) q.length (pre.length+(flat T).length) (r++[tH p T])
 | .leaf n,w,h,ho,pre,q,r,e,hr=>by
  obtain ⟨h1,rfl⟩:=zU h
  have hlt:pre.length<t.length:=by rw [e];simp [flat]
  have hn:t[pre.length]?=some n:=by rw [e,List.getElem?_append_right (Nat.le_refl _),Nat.sub_self];rfl
  have h2:=ho n (by simp [flat])
  rw [show (flat (.leaf n)).length+q.length=q.length+1 by simp [flat];omega,C6_ (Iw_ hf hn h1 h2.1 h2.2 (by omega))]
  rfl
 | .node k a b,w,h,ho,pre,q,r,e,hr=>by
  obtain ⟨hk,x,y,h1,h2,h3⟩:=yU h
  have oa:okT p a:=fun n hn=>ho n (by simp [flat,hn])
  have ob:okT p b:=fun n hn=>ho n (by simp [flat,hn])
  have hlen:(flat (.node k a b)).length=(flat a).length+(flat b).length+1:=by simp [flat];omega
  have htl:t.length=pre.length+((flat a).length+(flat b).length+1+q.length):=by rw [e,List.length_append,List.length_append,hlen]
  have ea:t=pre++(flat a++(flat b++([((k,(0:Int),ByteArray.empty):Nod)]++q))):=by rw [e];simp [flat]
  have eb:t=(pre++flat a)++(flat b++([((k,(0:Int),ByteArray.empty):Nod)]++q)):=by rw [ea];simp
  have hpa:=kL a
  have la:=A7_ hf ht h1 oa pre (flat b++([((k,(0:Int),ByteArray.empty):Nod)]++q)) r ea hr
  have lb:=A7_ hf ht h2 ob (pre++flat a) ([((k,(0:Int),ByteArray.empty):Nod)]++q) (r++[tH p a]) eb (by simp;omega)
  rw [show (pre++flat a).length=pre.length+(flat a).length from List.length_append] at lb
  rw [show (flat (.node k a b)).length+q.length=(flat a).length+(flat b++([((k,(0:Int),ByteArray.empty):Nod)]++q)).length by rw [hlen];simp;omega,la,
   show (flat b++([((k,(0:Int),ByteArray.empty):Nod)]++q)).length=(flat b).length+([((k,(0:Int),ByteArray.empty):Nod)]++q).length from List.length_append,lb]
  have hn:t[pre.length+(flat a).length+(flat b).length]?=some (k,0,.empty):=by
   rw [show t=(pre++flat a++flat b)++([((k,(0:Int),ByteArray.empty):Nod)]++q) by rw [ea];simp,List.getElem?_append_right (by simp;omega)]
   simp [Nat.add_assoc]
  have st:=Iv_ (s:=r) hf hn hk (by omega) (cK h1) (cK h2) (xM hf h1 oa) (xM hf h2 ob) h3
  rw [show ([((k,(0:Int),ByteArray.empty):Nod)]++q).length=q.length+1 by simp,C6_ st,hlen,show pre.length+((flat a).length+(flat b).length+1)=pre.length+(flat a).length+(flat b).length+1 by omega]
  rfl
theorem denote_ {p:Int} (hf:fdB p=true){T:Tr}{w:Int×Int} (h:qF T=some w) (ho:okT p T) (hl:(flat T).length≤400):fQ p (flat T)=some (tH p T):=by
 have loop:=A7_ hf hl h ho [] [] [] (by simp) (by simp)
 rw [List.length_nil,Nat.add_zero,Nat.zero_add,List.nil_append] at loop
 have e:fQ p (flat T)=(forS (gS p (flat T)) (flat T).length 0 []).bind fun s452=>(idxO s452 0).bind fun a461=>some (a461.1,a461.2.1,a461.2.2):=rfl
 rw [e,loop];rfl
noncomputable def fX (p:Int) (t:List Nod) (k14:Nat) (s16808:List Rel):Option (List Rel⊕(Rel×Bool)):=
    pC ((idxO t ((k14:Nat):Int)).bind fun a20937=>
     (uK a20937.1).bind fun y20945=>
     (some (!y20945)).bind fun a20948=>
     cond a20948
     (some (.inr (.inr ((0,0,[]),false))))
     (((some (!decide (a20937.1=15))).bind fun a20963=>
       cond a20963
       ((some (!decide (a20937.1=16))).bind fun a20967=>
        some a20967)
       (some false)).bind fun (s20957:Bool)=>
      cond s20957
      ((nM p (a20937.1,a20937.2.1,a20937.2.2)).bind fun y25017=>
       (oA s16808 [(y25017.1,y25017.2.1,y25017.2.2)]).bind fun a25029=>
       some (.inl a25029))
      (((subO ((s16808.length:Nat):Int) 2).bind fun a22977=>
        (idxO s16808 a22977).bind fun a23019=>
        (subO ((s16808.length:Nat):Int) 1).bind fun a22979=>
        (idxO s16808 a22979).bind fun a23071=>
        some (a23071.1,a23071.2.1,a23071.2.2,a23019.1,a23019.2.1,a23019.2.2)).bind fun (s22966:Int×Int×List (List Int)×Int×Int×List (List Int))=>
       (subO ((s16808.length:Nat):Int) 2).bind fun a24972=>
       (iB s16808 0 a24972).bind fun a24974=>
       (some (decide (a20937.1=15))).bind fun a24978=>
       cond a24978
       ((tP p (s22966.2.2.2.1,s22966.2.2.2.2.1,s22966.2.2.2.2.2) (s22966.1,s22966.2.1,s22966.2.2.1)).bind fun y24999=>
        (oA a24974 [(y24999.1,y24999.2.1,y24999.2.2)]).bind fun a25011=>
        some (.inl a25011))
       ((vP p (s22966.2.2.2.1,s22966.2.2.2.2.1,s22966.2.2.2.2.2) (s22966.1,s22966.2.1,s22966.2.2.1)).bind fun y24981=>
        (oA a24974 [(y24981.1,y24981.2.1,y24981.2.2)]).bind fun a24993=>
        some (.inl a24993))))) fun (s20924:List (Int×Int×List (List Int)))=>
    some (.inl s20924)
theorem Ib_ {p:Int}{t:List Nod}{j:Nat}{n:Nod}{s:List Rel} (hf:fdB p=true) (ht:t[j]?=some n) (hn:lfB n=true) (h2:ovN p n=true) (hs:s.length≤1000):fX p t j s=if rF n=true then some (.inl (s++[gI p n])) else some (.inr (noR,false)):=by
 have hm:bB=1099511627776:=rfl
 have hk:=mX hn
 have hT:uK n.1=some (rF n):=AC_ n.1
 cases h1:rF n with
 | false=>
  rw [h1] at hT
  exact sqW (r:=some (.inr (.inr (noR,false)))) (bnd (kA ht) (bnd hT rfl)) rfl
 | true=>
  rw [h1] at hT
  rw [if_pos rfl]
  refine sqW (r:=some (.inl (s++[gI p n]))) (bnd (kA ht) (bnd hT (stp (cFW rfl (bnd (a:=true) (stp (cTW (nF (dF (by omega))) (stp (congrArg some (nF (dF (by omega))))))) (cTW rfl (bnd (BK_ hf hn h1 h2).2.1 (bnd (jB (by simp;omega)) rfl)))))))) rfl
theorem Ia_ {p:Int}{t:List Nod}{j:Nat}{k:Int}{s:List Rel}{x y:Rel}{u v w:Int×Int} (hf:fdB p=true) (ht:t[j]?=some (k,0,.empty)) (hk:k=15∨k=16) (hs:s.length≤1000) (hu:gG u) (hv:gG v) (hx:RelOk p u x) (hy:RelOk p v y) (h:jn k u v=some w) :
  fX p t j (s++[x]++[y])=some (.inl (s++[bJ p k x y])):=by
 have hm:bB=1099511627776:=rfl
 obtain ⟨q1,q2,q3,q4,q5,q6,q7⟩:=top2 (s:=s) (x:=x) (y:=y) hs
 obtain ⟨_,c1,c2⟩:=BR_ hf hu hv hx hy h
 have hT:uK k=some true:=by rw [AC_,dT (by omega)]
 have hc:((some (!decide (k=15))).bind fun a20963=>cond a20963 ((some (!decide (k=16))).bind fun a20967=>some a20967) (some false))=some false:=by
  rcases hk with rfl | rfl <;> rfl
 refine sqW (r:=some (.inl (s++[bJ p k x y]))) (bnd (kA ht) (bnd hT (stp (cFW rfl (bnd hc (cFW rfl (bnd (bnd q4 (bnd q5 (bnd q2 (bnd q6 rfl)))) (bnd q4 (bnd q7 ?_))))))))) rfl
 by_cases h15:k=15
 · exact stp (cTW (dT h15) (bnd (c1 h15).1 (bnd (jB (by simp;omega)) rfl)))
 · exact stp (cFW (dF h15) (bnd (c2 h15).1 (bnd (jB (by simp;omega)) rfl)))
def ovT (p:Int) (T:Tr):Prop:=∀ n∈flat T,ovN p n=true
theorem IG_ (k:Int) (a b:Tr) (hk:k=15∨k=16):vG (.node k a b)=(vG a&&vG b):=by
 have:rF (k,0,.empty)=true:=dT (by dsimp only;omega)
 unfold vG
 simp [flat,List.all_append,this]
theorem FK_ {p:Int}{T:Tr} (h1:vG T=true) (h2:ovT p T):okT p T:=fun n hn=>⟨List.all_eq_true.1 h1 n hn,h2 n hn⟩
theorem AF_ {p:Int} (hf:fdB p=true){t:List Nod} (ht:t.length≤400):∀ {T:Tr}{w:Int×Int},qF T=some w→ovT p T→∀ (pre q:List Nod) (r:List Rel),t=pre++(flat T++q)→r.length≤pre.length →
  zC (fX p t) ((flat T).length+q.length) pre.length r=if vG T=true then zC (fX p t) q.length (pre.length+(flat T).length) (r++[tH p T]) else some (.inr (noR,false))
 | .leaf n,w,h,ho,pre,q,r,e,hr=>by
  obtain ⟨h1,rfl⟩:=zU h
  have hlt:pre.length<t.length:=by rw [e];simp [flat]
  have hn:t[pre.length]?=some n:=by rw [e,List.getElem?_append_right (Nat.le_refl _),Nat.sub_self];rfl
  have st:=Ib_ (s:=r) hf hn h1 (ho n (by simp [flat])) (by omega)
  have e1:vG (.leaf n)=rF n:=by simp [vG,flat]
  rw [e1,show (flat (.leaf n)).length+q.length=q.length+1 by simp [flat];omega]
  cases hb:rF n with
  | true=>
   rw [hb,if_pos rfl] at st
   rw [if_pos rfl,C7_ st];rfl
  | false=>
   rw [hb] at st
   rw [if_neg (by simp),Iq_ (st.trans (if_neg (by simp)))]
 | .node k a b,w,h,ho,pre,q,r,e,hr=>by
  obtain ⟨hk,x,y,h1,h2,h3⟩:=yU h
  have oa:ovT p a:=fun n hn=>ho n (by simp [flat,hn])
  have ob:ovT p b:=fun n hn=>ho n (by simp [flat,hn])
  have hlen:(flat (.node k a b)).length=(flat a).length+(flat b).length+1:=by simp [flat];omega
  have htl:t.length=pre.length+((flat a).length+(flat b).length+1+q.length):=by rw [e,List.length_append,List.length_append,hlen]
  have ea:t=pre++(flat a++(flat b++([((k,(0:Int),ByteArray.empty):Nod)]++q))):=by rw [e];simp [flat]
  have eb:t=(pre++flat a)++(flat b++([((k,(0:Int),ByteArray.empty):Nod)]++q)):=by rw [ea];simp
  have hpa:=kL a
  have la:=AF_ hf ht h1 oa pre (flat b++([((k,(0:Int),ByteArray.empty):Nod)]++q)) r ea hr
  rw [show (flat (.node k a b)).length+q.length=(flat a).length+(flat b++([((k,(0:Int),ByteArray.empty):Nod)]++q)).length by rw [hlen];simp;omega,la,IG_ k a b hk]
  cases ma:vG a with
  | false=>simp
  | true=>
   have e4:∀ {α:Type} (u v:α),(if true=true then u else v)=u:=fun u v=>if_pos rfl
   have lb:=AF_ hf ht h2 ob (pre++flat a) ([((k,(0:Int),ByteArray.empty):Nod)]++q) (r++[tH p a]) eb (by simp;omega)
   rw [show (pre++flat a).length=pre.length+(flat a).length from List.length_append] at lb
   rw [e4,show (flat b++([((k,(0:Int),ByteArray.empty):Nod)]++q)).length=(flat b).length+([((k,(0:Int),ByteArray.empty):Nod)]++q).length from List.length_append,lb]
   cases mb:vG b with
   | false=>simp
   | true=>
    have hn:t[pre.length+(flat a).length+(flat b).length]?=some (k,0,.empty):=by
     rw [show t=(pre++flat a++flat b)++([((k,(0:Int),ByteArray.empty):Nod)]++q) by rw [ea];simp,List.getElem?_append_right (by simp;omega)]
     simp [Nat.add_assoc]
    have st:=Ia_ (s:=r) hf hn hk (by omega) (cK h1) (cK h2) (xM hf h1 (FK_ ma oa)) (xM hf h2 (FK_ mb ob)) h3
    have e5:(true&&true)=true:=rfl
    rw [e4,e5,e4,show ([((k,(0:Int),ByteArray.empty):Nod)]++q).length=q.length+1 by simp,C7_ st,hlen,show pre.length+((flat a).length+(flat b).length+1)=pre.length+(flat a).length+(flat b).length+1 by omega]
    rfl
def xL (p:Int) (t:List Nod):Bool:=ovB p t&&t.all rF
open Classical in
noncomputable def denV (p:Int) (t:List Nod):Rel:=if h:qD t=true then tH p (Classical.choose (CN_ h)) else noR
theorem Fs_ {p:Int}{t:List Nod} (h:qD t=true):∃ T w,t=flat T∧qF T=some w∧t.length≤400∧denV p t=tH p T:=by
 obtain ⟨w,h1,h2,h3⟩:=Classical.choose_spec (CN_ h)
 exact ⟨_,w,h1,h2,h3,by unfold denV;rw [dif_pos h]⟩
theorem D1_ {p:Int}{t:List Nod} (h:ovB p t=true):qD t=true∧fdB p=true∧∀ n∈t,ovN p n=true:=by
 unfold ovB at h
 simp only [Bool.and_eq_true] at h
 exact ⟨h.1,h.2.1,fun n hn=>List.all_eq_true.1 h.2.2 n hn⟩
theorem Fr_ (p:Int) (t:List Nod):Ab_ p t=some (if xL p t=true then (denV p t,true) else (noR,false)):=by
 refine bnd (Bb_ p t) (stp ?_)
 unfold xL
 cases ho:ovB p t with
 | false=>rfl
 | true=>
  obtain ⟨hv,hf,hn⟩:=D1_ ho
  obtain ⟨T,w,rfl,h2,h3,h4⟩:=Fs_ (p:=p) hv
  rw [h4]
  have loop:=AF_ hf h3 h2 hn [] [] [] (by simp) (by simp)
  rw [List.length_nil,Nat.add_zero,Nat.zero_add,List.nil_append] at loop
  refine cFW rfl (sqW (r:=if vG T=true then some (.inl [tH p T]) else some (.inr (noR,false))) (loop.trans ?_) ?_)
  · cases vG T <;> rfl
  ·
   rw [Bool.true_and]
   show _=some (if vG T=true then (tH p T,true) else (noR,false))
   cases vG T <;> rfl
end Go.Proofs.YtodfjigndedehaaGreatDoor
namespace Go.Proofs.YtodfjigndedehaaGreatDoor
theorem Dv_ (p:Int) (t:List Nod):kY t p=some (xL p t):=by
 refine bnd (isOver_ p t) (stp ?_)
 unfold xL
 cases ovB p t with
 | false=>rfl
 | true=>
  refine cFW rfl (sqW (yH rF t 0 (t:=false) (fun j n hj=>?_)) ?_)
  ·
   rw [Nat.zero_add]
   have hd:oT n.1=some (!rF n):=by
    unfold oT rF
    by_cases h1:n.1=8
    · simp [h1]
    · by_cases h2:n.1=14 <;> simp [h1,h2]
   refine bnd (kA hj) (bnd hd ?_)
   cases rF n <;> rfl
  · cases t.all rF <;> rfl
theorem H7_ {p:Int}{t:List Nod} (h:xL p t=true):fdB p=true∧∃ l r:Nat,l≤12∧r≤12∧RlOk p l r (denV p t)∧fQ p t=some (denV p t):=by
 unfold xL at h
 rw [Bool.and_eq_true] at h
 obtain ⟨hv,hf,hn⟩:=D1_ h.1
 obtain ⟨T,w,rfl,h2,h3,h4⟩:=Fs_ (p:=p) hv
 have ho:okT p T:=fun n hm=>⟨List.all_eq_true.1 h.2 n hm,hn n hm⟩
 have hd:=xM hf h2 ho
 obtain ⟨a1,a2,a3,a4⟩:=cK h2
 rw [h4]
 have hl:=mO hf hd.red
 exact ⟨hf,w.1.toNat,w.2.toNat,by omega,by omega,⟨hf,by rw [hd.l];omega,by rw [hd.r];omega,by omega,hd.red,hl⟩,denote_ hf h2 ho h3⟩
end Go.Proofs.YtodfjigndedehaaGreatDoor
namespace Go.Proofs.YtodfjigndedehaaGreatDoor
set_option linter.unusedVariables false
theorem zS (p:Int) (t:List Nod):∃ G,wS p t=some G∧qP p t=some G∧yF G.1≤1048576:=by
 cases hs:xL p t with
 | false=>
  refine ⟨(noG,false),?_,bnd (Dv_ p t) (stp (cTW (nF hs) rfl)),by decide⟩
  refine bnd (Bb_ p t) (stp ?_)
  cases ho:ovB p t with
  | false=>rfl
  | true=>
   refine cFW rfl (bnd (Fr_ p t) (stp ?_))
   rw [hs];rfl
 | true=>
  obtain ⟨hf,l,r,hl,hr,hR,hd⟩:=H7_ hs
  obtain ⟨G,g1,g2,g3⟩:=Hq_ hR hl hr
  have ho:ovB p t=true:=by
   unfold xL at hs
   rw [Bool.and_eq_true] at hs
   exact hs.1
  refine ⟨G,bnd (Bb_ p t) (stp (cFW (nT ho) (bnd (Fr_ p t) (stp ?_)))),bnd (Dv_ p t) (stp (cFW (nT hs) (bnd hd (bnd g2 rfl)))),g3⟩
  rw [hs]
  exact cFW rfl (bnd g1 rfl)
noncomputable def xK (p:Int) (t:List Nod):Gra×Bool:=(zS p t).choose
theorem Ce_ (p:Int) (t:List Nod):wS p t=some (xK p t):=(zS p t).choose_spec.1
theorem jZ (p:Int) (t:List Nod):qP p t=some (xK p t):=(zS p t).choose_spec.2.1
theorem GB_ (p:Int) (t:List Nod):yF (xK p t).1≤1048576:=(zS p t).choose_spec.2.2
end Go.Proofs.YtodfjigndedehaaGreatDoor
namespace Go.Proofs.YtodfjigndedehaaGreatDoor
set_option linter.unusedVariables false
abbrev qH:=Int×Int×ByteArray
def nNode (a:qH):Nat:=a.2.2.size
def nV (a:qH):Prop:=(a.2.2.size:Int)≤9223372036854775807
theorem z_Node (a:qH) (left:Int) (h0:0≤left) (h1:left≤lG) (hl:nV a):Af_ a left=some (if (nNode a:Int)≤left then left-nNode a else -1):=by
 unfold lG at h1
 have l0:=hl
 unfold nV at l0
 unfold nNode
 refine bnd (yC (by omega) (by omega)) (stp ?_)
 by_cases g0:(a.2.2.size:Int)≤left
 case neg=>
  rw [if_neg (by omega)]
  exact cTW (dT (by omega)) rfl
 rw [if_pos (by omega)]
 refine cFW (dF (by omega)) ?_
 congr 1;try omega
theorem HN_ {a:qH} (h:Nice.ok a):nV a:=by
 obtain ⟨h0,h1,h2⟩:=h
 exact h2
theorem t_Node (a:qH) (h:nNode a≤1048576):Ad_ a=some a:=by
 unfold nNode at h
 exact rfl
theorem e_Node (a:qH) (h:nNode a≤1048576):Ah_ a a=some true:=by
 unfold nNode at h
 exact stp (cFW (nT (dT rfl)) (stp (cFW (nT (dT rfl)) (stp (cFW (nT (dT rfl)) (rfl))))))
abbrev nH:=List qH
def nNodeS (a:nH):Nat:=a.length+tot nNode a
def AI_ (a:nH):Prop:=fS a∧∀ x∈a,nV x
theorem z_NodeS (a:nH) (left:Int) (h0:0≤left) (h1:left≤lG) (hl:AI_ a):tZ a left=some (if (nNodeS a:Int)≤left then left-nNodeS a else -1):=by
 have hl1:=hl.1;unfold fS at hl1;unfold lG at h1
 unfold nNodeS
 refine bnd (yC (by omega) (by omega)) (stp ?_)
 by_cases h:(a.length:Int)≤left
 ·
  refine cFW (dF (by omega)) (sqW (EM_ nNode a (left-a.length) ?_ ?_ a [] _ rfl ?_ (Int.le_refl _)) ?_)
  ·
   intro j r s hj hjl hs hsB
   dsimp only
   refine stp (cTW (dT (by omega)) (bnd (kA hj) (bnd (z_Node r s hs (by unfold lG;omega) (hl.2 r (xC hj))) (stp ?_))))
   by_cases h2:(nNode r:Int)≤s
   · rw [if_pos h2,if_pos h2];exact cFW (dF (by omega)) (bnd (gB (by omega) (by omega)) rfl)
   · rw [if_neg h2,if_neg h2];exact cTW (dT (by omega)) rfl
  · intro s;dsimp only;exact stp (cFW (dF (by omega)) rfl)
  · omega
  ·
   by_cases h2:(tot nNode a:Int)≤left-a.length
   · rw [if_pos h2,if_pos (by omega),vI];congr 1;omega
   · rw [if_neg h2,if_neg (by omega),BE_]
 · rw [if_neg (by omega)];exact cTW (dT (by omega)) rfl
theorem Hs_ {a:nH} (h:Nice.ok a):AI_ a:=⟨h.1,fun x hx=>HN_ (h.2 x hx)⟩
theorem t_NodeS (a:nH) (h:nNodeS a≤1048576):sZ a=some a:=by
 have hm:bB=1099511627776:=rfl
 unfold nNodeS at h
 refine bnd (sG _ (by omega)) (bnd (EJ_ _ a ?_ ?_ a [] rfl) rfl)
 ·
  intro j x s hj hjl hs
  dsimp only
  exact stp (cTW (dT (by omega)) (bnd (kA hj) (bnd (t_Node x (by have:=Ba_ (n:=nNode) (xC hj);omega)) (bnd (lC _ (by omega)) (bnd (gB (by omega) (by omega)) rfl)))))
 · intro s hs;dsimp only;exact stp (cFW (dF (by omega)) rfl)
theorem e_NodeS (a:nH) (h:nNodeS a≤1048576):uZ a a=some true:=by
 unfold nNodeS at h
 refine stp (cFW (nT (dT rfl)) (sqW (fL (fun j=>(j:Int)) (t:=.inl ()) a.length ?_ ?_) ?_))
 ·
  intro j hj
  exact stp (cTW (dT (by omega)) (bnd (kA (List.getElem?_eq_getElem hj)) (bnd (kA (List.getElem?_eq_getElem hj)) (bnd (e_Node a[j] (by have:=Ba_ (n:=nNode) (List.getElem_mem hj);omega)) (stp (cFW rfl (bnd (gB (by omega) (by omega)) rfl)))))))
 · exact stp (cFW (dF (by omega)) rfl)
 · rfl
def cR (x:qH) (q:Int):qH×Int:=((q,(q+1),mText ((q+1)+1)),(((q+1)+1)+1))
def yM (x:qH):Nat:=3
theorem CG_ (x:qH) (q:Int):(cR x q).2=q+yM x:=by
 unfold cR yM
 dsimp only
 omega
theorem C9_ (x:qH):yM x≤8*(1+nNode x):=by
 unfold yM nNode
 omega
def kV:nH→Int→nH×Int:=mkL cR
def BS_ (a:nH):Nat:=tot yM a
theorem DC_ (a:nH):BS_ a≤8*nNodeS a:=by
 have:=FC_ C9_ a
 rw [wR] at this
 exact this
theorem HO_ (a:nH) (k:Int):(kV a k).2=k+BS_ a:=eW cR yM CG_ a k
theorem m_NodeS (a:nH) (k:Int) (h0:0≤k) (h:k+8*nNodeS a≤1125899906842624):dZ a k=some (kV a k):=by
 have hsum:=wR nNode a
 unfold nNodeS at h
 refine bnd (Ax_ cR yM (fun x=>8*(1+nNode x)) CG_ C9_ a.length 1125899906842624 ?_ ?_ a [] k (by simp) h0 (by rw [hsum];omega)) rfl
 ·
  intro j x s q hj hs hjl hq hB
  dsimp only at hB ⊢
  unfold nNode at hB
  refine stp (cTW (dT (by omega)) ?_)
  refine bnd (kA hj) ?_
  refine bnd (lC _ (by omega)) ?_
  refine bnd (gB (by omega) (by omega)) ?_
  refine bnd (kA (a:=(q,x.2.1,x.2.2)) (by rw [List.getElem?_set_self (by omega)])) ?_
  refine bnd (lC _ (by simp only [List.length_set];omega)) ?_
  refine bnd (gB (by omega) (by omega)) ?_
  refine bnd (I6_ _ (by omega) (by omega)) ?_
  refine bnd (kA (a:=(q,(q+1),x.2.2)) (by rw [List.getElem?_set_self (by simp only [List.length_set];omega)])) ?_
  refine bnd (lC _ (by simp only [List.length_set];omega)) ?_
  refine bnd (gB (by omega) (by omega)) ?_
  refine bnd (gB (by omega) (by omega)) ?_
  simp only [List.set_set];rfl
 · intro s q hs;dsimp only;exact stp (cFW (dF (by omega)) rfl)
abbrev cH:=List (Int×Int×ByteArray)
def nTerm (a:cH):Nat:=nNodeS a
def AW_ (a:cH):Prop:=AI_ a
theorem z_Term (a:cH) (left:Int) (h0:0≤left) (h1:left≤lG) (hl:AW_ a):Ae_ a left=some (if (nTerm a:Int)≤left then left-nTerm a else -1):=by
 unfold lG at h1
 have l0:=hl
 unfold AW_ at l0
 unfold nTerm
 refine bnd (z_NodeS a (left) (by omega) (by unfold lG;omega) l0) (stp ?_)
 by_cases g0:(nNodeS a:Int)≤left
 case neg=>
  rw [if_neg g0];try rw [if_neg (by omega)]
  exact cTW (dT (by omega)) rfl
 rw [if_pos g0]
 try rw [if_pos (by omega)]
 refine cFW (dF (by omega)) ?_
 congr 1;try omega
theorem HM_ {a:cH} (h:Nice.ok a):AW_ a:=by
 have h0:=h
 exact Hs_ h0
theorem vO (a:cH) (h:nTerm a≤1048576):wN a=some a:=by
 unfold nTerm at h
 exact bnd (t_NodeS a (by omega)) (rfl)
theorem e_Term (a:cH) (h:nTerm a≤1048576):Ag_ a a=some true:=by
 unfold nTerm at h
 exact bnd (e_NodeS a (by omega)) (stp (cFW rfl (rfl)))
def Bl_ (a:cH) (k:Int):cH×Int:=((kV a k).1,(kV a k).2)
def qX (a:cH):Nat:=BS_ a
theorem JP_ (a:cH):qX a≤8*nTerm a:=by
 unfold qX nTerm
 have hc0:=DC_ a
 omega
theorem HX_ (a:cH) (k:Int):(Bl_ a k).2=k+qX a:=by
 unfold Bl_ qX
 simp only [HO_]
 try omega
theorem m_Term (a:cH) (k:Int) (h0:0≤k) (h:k+8*nTerm a≤1125899906842624):nZ a k=some (Bl_ a k):=by
 unfold nTerm at h
 have hc0:=DC_ a
 exact bnd (m_NodeS _ _ h0 (by omega)) (rfl)
end Go.Proofs.YtodfjigndedehaaGreatDoor
namespace Go.Proofs.YtodfjigndedehaaGreatDoor
set_option linter.unusedVariables false
theorem GQ_ (a0:Int) (a1:cH) (i0:Nice.ok a0) (i1:Nice.ok a1):BW_ a0 a1=some true:=by
 have hbig:lG=4611686018427387904:=rfl
 refine bnd (z_Term a1 1048576 (by omega) (by rw [hbig];omega) (HM_ i1)) (stp ?_)
 by_cases gaT:(nTerm a1:Int)≤1048576
 case neg=>rw [if_neg gaT];exact cTW (dT (by omega)) rfl
 rw [if_pos gaT]
 refine cFW (dF (by omega)) ?_
 have haT:nTerm a1≤1048576:=by omega
 first
 | refine bnd (vO a1 haT) (bnd (Ce_ a0 a1) ?_)
 | refine bnd (bnd (vO a1 haT) (bnd (Ce_ a0 a1) rfl)) ?_
 refine bnd (vO a1 haT) ?_
 refine bnd (jZ a0 a1) ?_
 have b0:yF (xK a0 a1).1≤1048576:=GB_ a0 a1
 have cb0:=Jp_ (xK a0 a1).1
 refine bnd (a:=false) (bnd (Bx_ _ b0) (stp (cFW rfl (stp (congrArg some (nT (dT rfl))))))) (cFW rfl ?_)
 refine bnd (vO _ haT) (bnd (e_Term _ haT) (stp (cFW rfl ?_)))
 have caT:=JP_ a1
 refine bnd (m_Term a1 _ (by omega) (by omega)) ?_
 refine bnd (a:=false) (stp (cFW (dF (by simp only [HX_];omega)) (bnd (Bx_ _ b0) (stp (cFW rfl (stp (congrArg some (nT (dT rfl))))))))) (cFW rfl ?_)
 refine bnd (m_Graph (xK a0 a1).1 _ (by omega) (by omega)) ?_
 refine bnd (E8_ (xK a0 a1).1 _ (by omega) (by omega)) (stp (cFW (dF (by omega)) ?_))
 refine stp (cFW (nT (dT (by simp only [CF_]))) ?_)
 first
 | refine bnd (vO a1 haT) (bnd (jZ a0 a1) ?_)
 | refine bnd (bnd (vO a1 haT) (bnd (jZ a0 a1) rfl)) ?_
 refine bnd (a:=false) (bnd (Bx_ _ b0) (stp (cFW rfl (stp (congrArg some (nT (dT rfl))))))) (cFW rfl ?_)
 refine bnd (E8_ (xK a0 a1).1 _ (by omega) (by omega)) (stp (cFW (dF (by omega)) ?_))
 refine stp (cFW (nT (dT (by simp only [CF_]))) ?_)
 rfl
end Go.Proofs.YtodfjigndedehaaGreatDoor
