/-
  Plain laws: the relation of a graph without delays, in both. No program in sight. No condition.
-/
import Derived.Test.YtngbmcbigcaapaaGreatDoorZP53
import Derived.Test.YtngbmcbigcaapaaGreatDoorZP94
namespace Go.Proofs.YtngbmcbigcaapaaGreatDoor
set_option linter.unusedVariables false
theorem sgEq {f g:Nat→Int}{k:Nat} (h:∀ i,i<k→f i=g i):sg k f=sg k g:=zC h
theorem perp_iff {p:Int}{n:Nat}{m:Rows}{x:List Int}:tC p n m x↔∀ r∈m,sg n (fun j=>el r j*el x j) % p=0:=by
 constructor
 ·
  intro h r hr
  obtain ⟨i,hi,rfl⟩:=List.mem_iff_getElem.1 hr
  have e:=iE (m:=m) hi
  rw [List.getElem?_eq_getElem hi] at e
  rw [Option.some.inj e]
  exact h i hi
 · exact fun h i hi=>h _ (nK hi)
theorem perp_cons {p:Int}{n:Nat}{r:List Int}{m:Rows}{x:List Int}:tC p n (r::m) x↔sg n (fun j=>el r j*el x j) % p=0∧tC p n m x:=by
 rw [perp_iff,perp_iff]
 constructor
 · exact fun h=>⟨h r (by simp),fun s hs=>h s (by simp [hs])⟩
 ·
  rintro ⟨h1,h2⟩ s hs
  rcases List.mem_cons.1 hs with rfl | hs
  · exact h1
  · exact h2 s hs
theorem perp_apn {p:Int}{n:Nat}{a b:Rows}{x:List Int}:tC p n (a++b) x↔tC p n a x∧tC p n b x:=by
 rw [perp_iff,perp_iff,perp_iff]
 constructor
 · exact fun h=>⟨fun s hs=>h s (List.mem_append_left _ hs),fun s hs=>h s (List.mem_append_right _ hs)⟩
 ·
  rintro ⟨h1,h2⟩ s hs
  rcases List.mem_append.1 hs with hs | hs
  · exact h1 s hs
  · exact h2 s hs
theorem CD_ {n:Nat} (a b:List Int):sg n (fun j=>el a j*el b j)=sg n (fun j=>el b j*el a j):=sgEq fun i _=>Int.mul_comm _ _
def zF (p:Int) (W:Nat) (at_:List Nat) (r:List Int):Nat→List Int
 | 0=>List.replicate W 0
 | k+1=>(zF p W at_ r k).set (at_.getD k 0) ((el (zF p W at_ r k) (at_.getD k 0)+el r k) % p)
def aE (p:Int) (W:Nat) (at_:List Nat) (r:List Int):List Int:=zF p W at_ r at_.length
theorem fO {p:Int}{W:Nat}{at_:List Nat}{r:List Int} (hp:2≤p):∀ k,okR p W (zF p W at_ r k)
 | 0=>F8_ hp W
 | k+1=>by
  obtain ⟨h1,h2⟩:=fO (at_:=at_) (r:=r) hp k
  refine ⟨by rw [zF,List.length_set];exact h1,fun x hx=>?_⟩
  rcases List.mem_or_eq_of_mem_set hx with h | rfl
  · exact h2 x h
  · exact kK hp
theorem xY {at_:List Nat}{W k:Nat} (hlt:∀ q∈at_,q<W) (h:k<at_.length):at_.getD k 0<W:=by
 rw [List.getD_eq_getElem?_getD,List.getElem?_eq_getElem h]
 exact hlt _ (List.getElem_mem h)
theorem sg_set {s:List Int}{W q:Nat}{y:Int} (hl:s.length=W) (hq:q<W) (x:List Int):sg W (fun j=>el (s.set q y) j*el x j)=sg W (fun j=>el s j*el x j)+(y-el s q)*el x q:=by
 have e:sg W (fun j=>el (s.set q y) j*el x j)=sg W (fun j=>el s j*el x j+(if j=q then (y-el s q)*el x q else 0)):=sgEq fun j hj=>by
  rw [el_setP (by omega)]
  by_cases h:q=j
  ·
   subst h
   rw [if_pos rfl,if_pos rfl,Int.sub_mul];omega
  · rw [if_neg h,if_neg (fun e=>h e.symm),Int.add_zero]
 rw [e,sg_add,rG hq (fun i _ hne=>if_neg hne),if_pos rfl]
theorem A4_ {p:Int}{W:Nat}{at_:List Nat}{r:List Int} (hp:2≤p) (hlt:∀ q∈at_,q<W) (x:List Int):∀ k,k≤at_.length→sg W (fun j=>el (zF p W at_ r k) j*el x j) % p=sg k (fun i=>el r i*el x (at_.getD i 0)) % p
 | 0,_=>by
  rw [cJ fun i _=>by show el (List.replicate W 0) i*_=0;rw [C2_,Int.zero_mul]]
  rfl
 | k+1,h=>by
  have ih:=A4_ (r:=r) hp hlt x k (by omega)
  show sg W (fun j=>el ((zF p W at_ r k).set (at_.getD k 0) ((el (zF p W at_ r k) (at_.getD k 0)+el r k) % p)) j*el x j) % p=(sg k _+el r k*el x (at_.getD k 0)) % p
  rw [sg_set (fO hp k).1 (xY hlt (by omega)) x]
  generalize el (zF p W at_ r k) (at_.getD k 0)=a
  generalize el x (at_.getD k 0)=c
  generalize el r k=b
  have e:((a+b) % p-a)*c % p=b*c % p:=by rw [←eK,sub_mod1,show a+b-a=b by omega,eK]
  rw [←add_mod2,e,add_mod2,← eS,ih,eS]
theorem fK {p:Int}{W:Nat}{at_:List Nat}{r:List Int} (hp:2≤p):okR p W (aE p W at_ r):=fO hp _
theorem kR {p:Int}{W:Nat}{at_:List Nat}{r:List Int} (hp:2≤p) (hlt:∀ q∈at_,q<W) (x:List Int):sg W (fun j=>el (aE p W at_ r) j*el x j) % p=sg at_.length (fun i=>el r i*el x (at_.getD i 0)) % p:=A4_ hp hlt x _ (Nat.le_refl _)
theorem Fy_ {p:Int}{W:Nat}{P:List Nat}{O:Rows}{x:List Int} (hp:2≤p) (hlt:∀ q∈P,q<W):tC p W (O.map (aE p W P)) x↔tC p P.length O (selR P x):=by
 have key:∀ r,sg W (fun j=>el (aE p W P r) j*el x j) % p=sg P.length (fun j=>el r j*el (selR P x) j) % p:=fun r=>by
  rw [kR hp hlt]
  congr 1
  exact sgEq fun j hj=>by rw [cP hj]
 rw [perp_iff,perp_iff]
 constructor
 · exact fun h r hr=>by rw [←key];exact h _ (List.mem_map_of_mem hr)
 ·
  intro h s hs
  obtain ⟨r,hr,rfl⟩:=List.mem_map.1 hs
  rw [key];exact h r hr
theorem CP_ {at_:List Nat}{j:Nat} (h:j<at_.length):idxO (at_.map fun q:Nat=>(q:Int)) (j:Int)=some ((at_.getD j 0:Nat):Int):=by
 refine pA ?_
 rw [List.getElem?_map,List.getElem?_eq_getElem h,List.getD_eq_getElem?_getD,List.getElem?_eq_getElem h];rfl
theorem bZ {p:Int}{W:Nat}{at_:List Nat}{r:List Int} (hp:2≤p∧p≤97) (hW:W≤1000) (hlt:∀ q∈at_,q<W) (hr:okR p at_.length r):zG p (W:Int) (at_.map fun q:Nat=>(q:Int)) r=some (aE p W at_ r):=by
 have hm:aB=1099511627776:=rfl
 refine bnd (wF 0 (by omega)) (bnd (a:=aE p W at_ r) ?_ rfl)
 have:=kC (f:=fun (k8:Nat) (s87:List Int)=>
   (idxO (at_.map fun q:Nat=>(q:Int)) ((k8:Nat):Int)).bind fun a102=>
   (idxO s87 a102).bind fun a111=>
   (idxO r ((k8:Nat):Int)).bind fun a119=>
   (oW p a111 a119).bind fun y121=>
   (iA s87 a102 y121).bind fun a130=>
   some a130) (n:=at_.length) (zF p W at_ r) (fun j hj=>by
  obtain ⟨l1,l2⟩:=fO (W:=W) (at_:=at_) (r:=r) hp.1 j
  have hq:=xY hlt hj
  have m1:=l2 _ (uE (r:=zF p W at_ r j) (c:=at_.getD j 0) (by omega))
  have m2:=hr.2 _ (uE (r:=r) (c:=j) (by rw [hr.1];exact hj))
  refine bnd (CP_ hj) (bnd (iD (by omega)) (bnd (iD (by rw [hr.1];exact hj)) (bnd (bnd (bC (by omega) (by omega)) (bnd (nG (by omega)) rfl)) (bnd (nC _ (by omega)) ?_))))
  rw [Int.tmod_eq_emod_of_nonneg (by omega)]
  rfl)
 rw [List.length_map]
 exact this
theorem dq1 (a:Nat) (x:List Int) (u:Int):sg [a].length (fun i=>el [u] i*el x ([a].getD i 0))=u*el x a:=sg1 _
theorem dq2 (a b:Nat) (x:List Int) (u v:Int):sg [a,b].length (fun i=>el [u,v] i*el x ([a,b].getD i 0))=u*el x a+v*el x b:=sg2 _
theorem dq3 (a b c:Nat) (x:List Int) (u v w:Int):sg [a,b,c].length (fun i=>el [u,v,w] i*el x ([a,b,c].getD i 0))=u*el x a+v*el x b+w*el x c:=sg3 _
theorem dl1 (a:Nat) (x:List Int) (u:Int):sg [a].length (fun i=>el [u] i*el (selR [a] x) i)=u*el x a:=sg1 _
theorem dl2 (a b:Nat) (x:List Int) (u v:Int):sg [a,b].length (fun i=>el [u,v] i*el (selR [a,b] x) i)=u*el x a+v*el x b:=sg2 _
theorem dl3 (a b c:Nat) (x:List Int) (u v w:Int):sg [a,b,c].length (fun i=>el [u,v,w] i*el (selR [a,b,c] x) i)=u*el x a+v*el x b+w*el x c:=sg3 _
structure ERows (p:Int) (W:Nat) (e:Edg) (P:List Nat) (R:Rows):Prop where
 run:oE p (W:Int) e=some R
 ok:okM p W R
 len:R.length≤2
 iff:∀ x,tC p W R x↔tC p P.length (fP p e.1 e.2.1) (selR P x)
section
variable {p v:Int}{W:Nat} (hp:2≤p∧p≤97) (hW:W≤1000) (hv:0≤v∧v<p)
include hp hW
theorem er1 {k:Int}{s1 s2:List Int}{P:List Nat}{a:List Nat}{r e1:List Int} (hl:fP p k v=[e1]) (ha:∀ q∈a,q<W) (hr:okR p a.length r)
  (hrun:zG p (W:Int) (a.map fun q:Nat=>(q:Int)) r=some (aE p W a r)→oE p (W:Int) (k,v,s1,s2)=some [aE p W a r])
  (hd:∀ x,sg a.length (fun i=>el r i*el x (a.getD i 0))=sg P.length (fun i=>el e1 i*el (selR P x) i)):∃ R,ERows p W (k,v,s1,s2) P R:=by
 refine ⟨[aE p W a r],hrun (bZ hp hW ha hr),qD (fK hp.1).1 (fK hp.1).2,by simp,fun x=>?_⟩
 dsimp only
 rw [hl,perp_cons,perp_cons,kR hp.1 ha,hd]
 exact and_congr Iff.rfl ⟨fun _=>yI _ _ _,fun _=>yI _ _ _⟩
theorem er2 {k:Int}{s1 s2:List Int}{P:List Nat}{a b:List Nat}{r s e1 e2:List Int} (hl:fP p k v=[e1,e2]) (ha:∀ q∈a,q<W) (hb:∀ q∈b,q<W) (hr:okR p a.length r) (hs:okR p b.length s)
  (hrun:zG p (W:Int) (a.map fun q:Nat=>(q:Int)) r=some (aE p W a r)→zG p (W:Int) (b.map fun q:Nat=>(q:Int)) s=some (aE p W b s)→oE p (W:Int) (k,v,s1,s2)=some [aE p W a r,aE p W b s])
  (hd:∀ x,sg a.length (fun i=>el r i*el x (a.getD i 0))=sg P.length (fun i=>el e1 i*el (selR P x) i))
  (hd2:∀ x,sg b.length (fun i=>el s i*el x (b.getD i 0))=sg P.length (fun i=>el e2 i*el (selR P x) i)):∃ R,ERows p W (k,v,s1,s2) P R:=by
 refine ⟨[aE p W a r,aE p W b s],hrun (bZ hp hW ha hr) (bZ hp hW hb hs),okM2 (qD (fK hp.1).1 (fK hp.1).2) (qD (fK hp.1).1 (fK hp.1).2),by simp,fun x=>?_⟩
 dsimp only
 rw [hl,perp_cons,perp_cons,perp_cons,perp_cons,kR hp.1 ha,kR hp.1 hb,hd,hd2]
 exact and_congr Iff.rfl (and_congr Iff.rfl ⟨fun _=>yI _ _ _,fun _=>yI _ _ _⟩)
end
theorem nl0 {A:List Nat} (h:A.length=0):A=[]:=List.length_eq_zero_iff.1 h
theorem nl1 {A:List Nat} (h:A.length=1):∃ a,A=[a]:=by
 match A,h with
 | [a],_=>exact ⟨a,rfl⟩
theorem nl2 {A:List Nat} (h:A.length=2):∃ a b,A=[a,b]:=by
 match A,h with
 | [a,b],_=>exact ⟨a,b,rfl⟩
theorem FR_ {p k v:Int}{W:Nat}{A B:List Nat} (hp:2≤p∧p≤97) (hW:W≤1000) (hv:0≤v∧v<p) (hk:rng k 3 14=true) (h8:k≠8) (h14:k≠14) (hA:(A.length:Int)=(kd k).1) (hB:(B.length:Int)=(kd k).2)
  (hlt:∀ q∈A++B,q<W):∃ R,ERows p W (k,v,A.map (fun q:Nat=>(q:Int)),B.map (fun q:Nat=>(q:Int))) (A++B) R:=by
 have:=rng_true.1 hk
 have b0:(0:Int)≤0∧(0:Int)<p:=⟨by omega,by omega⟩
 have b1:(0:Int)≤1∧(1:Int)<p:=⟨by omega,by omega⟩
 have bp:(0:Int)≤p-1∧p-1<p:=⟨by omega,by omega⟩
 have bv:(0:Int)≤(p-v) % p∧(p-v) % p<p:=kK hp.1
 have sp:subO p 1=some (p-1):=gE (by omega) (by omega)
 have ng:=CV_ hp hv
 have o1:okR p 1 [1]:=⟨rfl,lD b1⟩
 have o2:okR p 2 [1,p-1]:=⟨rfl,mC b1 (lD bp)⟩
 have o3:okR p 3 [1,p-1,p-1]:=⟨rfl,mC b1 (mC bp (lD bp))⟩
 have ov:okR p 2 [1,(p-v) % p]:=⟨rfl,mC b1 (lD bv)⟩
 have hc:k=3∨k=4∨k=5∨k=6∨k=7∨k=9∨k=10∨k=11∨k=12∨k=13:=by omega
 have q3:subO 9 9=some 0:=rfl
 have q4:subO 10 9=some 1:=rfl
 have q5:subO 11 9=some 2:=rfl
 have q6:subO 12 9=some 3:=rfl
 have q7:subO 13 9=some 4:=rfl
 have t0:uA 0 3=some 3:=rfl
 have t1:uA 1 3=some 4:=rfl
 have t2:uA 2 3=some 5:=rfl
 have t3:uA 3 3=some 6:=rfl
 have t4:uA 4 3=some 7:=rfl
 rcases hc with rfl | rfl | rfl | rfl | rfl | rfl | rfl | rfl | rfl | rfl
 ·
  obtain ⟨a,rfl⟩:=nl1 (A:=A) (by have:(kd 3).1=1:=rfl;omega)
  obtain ⟨b,c,rfl⟩:=nl2 (A:=B) (by have:(kd 3).2=2:=rfl;omega)
  refine er2 (a:=[b,a]) (b:=[c,a]) (r:=[1,p-1]) (s:=[1,p-1]) hp hW rfl (fun q hq=>hlt q (by simp at hq ⊢;omega)) (fun q hq=>hlt q (by simp at hq ⊢;omega)) o2 o2 (fun h1 h2=>?_) (fun x=>?_) (fun x=>?_)
  ·
   simp only [List.map_cons,List.map_nil] at h1 h2
   simp [oE,idxO,sp,h1,h2]
  · rw [dq2,show [a]++[b,c]=[a,b,c] from rfl,dl3];grind
  · rw [dq2,show [a]++[b,c]=[a,b,c] from rfl,dl3];grind
 · exact ⟨[],by simp [oE],mS _ _,by simp,fun x=>⟨fun _=>yI _ _ _,fun _=>yI _ _ _⟩⟩
 ·
  obtain ⟨a,b,rfl⟩:=nl2 (A:=A) (by have:(kd 5).1=2:=rfl;omega)
  obtain ⟨c,rfl⟩:=nl1 (A:=B) (by have:(kd 5).2=1:=rfl;omega)
  refine er1 (a:=[c,a,b]) (r:=[1,p-1,p-1]) hp hW rfl (fun q hq=>hlt q (by simp at hq ⊢;omega)) o3 (fun h1=>?_) (fun x=>?_)
  ·
   simp only [List.map_cons,List.map_nil] at h1
   simp [oE,idxO,sp,h1]
  · rw [dq3,show [a,b]++[c]=[a,b,c] from rfl,dl3];grind
 ·
  obtain rfl:=nl0 (A:=A) (by have:(kd 6).1=0:=rfl;omega)
  obtain ⟨a,rfl⟩:=nl1 (A:=B) (by have:(kd 6).2=1:=rfl;omega)
  refine er1 (a:=[a]) (r:=[1]) hp hW rfl (fun q hq=>hlt q (by simp at hq ⊢;omega)) o1 (fun h1=>?_) (fun x=>?_)
  ·
   simp only [List.map_cons,List.map_nil] at h1
   simp [oE,idxO,sp,h1]
  · rw [dq1,show []++[a]=[a] from rfl,dl1]
 ·
  obtain ⟨a,rfl⟩:=nl1 (A:=A) (by have:(kd 7).1=1:=rfl;omega)
  obtain ⟨b,rfl⟩:=nl1 (A:=B) (by have:(kd 7).2=1:=rfl;omega)
  refine er1 (a:=[b,a]) (r:=[1,(p-v) % p]) hp hW rfl (fun q hq=>hlt q (by simp at hq ⊢;omega)) ov (fun h1=>?_) (fun x=>?_)
  ·
   simp only [List.map_cons,List.map_nil] at h1
   generalize (p-v) % p=q at ng h1 ⊢
   simp [oE,idxO,ng,h1]
  · rw [dq2,show [a]++[b]=[a,b] from rfl,dl2];grind
 ·
  obtain ⟨a,b,rfl⟩:=nl2 (A:=A) (by have:(kd 9).1=2:=rfl;omega)
  obtain ⟨c,rfl⟩:=nl1 (A:=B) (by have:(kd 9).2=1:=rfl;omega)
  refine er2 (a:=[a,c]) (b:=[b,c]) (r:=[1,p-1]) (s:=[1,p-1]) hp hW rfl (fun q hq=>hlt q (by simp at hq ⊢;omega)) (fun q hq=>hlt q (by simp at hq ⊢;omega)) o2 o2 (fun h1 h2=>?_) (fun x=>?_) (fun x=>?_)
  ·
   simp only [List.map_cons,List.map_nil] at h1 h2
   simp [oE,idxO,sp,h1,h2,q3,t0]
  · rw [dq2,show [a,b]++[c]=[a,b,c] from rfl,dl3];grind
  · rw [dq2,show [a,b]++[c]=[a,b,c] from rfl,dl3];grind
 · exact ⟨[],by simp [oE,q4,t1],mS _ _,by simp,fun x=>⟨fun _=>yI _ _ _,fun _=>yI _ _ _⟩⟩
 ·
  obtain ⟨a,rfl⟩:=nl1 (A:=A) (by have:(kd 11).1=1:=rfl;omega)
  obtain ⟨b,c,rfl⟩:=nl2 (A:=B) (by have:(kd 11).2=2:=rfl;omega)
  refine er1 (a:=[a,b,c]) (r:=[1,p-1,p-1]) hp hW rfl (fun q hq=>hlt q (by simp at hq ⊢;omega)) o3 (fun h1=>?_) (fun x=>?_)
  ·
   simp only [List.map_cons,List.map_nil] at h1
   simp [oE,idxO,sp,h1,q5,t2]
  · rw [dq3,show [a]++[b,c]=[a,b,c] from rfl,dl3]
 ·
  obtain rfl:=nl0 (A:=B) (by have:(kd 12).2=0:=rfl;omega)
  obtain ⟨a,rfl⟩:=nl1 (A:=A) (by have:(kd 12).1=1:=rfl;omega)
  refine er1 (a:=[a]) (r:=[1]) hp hW rfl (fun q hq=>hlt q (by simp at hq ⊢;omega)) o1 (fun h1=>?_) (fun x=>?_)
  ·
   simp only [List.map_cons,List.map_nil] at h1
   simp [oE,idxO,sp,h1,q6,t3]
  · rw [dq1,show [a]++[]=[a] from rfl,dl1]
 ·
  obtain ⟨a,rfl⟩:=nl1 (A:=A) (by have:(kd 13).1=1:=rfl;omega)
  obtain ⟨b,rfl⟩:=nl1 (A:=B) (by have:(kd 13).2=1:=rfl;omega)
  refine er1 (a:=[a,b]) (r:=[1,(p-v) % p]) hp hW rfl (fun q hq=>hlt q (by simp at hq ⊢;omega)) ov (fun h1=>?_) (fun x=>?_)
  ·
   simp only [List.map_cons,List.map_nil] at h1
   generalize (p-v) % p=q at ng h1 ⊢
   simp [oE,idxO,ng,h1,q7,t4]
  · rw [dq2,show [a]++[b]=[a,b] from rfl,dl2]
theorem EP_ {m:Rows}{cols:Nat} (hc:cols≤1048576) (hL:m.length≤1048576) (hw:∀ r∈m,cols≤r.length):iV m (cols:Int)=some (trM m cols):=by
 have hm:aB=1099511627776:=rfl
 refine bnd (wF [] (by omega)) (bnd (a:=trM m cols) ?_ rfl)
 have hlen:(List.replicate cols ([]:List Int)).length=cols:=List.length_replicate
 refine (kC (fun j=>xB (fun j _=>sF m j) (List.replicate cols ([]:List Int)) j) ?_).trans (by rw [yO];rfl)
 intro j hj
 have hj':j<cols:=by rw [hlen] at hj;exact hj
 have hpl:j<(xB (fun j _=>sF m j) (List.replicate cols ([]:List Int)) j).length:=by rw [lG];exact hj
 have e2:=iR (g:=fun j _=>sF m j) (m:=List.replicate cols ([]:List Int)) hj
 refine bnd (wL (n:=m.length) (by omega)) (bnd (nC _ hpl) (bnd (a:=xB (fun j _=>sF m j) (List.replicate cols ([]:List Int)) (j+1)) ?_ rfl))
 rw [←e2]
 refine (kC (fun k=>(xB (fun j _=>sF m j) (List.replicate cols ([]:List Int)) j).set j ((m.take k).map (fun r=>el r j)++List.replicate (m.length-k) 0)) ?_).trans (by rw [List.take_length,Nat.sub_self,List.replicate_zero,List.append_nil])
 intro k hk
 have hset:j<((xB (fun j _=>sF m j) (List.replicate cols ([]:List Int)) j).set j ((m.take k).map (fun r=>el r j)++List.replicate (m.length-k) 0)).length:=by rw [List.length_set];exact hpl
 refine bnd (xC hk) (bnd (xC hset) (bnd (iD (by have:=hw _ (nK hk);omega)) ?_))
 rw [eI hpl,if_pos rfl]
 refine bnd (nC _ (by simp;omega)) (bnd (nC _ hset) ?_)
 have hX:((m.take k).map fun r=>el r j).length=k:=by simp;omega
 rw [List.set_set,List.take_add_one,iE hk,List.map_append,List.set_append_right _ _ (by omega),hX,Nat.sub_self,show m.length-k=(m.length-(k+1))+1 by omega,List.replicate_succ,List.set_cons_zero,List.append_assoc]
 try rfl
theorem orth_ {p:Int}{n:Nat}{m:Rows} (hf:fdB p=true) (h:okM p n m) (hn:n≤1048576) (hL:m.length≤1048576):bL p m (n:Int)=some (lE p n m):=by
 have hT:=trM_ok h (Nat.le_refl n)
 have hk:=kernel_ (p:=p) (n:=m.length) (m:=trM m n) hf hL hT (by rw [qL];exact hn)
 refine bnd (EP_ hn hL fun r hr=>by rw [(h r hr).1];exact Nat.le_refl _) (bnd hk (congrArg some ?_))
 have hR:=Gc_ hf hT
 have hI:=Gd_ hf hT
 rw [qL] at hR hI
 have key:∀ x,vT p m.length (trM m n) x↔tC p n m x:=fun x=>by
  have e:∀ c,c<m.length→sg (trM m n).length (fun t=>el x t*el (gr (trM m n) t) c)=sg n (fun j=>el (gr m c) j*el x j):=fun c hc=>by
   rw [qL]
   exact sgEq fun t ht=>by rw [CJ_ ht,colM_el hc,Int.mul_comm]
  constructor
  · exact fun hx c hc=>by rw [←e c hc];exact hx c hc
  · exact fun hx c hc=>by rw [e c hc];exact hx c hc
 exact bR (aC hf).1 hR (dK hf) (fun i hi=>(zI hf h _).2 ((key _).1 ((hI _).1 (eE hi)))) (fun i hi=>(hI _).2 ((key _).2 ((zI hf h _).1 (eE hi))))
theorem Mate.dual {p:Int}{N:Nat}{E G:Rows} (hf:fdB p=true) (h:Mate p N E G) (y:List Int):tC p N (lE p N (eC p N G)) y↔tC p N E y:=by
 have hR:=vF hf h.g
 have hs:=tI hf h.g
 constructor
 ·
  intro hy i hi
  have hG:tC p N G (gr E i):=fun q hq=>by
   have:=h.f2 q hq i hi
   rw [CD_] at this;exact this
  have hin:=(zI hf hR.ok (gr E i)).2 (tR hG hs.1)
  exact dX hy hin
 ·
  intro hy i hi
  have hin:=(zI hf hR.ok _).1 (eE hi)
  have hG:=tR hin hs.2
  obtain ⟨c,hc⟩:=h.f1 y hy
  have:=dX hG ⟨c,hc⟩
  rw [CD_] at this;exact this
theorem nul_eq {p:Int}{W:Nat}{S T:Rows} (hf:fdB p=true) (hS:okM p W S) (hT:okM p W T) (h:∀ x,tC p W S x↔tC p W T x):lE p W S=lE p W T:=
 bR (aC hf).1 (dK hf) (dK hf) (fun i hi=>(zI hf hT _).2 ((h _).1 ((zI hf hS _).1 (eE hi)))) (fun i hi=>(zI hf hS _).2 ((h _).2 ((zI hf hT _).1 (eE hi))))
theorem natL {n:Nat}{l:List Int} (h:∀ x∈l,0≤x∧x<(n:Int)):∃ A:List Nat,l=A.map (fun q:Nat=>(q:Int))∧∀ q∈A,q<n:=by
 refine ⟨l.map Int.toNat,?_,fun q hq=>?_⟩
 ·
  rw [List.map_map]
  conv=>lhs;rw [←List.map_id l]
  exact List.map_congr_left fun x hx=>by have:=h x hx;show x=((x.toNat:Nat):Int);omega
 ·
  obtain ⟨x,hx,rfl⟩:=List.mem_map.1 hq
  have:=h x hx;omega
def qK (p:Int) (W:Nat) (k v:Int) (P:List Nat):Rows:=(lE p P.length (eC p P.length (xH k v))).map (aE p W P)
theorem FS_ {p k v:Int}{W:Nat}{A B:List Nat}{g:Gra}{s:Rows} (hf:fdB p=true) (hg:g.1=(W:Int)) (hW:W≤1000) (hv:0≤v∧v<p) (hgen:wD k v=true) (h8:k≠8) (h14:k≠14) (hA:(A.length:Int)=(kd k).1) (hB:(B.length:Int)=(kd k).2)
  (hlt:∀ q∈A++B,q<W) (hs:s.length≤10000) :
  (((pQ k v).bind fun y1734=>
    (wM p (y1734.1,y1734.2.1,y1734.2.2)).bind fun y1747=>
    some (y1747.1,y1747.2.1,y1747.2.2)).bind fun (s1712:Int×Int×List (List Int))=>
   (xD [A.map (fun q:Nat=>(q:Int)),B.map (fun q:Nat=>(q:Int))]).bind fun y1790=>
   (tM (s1712.1,s1712.2.1,s1712.2.2)).bind fun y1796=>
   (bL p s1712.2.2 y1796).bind fun y1799=>
   (jA (fun (k1804:Nat) (s2270:List (List Int))=>
     (idxO y1799 ((k1804:Nat):Int)).bind fun a2285=>
     (aH g.1).bind fun y2289=>
     (jA (fun (k2294:Nat) (s2377:List Int)=>
       (idxO y1790 ((k2294:Nat):Int)).bind fun a2392=>
       (idxO s2377 a2392).bind fun a2401=>
       (idxO a2285 ((k2294:Nat):Int)).bind fun a2409=>
       (uA a2401 a2409).bind fun a2411=>
       (tH p a2411).bind fun y2413=>
       (iA s2377 a2392 y2413).bind fun a2422=>
       some a2422) y1790.length 0 y2289).bind fun (s2427:List Int)=>
     (xA s2270 [s2427]).bind fun a2429=>
     some a2429) y1799.length 0 s).bind fun (s2434:List (List Int))=>
   some s2434)=some (s++qK p W k v (A++B)):=by
 have hp:=aC hf
 have hm:aB=1099511627776:=rfl
 have hk3:rng k 3 14=true:=by unfold wD at hgen;rw [Bool.and_eq_true] at hgen;exact hgen.1
 have hkr:=rng_true.1 hk3
 have hlf:lfB (k,v,.empty)=true:=by
  unfold wD at hgen
  rw [Bool.and_eq_true] at hgen
  unfold lfB
  dsimp only
  rw [dT rfl,Bool.true_and,Bool.and_eq_true,if_neg (by omega)]
  exact ⟨rng_true.2 (by omega),hgen.2⟩
 have hrel:=EU_ hf hlf (by dsimp only;omega) (by dsimp only;omega) h8 h14 hv.2
 dsimp only at hrel
 have hM:=vR hp hk3 h8 h14 hv
 obtain ⟨a,b,hk,ha,hb⟩:=cT k
 rw [hk] at hA hB hrel hM
 dsimp only [Int.toNat_natCast] at hA hB hrel hM
 obtain rfl:A.length=a:=by omega
 obtain rfl:B.length=b:=by omega
 have hN:(A++B).length=A.length+B.length:=List.length_append
 have hR:=vF hf hM.g
 have hRl:=iK hf hR
 have hO:=orth_ hf hR.ok (by omega) (by omega)
 have hOr:=dK (n:=A.length+B.length) (m:=eC p (A.length+B.length) (xH k v)) hf
 have hOl:=iK hf hOr
 have hj:xD [A.map (fun q:Nat=>(q:Int)),B.map (fun q:Nat=>(q:Int))]=some ((A++B).map (fun q:Nat=>(q:Int))):=by
  have:=fY (l:=[A.map (fun q:Nat=>(q:Int)),B.map (fun q:Nat=>(q:Int))]) (by simp;omega)
  rw [this,List.map_append];simp
 refine bnd (bnd (a:=(k,v,.empty)) rfl (bnd hrel rfl)) (bnd hj (bnd (a:=((A.length+B.length:Nat):Int)) (by refine bnd (bC (by dsimp only;omega) (by dsimp only;omega)) (congrArg some ?_);dsimp only;omega) (bnd hO ?_)))
 unfold qK
 rw [hN]
 generalize lE p (A.length+B.length) (eC p (A.length+B.length) (xH k v))=O at hOr hOl ⊢
 refine bnd (a:=s++O.map (aE p W (A++B))) (mG (aE p W (A++B)) O s (by omega) (fun j r s' hj hs'=>?_)) rfl
 have hr:=hOr.ok r (dE hj)
 have hjl:=(List.getElem?_eq_some_iff.1 hj).1
 rw [hg]
 have loop:=kC (f:=fun (k2294:Nat) (s2377:List Int)=>
       (idxO ((A++B).map fun q:Nat=>(q:Int)) ((k2294:Nat):Int)).bind fun a2392=>
       (idxO s2377 a2392).bind fun a2401=>
       (idxO r ((k2294:Nat):Int)).bind fun a2409=>
       (uA a2401 a2409).bind fun a2411=>
       (tH p a2411).bind fun y2413=>
       (iA s2377 a2392 y2413).bind fun a2422=>
       some a2422) (n:=(A++B).length) (zF p W (A++B) r) (fun j hj=>by
  obtain ⟨l1,l2⟩:=fO (W:=W) (at_:=A++B) (r:=r) hp.1 j
  have hq:=xY hlt hj
  have m1:=l2 _ (uE (r:=zF p W (A++B) r j) (c:=(A++B).getD j 0) (by omega))
  have hjr:j<r.length:=by rw [hr.1,← hN];exact hj
  have m2:=hr.2 _ (uE hjr)
  exact bnd (CP_ hj) (bnd (iD (by omega)) (bnd (iD hjr) (bnd (bC (by omega) (by omega)) (bnd (mod_ hp.1 (by omega)) (bnd (nC _ (by omega)) rfl))))))
 refine bnd (pA hj) (bnd (wL (n:=W) (by omega)) (bnd (a:=aE p W (A++B) r) ?_ (bnd (yB (by simp;omega)) rfl)))
 rw [List.length_map]
 exact loop
theorem iRows_ {p k v:Int}{W:Nat}{A B:List Nat} (hf:fdB p=true) (hv:0≤v∧v<p) (hk3:rng k 3 14=true) (h8:k≠8) (h14:k≠14) (hA:(A.length:Int)=(kd k).1) (hB:(B.length:Int)=(kd k).2)
  (hlt:∀ q∈A++B,q<W):okM p W (qK p W k v (A++B))∧(qK p W k v (A++B)).length≤4∧∀ x,tC p W (qK p W k v (A++B)) x↔tC p (A++B).length (fP p k v) (selR (A++B) x):=by
 have hp:=aC hf
 have hM:=vR hp hk3 h8 h14 hv
 obtain ⟨a,b,hk,ha,hb⟩:=cT k
 rw [hk] at hA hB hM
 dsimp only [Int.toNat_natCast] at hA hB hM
 obtain rfl:A.length=a:=by omega
 obtain rfl:B.length=b:=by omega
 rw [←List.length_append] at hM
 have hOl:=iK hf (dK (n:=(A++B).length) (m:=eC p (A++B).length (xH k v)) hf)
 rw [List.length_append] at hOl
 refine ⟨fun r hr=>?_,?_,fun x=>?_⟩
 ·
  obtain ⟨s,_,rfl⟩:=List.mem_map.1 hr
  exact fK hp.1
 ·
  unfold qK
  rw [List.length_map,List.length_append]
  omega
 · exact (Fy_ hp.1 hlt).trans (hM.dual hf _)
theorem Bb_ {e:Edg} (h:arB e=true):wD e.1 e.2.1=true∧(e.2.2.1.length:Int)=(kd e.1).1∧(e.2.2.2.length:Int)=(kd e.1).2:=by
 unfold arB at h
 simp only [Bool.and_eq_true,decide_eq_true_eq] at h
 exact ⟨h.1,h.2.1,h.2.2⟩
theorem Gg_ {p:Int}{g:Gra} (hf:fdB p=true) (hg:gOk g=true) (he:∀ e∈g.2.1,e.2.1<p∧e.1≠8∧e.1≠14) :
  ∃ a b R,RlOk p a b R∧a≤12∧b≤12∧cN p g=some (R,true)∧cV p g=some R:=by
 have hp:=aC hf
 have hm:aB=1099511627776:=rfl
 obtain ⟨W,hk⟩:=vN hg
 obtain ⟨w,E,I,O⟩:=g
 obtain rfl:w=(W:Int):=hk.w
 have hW:=hk.n100
 have i12:=hk.i12;have o12:=hk.o12;have e60:=hk.e60
 dsimp only at i12 o12 e60
 obtain ⟨S,T,hS,hT,oS,oT,lS,lT,hST⟩:=zJ (f:=fun (k7:Nat) (s70:List (List Int))=>
   (idxO E ((k7:Nat):Int)).bind fun a87=>
   (oE p (W:Int) (a87.1,a87.2.1,a87.2.2.1,a87.2.2.2)).bind fun y99=>
   (xA s70 y99).bind fun a104=>
   some a104) (g:=fun (k7:Nat) (s1622:List (List Int))=>
   (idxO E ((k7:Nat):Int)).bind fun a1637=>
   ((pQ a1637.1 a1637.2.1).bind fun y1734=>
    (wM p (y1734.1,y1734.2.1,y1734.2.2)).bind fun y1747=>
    some (y1747.1,y1747.2.1,y1747.2.2)).bind fun (s1712:Int×Int×List (List Int))=>
   (xD [a1637.2.2.1,a1637.2.2.2]).bind fun y1790=>
   (tM (s1712.1,s1712.2.1,s1712.2.2)).bind fun y1796=>
   (bL p s1712.2.2 y1796).bind fun y1799=>
   (jA (fun (k1804:Nat) (s2270:List (List Int))=>
     (idxO y1799 ((k1804:Nat):Int)).bind fun a2285=>
     (aH (W:Int)).bind fun y2289=>
     (jA (fun (k2294:Nat) (s2377:List Int)=>
       (idxO y1790 ((k2294:Nat):Int)).bind fun a2392=>
       (idxO s2377 a2392).bind fun a2401=>
       (idxO a2285 ((k2294:Nat):Int)).bind fun a2409=>
       (uA a2401 a2409).bind fun a2411=>
       (tH p a2411).bind fun y2413=>
       (iA s2377 a2392 y2413).bind fun a2422=>
       some a2422) y1790.length 0 y2289).bind fun (s2427:List Int)=>
     (xA s2270 [s2427]).bind fun a2429=>
     some a2429) y1799.length 0 s1622).bind fun (s2434:List (List Int))=>
   some s2434)
  (fun j S T=>okM p W S∧okM p W T∧S.length≤2*j∧T.length≤4*j∧∀ x,tC p W S x↔tC p W T x) E.length 0 [] [] ⟨mS _ _,mS _ _,by simp,by simp,fun x=>Iff.rfl⟩ (fun j S T _ hj ⟨oS,oT,lS,lT,hST⟩=>by
  have hj:j<E.length:=by omega
  have hmem:=List.getElem_mem hj
  obtain ⟨v1,n8,n14⟩:=he _ hmem
  obtain ⟨r1,r2⟩:=hk.e _ hmem
  obtain ⟨hgen,hl1,hl2⟩:=Bb_ (List.all_eq_true.1 hk.ar _ hmem)
  have hget:idxO E ((j:Nat):Int)=some E[j]:=pA (List.getElem?_eq_getElem hj)
  generalize E[j]=e at hget v1 n8 n14 r1 r2 hgen hl1 hl2
  obtain ⟨k,v,I',O'⟩:=e
  dsimp only at v1 n8 n14 r1 r2 hgen hl1 hl2
  obtain ⟨A,rfl,hA⟩:=natL r1
  obtain ⟨B,rfl,hB⟩:=natL r2
  rw [List.length_map] at hl1 hl2
  have hlt:∀ q∈A++B,q<W:=fun q hq=>(List.mem_append.1 hq).elim (hA q) (hB q)
  have hk3:rng k 3 14=true:=by unfold wD at hgen;rw [Bool.and_eq_true] at hgen;exact hgen.1
  have hv0:0≤v:=by
   unfold wD at hgen
   rw [Bool.and_eq_true] at hgen
   have h2:=hgen.2
   split at h2
   · exact (rng_true.1 h2).1
   · have:=of_decide_eq_true h2;omega
  obtain ⟨R,q1,q2,q3,q4⟩:=FR_ hp (by omega) ⟨hv0,v1⟩ hk3 n8 n14 hl1 hl2 hlt
  obtain ⟨k2,k3,k4⟩:=iRows_ (W:=W) hf ⟨hv0,v1⟩ hk3 n8 n14 hl1 hl2 hlt
  refine ⟨S++R,T++qK p W k v (A++B),bnd hget (bnd q1 (bnd (yB (by omega)) rfl)),bnd hget (FS_ (g:=((W:Int),E,I,O)) hf rfl (by omega) ⟨hv0,v1⟩ hgen n8 n14 hl1 hl2 hlt (by omega)),?_,?_,by rw [List.length_append];omega,by rw [List.length_append];omega,fun x=>?_⟩
  ·
   intro r hr
   exact (List.mem_append.1 hr).elim (oS r) (q2 r)
  ·
   intro r hr
   exact (List.mem_append.1 hr).elim (oT r) (k2 r)
  · rw [perp_apn,perp_apn,hST,q4,k4])
 obtain ⟨A,rfl,hA⟩:=natL hk.i
 obtain ⟨B,rfl,hB⟩:=natL hk.o
 rw [List.length_map] at i12 o12
 have hlt:∀ q∈A++B,q<W:=fun q hq=>(List.mem_append.1 hq).elim (hA q) (hB q)
 have hD:=Go_ (ends:=A++B) hf hg he (List.length_map _) (List.length_map _) List.map_append.symm hlt oS (by omega) hS
 have hN:=dK (n:=W) (m:=S) hf
 have hNl:=iK hf hN
 have hsel:=bT hlt hN.ok
 rw [List.length_append] at hsel
 have hRed:=vF hf hsel
 refine ⟨A.length,B.length,_,⟨hf,rfl,rfl,by omega,hRed,iK hf hRed⟩,i12,o12,hD,?_⟩
 have hj:xD [A.map (fun q:Nat=>(q:Int)),B.map (fun q:Nat=>(q:Int))]=some ((A++B).map (fun q:Nat=>(q:Int))):=by
  have:=fY (l:=[A.map (fun q:Nat=>(q:Int)),B.map (fun q:Nat=>(q:Int))]) (by simp;omega)
  rw [this,List.map_append];simp
 have hch:=mG (f:=fun (k6:Nat) (s58:List (List Int))=>
   (idxO (lE p W S) ((k6:Nat):Int)).bind fun a74=>
   (gN a74 ((A++B).map (fun q:Nat=>(q:Int)))).bind fun y78=>
   (xA s58 [y78]).bind fun a86=>
   some a86) (selR (A++B)) (lE p W S) [] (by simp;omega) (fun j v s hj hs=>by
  have hv:=(hN.ok v (dE hj)).1
  have hjl:=(List.getElem?_eq_some_iff.1 hj).1
  have h1:=CU_ hv hlt (by rw [List.length_append];omega)
  have h2:gN v ((A++B).map (fun q:Nat=>(q:Int)))=some (selR (A++B) v):=bnd (wW 0 (by simp;omega)) h1
  exact bnd (pA hj) (bnd h2 (bnd (yB (by simp at hs ⊢;omega)) rfl)))
 have hrel:=fR (a:=A.length) (b:=B.length) hf (by omega) hsel (by rw [List.length_map];omega)
 have hE:iP [] ((W:Int),E,A.map (fun q:Nat=>(q:Int)),B.map (fun q:Nat=>(q:Int))) p=some T:=bnd hT rfl
 have hO:=orth_ hf oT (by omega) (by omega)
 rw [←nul_eq hf oS oT hST] at hO
 refine bnd hE (bnd hO (bnd hj (bnd (bnd hch rfl) ?_)))
 dsimp only
 rw [List.length_map,List.length_map]
 exact bnd hrel rfl
end Go.Proofs.YtngbmcbigcaapaaGreatDoor
namespace Go.Proofs.YtngbmcbigcaapaaGreatDoor
set_option linter.unusedVariables false
set_option synthInstance.maxSize 2000
theorem axSame_ (a b:Gra):eW a b=some (decide (a=b)):=by
 obtain ⟨n,E,I,O⟩:=a
 obtain ⟨m,E',I',O'⟩:=b
 by_cases h:n=m∧E.length=E'.length∧I=I'∧O=O'
 ·
  obtain ⟨rfl,hl,rfl,rfl⟩:=h
  have h0:oI I I=some true:=(eM I I).trans (congrArg some (dT rfl))
  have h1:oI O O=some true:=(eM O O).trans (congrArg some (dT rfl))
  refine bnd (a:=false) (stp (cFW (nT (dT rfl)) (stp (cFW (nT (dT (congrArg Nat.cast hl))) (bnd h0 (stp (cFW rfl (bnd h1 rfl)))))))) (cFW rfl ?_)
  refine sqW (pX E E' 0 hl (fun j x y hx hy=>?_)) ?_
  ·
   rw [Nat.zero_add]
   refine bnd (pA hx) (bnd (pA hy) (bnd (a:=!decide (x=y)) ?_ ?_))
   ·
    obtain ⟨k,v,A,B⟩:=x
    obtain ⟨k',v',A',B'⟩:=y
    refine stp ?_
    by_cases h1:k=k'
    ·
     subst h1
     refine cFW (nT (dT rfl)) (stp ?_)
     by_cases h2:v=v'
     ·
      subst h2
      refine cFW (nT (dT rfl)) (bnd (eM A A') (stp ?_))
      by_cases h3:A=A'
      ·
       subst h3
       refine cFW (nT (dT rfl)) (bnd (eM B B') (stp (congrArg some ?_)))
       by_cases h4:B=B'
       · subst h4;rw [dT rfl,dT rfl]
       · rw [dF h4,dF (fun e=>h4 (Prod.ext_iff.1 (Prod.ext_iff.1 (Prod.ext_iff.1 e).2).2).2)]
      ·
       rw [dF (fun e=>h3 (Prod.ext_iff.1 (Prod.ext_iff.1 (Prod.ext_iff.1 e).2).2).1)]
       exact cTW (nF (dF h3)) rfl
     ·
      rw [dF (fun e=>h2 (Prod.ext_iff.1 (Prod.ext_iff.1 e).2).1)]
      exact cTW (nF (dF h2)) rfl
    ·
     rw [dF (fun e=>h1 (Prod.ext_iff.1 e).1)]
     exact cTW (nF (dF h1)) rfl
   ·
    by_cases h1:x=y
    · rw [if_pos h1];exact cFW (nT (dT h1)) rfl
    · rw [if_neg h1];exact cTW (nF (dF h1)) rfl
  ·
   by_cases h2:E=E'
   · subst h2;rw [if_pos rfl,dT rfl];rfl
   · rw [if_neg h2,dF (fun e=>h2 (Prod.ext_iff.1 (Prod.ext_iff.1 e).2).1)];rfl
 ·
  rw [dF (fun e=>h (by
   obtain ⟨h1,h2⟩:=Prod.ext_iff.1 e
   obtain ⟨h3,h4⟩:=Prod.ext_iff.1 h2
   obtain ⟨h5,h6⟩:=Prod.ext_iff.1 h4
   dsimp only at h1 h3 h5 h6
   exact ⟨h1,by rw [h3],h5,h6⟩))]
  refine bnd (a:=true) (stp ?_) (cTW rfl rfl)
  by_cases h1:n=m
  ·
   refine cFW (nT (dT h1)) (stp ?_)
   by_cases h2:E.length=E'.length
   ·
    refine cFW (nT (dT (congrArg Nat.cast h2))) (bnd (eM I I') (stp ?_))
    by_cases h3:I=I'
    · refine cFW (nT (dT h3)) (bnd (eM O O') (stp (congrArg some (nF (dF fun h4=>h ⟨h1,h2,h3,h4⟩)))))
    · exact cTW (nF (dF h3)) rfl
   · exact cTW (nF (dF (fun e=>h2 (Int.ofNat.inj e)))) rfl
  · exact cTW (nF (dF h1)) rfl
theorem EY_ (x y:Edg):kV x y=some (decide (x=y)):=by
 obtain ⟨k,v,A,B⟩:=x
 obtain ⟨k',v',A',B'⟩:=y
 refine bnd (a:=decide ((k,v,A,B)=(k',v',A',B'))) (stp ?_) rfl
 by_cases h1:k=k'
 ·
  subst h1
  refine cTW (dT rfl) (stp ?_)
  by_cases h2:v=v'
  ·
   subst h2
   refine cTW (dT rfl) (bnd (iS A A') ?_)
   by_cases h3:A=A'
   ·
    subst h3
    refine cTW (dT rfl) (bnd (iS B B') (congrArg some ?_))
    by_cases h4:B=B'
    · subst h4;rw [dT rfl,dT rfl]
    · rw [dF h4,dF (fun e=>h4 (Prod.ext_iff.1 (Prod.ext_iff.1 (Prod.ext_iff.1 e).2).2).2)]
   ·
    rw [dF (fun e=>h3 (Prod.ext_iff.1 (Prod.ext_iff.1 (Prod.ext_iff.1 e).2).2).1)]
    exact cFW (dF h3) rfl
  ·
   rw [dF (fun e=>h2 (Prod.ext_iff.1 (Prod.ext_iff.1 e).2).1)]
   exact cFW (dF h2) rfl
 ·
  rw [dF (fun e=>h1 (Prod.ext_iff.1 e).1)]
  exact cFW (dF h1) rfl
theorem EK_ (a b:Gra):aV a b=some (decide (a=b)):=by
 obtain ⟨n,E,I,O⟩:=a
 obtain ⟨m,E',I',O'⟩:=b
 refine bnd (a:=decide ((n,E,I,O)=(m,E',I',O'))) (stp ?_) rfl
 by_cases h1:n=m
 ·
  subst h1
  refine cTW (dT rfl) (bnd (iS I I') ?_)
  by_cases h2:I=I'
  ·
   subst h2
   refine cTW (dT rfl) (bnd (iS O O') ?_)
   by_cases h3:O=O'
   ·
    subst h3
    refine cTW (dT rfl) (bnd (uX E E' (fun _ _ x y hx hy=>bnd (pA hx) (bnd (pA hy) (bnd (EY_ x y) stepE)))) (congrArg some ?_))
    by_cases h4:E=E'
    · subst h4;rw [dT rfl,dT rfl]
    · rw [dF h4,dF (fun e=>h4 (Prod.ext_iff.1 (Prod.ext_iff.1 e).2).1)]
   ·
    rw [dF (fun e=>h3 (Prod.ext_iff.1 (Prod.ext_iff.1 (Prod.ext_iff.1 e).2).2).2)]
    exact cFW (dF h3) rfl
  ·
   rw [dF (fun e=>h2 (Prod.ext_iff.1 (Prod.ext_iff.1 (Prod.ext_iff.1 e).2).2).1)]
   exact cFW (dF h2) rfl
 ·
  rw [dF (fun e=>h1 (Prod.ext_iff.1 e).1)]
  exact cFW (dF h1) rfl
def tG (p:Int) (g:Gra):Bool:=fdB p&&(gOk g&&g.2.1.all fun e=>decide (¬p≤e.2.1))
theorem sS (p:Int) (g:Gra):fN p g=some (tG p g):=by
 unfold tG
 cases hf:fdB p with
 | false=>exact bnd (a:=true) (bnd (eT p) (stp (by rw [hf];exact cTW rfl rfl))) (cTW rfl rfl)
 | true=>
  cases hg:gOk g with
  | false=>exact bnd (a:=true) (bnd (eT p) (stp (by rw [hf];exact cFW rfl (bnd (jO g) (stp (by rw [hg];rfl)))))) (cTW rfl rfl)
  | true=>
   rw [Bool.true_and,Bool.true_and]
   refine bnd (a:=false) (bnd (eT p) (stp (by rw [hf];exact cFW rfl (bnd (jO g) (stp (by rw [hg];rfl)))))) (cFW rfl (sqW (fG (fun e:Edg=>decide (¬p≤e.2.1)) g.2.1 0 (t:=false) (fun j e hj=>?_)) ?_))
   ·
    rw [Nat.zero_add]
    refine bnd (pA hj) (stp ?_)
    by_cases h:p≤e.2.1
    · rw [show decide (¬p≤e.2.1)=false from dF (fun n=>n h)];exact cTW (dT h) rfl
    · rw [show decide (¬p≤e.2.1)=true from dT h];exact cFW (dF h) rfl
   · cases g.2.1.all fun e:Edg=>decide (¬p≤e.2.1) <;> rfl
theorem At_ (p:Int) (g:Gra):yU p g=some (tG p g):=by
 unfold tG
 cases hf:fdB p with
 | false=>exact bnd (a:=true) (bnd (nX p) (stp (by rw [hf];exact cTW rfl rfl))) (cTW rfl rfl)
 | true=>
  have hp:=aC hf
  cases hg:gOk g with
  | false=>exact bnd (a:=true) (bnd (nX p) (stp (by rw [hf];exact cFW rfl (bnd (zR g) (stp (by rw [hg];rfl)))))) (cTW rfl rfl)
  | true=>
   obtain ⟨n,hk⟩:=vN hg
   rw [Bool.true_and,Bool.true_and]
   refine bnd (a:=false) (bnd (nX p) (stp (by rw [hf];exact cFW rfl (bnd (zR g) (stp (by rw [hg];rfl)))))) (cFW rfl (sqW (fG (fun e:Edg=>decide (¬p≤e.2.1)) g.2.1 0 (t:=false) (fun j e hj=>?_)) ?_))
   ·
    rw [Nat.zero_add]
    have hgen:=(Bb_ (List.all_eq_true.1 hk.ar _ (dE hj))).1
    unfold wD at hgen
    rw [Bool.and_eq_true] at hgen
    have hgen:=hgen.2
    refine bnd (pA hj) (bnd (a:=decide (p≤e.2.1)) (bnd (FM_ e.1) ?_) ?_)
    ·
     by_cases h7:e.1=7∨e.1=13
     · exact cTW (dT h7) rfl
     ·
      rw [if_neg h7] at hgen
      have:=of_decide_eq_true hgen
      rw [dF (show ¬p≤e.2.1 by omega)]
      exact cFW (dF h7) rfl
    ·
     by_cases h:p≤e.2.1
     · rw [show decide (¬p≤e.2.1)=false from dF (fun n=>n h)];exact cTW (dT h) rfl
     · rw [show decide (¬p≤e.2.1)=true from dT h];exact cFW (dF h) rfl
   · cases g.2.1.all fun e:Edg=>decide (¬p≤e.2.1) <;> rfl
def stG (p:Int) (g:Gra):Bool:=tG p g&&g.2.1.all fun e=>decide (e.1≠8∧e.1≠14)
theorem Gp_ (p:Int) (g:Gra):xP p g=some (stG p g):=by
 unfold stG
 cases hg:tG p g with
 | false=>exact bnd (sS p g) (stp (cTW (nF hg) rfl))
 | true=>
  refine bnd (sS p g) (stp (cFW (nT hg) (sqW (fG (fun e:Edg=>decide (e.1≠8∧e.1≠14)) g.2.1 0 (t:=false) (fun j e hj=>?_)) ?_)))
  ·
   rw [Nat.zero_add]
   refine bnd (pA hj) (bnd (AW_ e.1) (stp ?_))
   cases decide (e.1≠8∧e.1≠14) <;> rfl
  · cases g.2.1.all fun e:Edg=>decide (e.1≠8∧e.1≠14) <;> rfl
theorem Ge_ (k:Int):bQ k=some (!decide (k≠8∧k≠14)):=by
 unfold bQ
 by_cases h1:k=8
 · simp [h1]
 · by_cases h2:k=14 <;> simp [h1,h2]
theorem A7_ (p:Int) (g:Gra):mU g p=some (stG p g):=by
 unfold stG
 cases hg:tG p g with
 | false=>exact bnd (At_ p g) (stp (cTW (nF hg) rfl))
 | true=>
  refine bnd (At_ p g) (stp (cFW (nT hg) (sqW (fG (fun e:Edg=>decide (e.1≠8∧e.1≠14)) g.2.1 0 (t:=false) (fun j e hj=>?_)) ?_)))
  ·
   rw [Nat.zero_add]
   refine bnd (pA hj) (bnd (Ge_ e.1) ?_)
   cases decide (e.1≠8∧e.1≠14) <;> rfl
  · cases g.2.1.all fun e:Edg=>decide (e.1≠8∧e.1≠14) <;> rfl
theorem uU (p:Int) (g:Gra):∃ r,nP p g=some r∧qP p g=some r:=by
 cases hs:stG p g with
 | false=>
  refine ⟨(false,false),?_,bnd (A7_ p g) (stp (cTW (nF hs) rfl))⟩
  refine bnd (sS p g) (stp ?_)
  cases hg:tG p g with
  | false=>rfl
  | true=>
   have hD:cN p g=some ((0,0,[]),false):=bnd (Gp_ p g) (stp (cTW (nF hs) rfl))
   exact cFW rfl (bnd hD (stp (cTW rfl rfl)))
 | true=>
  have h:=hs
  unfold stG tG at h
  simp only [Bool.and_eq_true] at h
  obtain ⟨⟨hf,hgo,hall⟩,hst⟩:=h
  have hg:tG p g=true:=by
   unfold tG
   rw [hf,hgo,hall];rfl
  obtain ⟨a,b,R,hR,ha,hb,hd,hi⟩:=Gg_ hf hgo fun e he=>⟨by have:=of_decide_eq_true (List.all_eq_true.1 hall e he);omega,of_decide_eq_true (List.all_eq_true.1 hst e he)⟩
  obtain ⟨G,g1,g2,g3⟩:=Er_ hR ha hb
  refine ⟨if G.2 then (decide (G.1=g),true) else (false,true),bnd (sS p g) (stp (cFW (nT hg) (bnd hd (stp (cFW rfl (bnd g1 ?_)))))),bnd (A7_ p g) (stp (cFW (nT hs) (bnd hi (bnd g2 ?_))))⟩
  ·
   cases G.2 with
   | false=>rfl
   | true=>exact bnd (bnd (axSame_ G.1 g) rfl) rfl
  ·
   cases G.2 with
   | false=>rfl
   | true=>exact bnd (bnd (EK_ G.1 g) rfl) rfl
noncomputable def Aa_ (p:Int) (g:Gra):Bool×Bool:=(uU p g).choose
theorem pZ (p:Int) (g:Gra):nP p g=some (Aa_ p g):=(uU p g).choose_spec.1
theorem DV_ (p:Int) (g:Gra):qP p g=some (Aa_ p g):=(uU p g).choose_spec.2
end Go.Proofs.YtngbmcbigcaapaaGreatDoor
namespace Go.Proofs.YtngbmcbigcaapaaGreatDoor
set_option linter.unusedVariables false
theorem DE_ (a0:Int) (a1:lK) (i0:Nice.ok a0) (i1:Nice.ok a1):fZ a0 a1=some true:=by
 have hbig:wE=4611686018427387904:=rfl
 refine bnd (z_Graph a1 1048576 (by omega) (by rw [hbig];omega) (Et_ i1)) (stp ?_)
 by_cases gaG:(nGraph a1:Int)≤1048576
 case neg=>rw [if_neg gaG];exact cTW (dT (by omega)) rfl
 rw [if_pos gaG]
 refine cFW (dF (by omega)) ?_
 have haG:nGraph a1≤1048576:=by omega
 first
 | refine bnd (fS a1 haG) (bnd (pZ a0 a1) ?_)
 | refine bnd (bnd (fS a1 haG) (bnd (pZ a0 a1) rfl)) ?_
 refine bnd (fS a1 haG) ?_
 refine bnd (DV_ a0 a1) ?_
 refine bnd (a:=false) (stp (cFW (nT (dT rfl)) (stp (congrArg some (nT (dT rfl)))))) (cFW rfl ?_)
 refine bnd (fS _ haG) (bnd (e_Graph _ haG) (stp (cFW rfl ?_)))
 rfl
end Go.Proofs.YtngbmcbigcaapaaGreatDoor
