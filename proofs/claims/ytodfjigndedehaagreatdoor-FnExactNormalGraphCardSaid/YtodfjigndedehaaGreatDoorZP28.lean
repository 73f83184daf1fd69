/-
  Plain laws: a reduction, in the reference and in the program, step by step alike. No program in sight. No condition.
-/
import Derived.Test.YtodfjigndedehaaGreatDoorZP11
import Derived.Test.YtodfjigndedehaaGreatDoorZP92
namespace Go.Proofs.YtodfjigndedehaaGreatDoor
def kC {α:Type} (g:Nat→α→α) (l:List α) (j:Nat):List α:=(l.take j).mapIdx g++l.drop j
theorem partG0 {α:Type} (g:Nat→α→α) (l:List α):kC g l 0=l:=by simp [kC]
theorem uR {α:Type} (g:Nat→α→α) (l:List α):kC g l l.length=l.mapIdx g:=by simp [kC]
theorem xH {α:Type} (g:Nat→α→α) (l:List α) (j:Nat):(kC g l j).length=l.length:=by simp [kC];omega
theorem I0_ {α:Type} (g:Nat→α→α) (l:List α) (j k:Nat):(kC g l j)[k]?=if k<j then l[k]?.map (g k) else l[k]?:=by
 unfold kC
 by_cases h:k<((l.take j).mapIdx g).length
 ·
  rw [List.getElem?_append_left h]
  have h2:k<j:=by simp at h;omega
  rw [if_pos h2,List.getElem?_mapIdx,List.getElem?_take,if_pos h2]
 ·
  rw [List.getElem?_append_right (by omega)]
  have h1:¬k<min j l.length:=by simpa using h
  by_cases h2:k<j
  ·
   rw [if_pos h2,List.getElem?_eq_none (by omega:l.length≤k)]
   rw [List.getElem?_drop,List.getElem?_eq_none (by simp;omega)];rfl
  ·
   rw [if_neg h2,List.getElem?_drop]
   by_cases h3:l.length≤j
   · rw [List.getElem?_eq_none (by simp;omega),List.getElem?_eq_none (by omega)]
   · congr 1;simp;omega
theorem pL {g:Nat→List Int→List Int}{m:Rows}{j k:Nat} (hk:k<m.length):gr (kC g m j) k=if k<j then g k (gr m k) else gr m k:=by
 have h1:=wE (m:=kC g m j) (i:=k) (by rw [xH];exact hk)
 rw [I0_,wE hk] at h1
 split at h1
 · rename_i h;rw [if_pos h];exact (Option.some.inj h1).symm
 · rename_i h;rw [if_neg h];exact (Option.some.inj h1).symm
theorem sU {g:Nat→List Int→List Int}{m:Rows}{j:Nat} (hj:j<m.length):(kC g m j).set j (g j (gr m j))=kC g m (j+1):=by
 have h2:gr m j=m[j]:=by have:=wE hj;rw [List.getElem?_eq_getElem hj] at this;exact (Option.some.inj this).symm
 rw [h2]
 exact DQ_ m g j hj
def scanN (m:Rows) (c:Nat):Nat→Nat→Nat
 | 0,k=>k
 | d+1,k=>if el (gr m k) c=0 then scanN m c d (k+1) else k
theorem rI (m:Rows) (c:Nat):∀ (d k:Nat),k+d=m.length→k≤scanN m c d k∧scanN m c d k≤m.length∧(scanN m c d k<m.length→el (gr m (scanN m c d k)) c≠0)
 | 0,k,h=>⟨Nat.le_refl _,by simp only [scanN];omega,fun h2=>by simp only [scanN] at h2;omega⟩
 | d+1,k,h=>by
  unfold scanN
  split
  ·
   obtain ⟨h1,h2,h3⟩:=rI m c d (k+1) (by omega)
   exact ⟨by omega,h2,h3⟩
  ·
   rename_i hne
   exact ⟨Nat.le_refl _,by omega,fun _=>hne⟩
theorem scan_ {f:Int→Option (Int⊕Int)}{m:Rows}{c:Nat} (hf:∀ k:Nat,k<m.length→f (k:Int)=some (if el (gr m k) c=0 then .inl ((k:Int)+1) else .inr (k:Int))) (he:f (m.length:Int)=some (.inr (m.length:Int))) :
  ∀ (d k:Nat),k+d=m.length→qB f (k:Int)=some ((scanN m c d k:Nat):Int)
 | 0,k,h=>by
  have:k=m.length:=by omega
  subst this
  rw [dE he];rfl
 | d+1,k,h=>by
  have h1:=hf k (by omega)
  unfold scanN
  by_cases h0:el (gr m k) c=0
  ·
   rw [if_pos h0] at h1 ⊢
   rw [lF h1]
   exact scan_ hf he d (k+1) (by omega)
  ·
   rw [if_neg h0] at h1 ⊢
   exact dE h1
def yB (p:Int) (c r:Nat) (m a:Rows):Nat→List Int→List Int:=fun i row=>if i=r∨el (gr m i) c=0 then row else oD (qE p (el (gr m i) c) (gr a r)) row
def kP (p:Int) (c r:Nat) (m a:Rows):Rows:=a.mapIdx (yB p c r m a)
theorem Jh_ (p:Int) (c r:Nat) (m a:Rows):(kP p c r m a).length=a.length:=by simp [kP]
theorem Er_ {p:Int}{c r:Nat}{m a:Rows}{i:Nat} (h:i<a.length):gr (kP p c r m a) i=yB p c r m a i (gr a i):=by
 have:=pL (g:=yB p c r m a) (j:=a.length) h
 rw [uR,if_pos h] at this
 exact this
theorem A4_ {p:Int}{c r n:Nat}{m a:Rows} (hp:2≤p){i:Nat}{row:List Int} (hr:row.length=n∧inP p row):(yB p c r m a i row).length=n∧inP p (yB p c r m a i row):=by
 unfold yB
 split
 · exact hr
 · exact ⟨by rw [mV];exact hr.1,E3_ hp (fun j x=>⟨_,rfl⟩) _⟩
theorem JK_ {p:Int}{c r n:Nat}{m a:Rows} (hp:2≤p) (h:okM p n a):okM p n (kP p c r m a):=by
 intro x hx
 obtain ⟨i,hi,rfl⟩:=List.mem_iff_getElem.1 hx
 unfold kP at hi ⊢
 rw [List.getElem_mapIdx]
 have hi':i<a.length:=by simpa using hi
 exact A4_ hp (h _ (List.getElem_mem hi'))
def pB (p:Int) (c:Nat) (m a:Rows) (r k:Nat):Rows:=eK p (iE p (el (gr (bC m r k) r) c)) (bC a r k) r
def xB (p:Int) (c:Nat) (m a:Rows) (r k:Nat):Rows:=kP p c r (pB p c m m r k) (pB p c m a r k)
theorem jO (p:Int) (c:Nat) (m a:Rows) (r k:Nat):(pB p c m a r k).length=a.length:=by unfold pB;rw [H9_,qG]
theorem eE (p:Int) (c:Nat) (m a:Rows) (r k:Nat):(xB p c m a r k).length=a.length:=by unfold xB;rw [Jh_,jO]
theorem bW {p:Int}{c n:Nat}{m a:Rows}{r k:Nat} (hp:2≤p) (h:okM p n a) (hr:r<a.length) (hk:k<a.length):okM p n (pB p c m a r k):=
 IR_ hp (tM h hr hk) (by rw [qG];exact hr)
theorem zG {p:Int}{c n:Nat}{m a:Rows}{r k:Nat} (hp:2≤p) (h:okM p n a) (hr:r<a.length) (hk:k<a.length):okM p n (xB p c m a r k):=JK_ hp (bW hp h hr hk)
def aC (p:Int):Nat→Nat→Rows→Rows→Nat→Rows×Rows×Nat
 | 0,_,m,a,r=>(m,a,r)
 | d+1,c,m,a,r=>
  if r<m.length then
   if scanN m c (m.length-r) r=m.length then aC p d (c+1) m a r
   else aC p d (c+1) (xB p c m m r (scanN m c (m.length-r) r)) (xB p c m a r (scanN m c (m.length-r) r)) (r+1)
  else (m,a,r)
noncomputable def wQ (p n:Int) (st:Rows×Int×Int):Option ((Rows×Int×Int)⊕(Rows×Int)):=
   ((some (decide (st.2.2<n))).bind fun a23919=>
    cond a23919
    ((some (decide (st.2.1<((st.1.length:Nat):Int)))).bind fun a23923=>
     some a23923)
    (some false)).bind fun (s23913:Bool)=>
   cond s23913
   (((qB (fun (s26612:Int)=>
       ((some (decide (s26612<((st.1.length:Nat):Int)))).bind fun a26650=>
        cond a26650
        ((idxO st.1 s26612).bind fun a26660=>
         (idxO a26660 st.2.2).bind fun a26669=>
         (some (decide (a26669=0))).bind fun a26671=>
         some a26671)
        (some false)).bind fun (s26644:Bool)=>
       cond s26644
       ((nA s26612 1).bind fun a26678=>
        some (.inl a26678))
       (some (.inr s26612))) st.2.1).bind fun (s26486:Int)=>
     (some (decide (s26486=((st.1.length:Nat):Int)))).bind fun a26682=>
     cond a26682
     (some (st.1,st.2.1))
     ((idxO st.1 st.2.1).bind fun _=>
      (idxO st.1 s26486).bind fun _=>
      (dN st.1 st.2.1 s26486).bind fun a26717=>
      (idxO a26717 st.2.1).bind fun a26725=>
      (idxO a26725 st.2.2).bind fun a26734=>
      (hU p a26734).bind fun y26736=>
      (idxO a26717 st.2.1).bind fun a26745=>
      (forS (fun (k26749:Nat) (s26838:List (List Int))=>
        (idxO s26838 st.2.1).bind fun a26854=>
        (idxO s26838 st.2.1).bind fun a26863=>
        (idxO a26863 ((k26749:Nat):Int)).bind fun a26872=>
        (vH p a26872 y26736).bind fun y26874=>
        (setO a26854 ((k26749:Nat):Int) y26874).bind fun a26884=>
        (setO s26838 st.2.1 a26884).bind fun a26887=>
        some a26887) a26745.length 0 a26717).bind fun (s26891:List (List Int))=>
      (forS (fun (k26893:Nat) (s28062:List (List Int))=>
        (((some (decide (((k26893:Nat):Int)=st.2.1))).bind fun a28393=>
          cond a28393
          (some true)
          ((idxO s28062 ((k26893:Nat):Int)).bind fun a28402=>
           (idxO a28402 st.2.2).bind fun a28411=>
           (some (decide (a28411=0))).bind fun a28413=>
           some a28413)).bind fun (s28387:Bool)=>
         cond s28387
         (some s28062)
         ((idxO s28062 ((k26893:Nat):Int)).bind fun a28425=>
          (idxO a28425 st.2.2).bind fun a28434=>
          (idxO s28062 ((k26893:Nat):Int)).bind fun a28442=>
          (forS (fun (k28446:Nat) (s28575:List (List Int))=>
            (idxO s28575 ((k26893:Nat):Int)).bind fun a28591=>
            (idxO s28575 ((k26893:Nat):Int)).bind fun a28600=>
            (idxO s28575 st.2.1).bind fun a28609=>
            (idxO a28600 ((k28446:Nat):Int)).bind fun a28618=>
            (idxO a28609 ((k28446:Nat):Int)).bind fun a28626=>
            (vH p a28434 a28626).bind fun y28628=>
            (pM p a28618 y28628).bind fun y28631=>
            (setO a28591 ((k28446:Nat):Int) y28631).bind fun a28641=>
            (setO s28575 ((k26893:Nat):Int) a28641).bind fun a28644=>
            some a28644) a28442.length 0 s28062).bind fun (s28648:List (List Int))=>
          some s28648)).bind fun (s28358:List (List Int))=>
        some s28358) s26891.length 0 s26891).bind fun (s28655:List (List Int))=>
      (nA st.2.1 1).bind fun a28657=>
      some (s28655,a28657))).bind fun (s26292:List (List Int)×Int)=>
    (nA st.2.2 1).bind fun a28662=>
    some (.inl (s26292.1,s26292.2,a28662)))
   (some (.inr (st.1,st.2.1)))
theorem IO_ {p:Int}{n N c r:Nat}{m:Rows} (hf:fdB p=true) (h:okM p N m) (hn:n≤N) (hN:N≤1048576) (hL:m.length≤1048576) (hr:r<m.length) (hc:c<n) :
  wQ p (n:Int) (m,(r:Int),(c:Int))=some (.inl (if scanN m c (m.length-r) r=m.length then (m,(r:Int),(c:Int)+1) else (xB p c m m r (scanN m c (m.length-r) r),(r:Int)+1,(c:Int)+1))):=by
 have hp:=gC hf
 unfold wQ
 dsimp only
 refine bnd (a:=true) (stp (cTW (dT (by omega)) (stp (by rw [dT (by omega)])))) (cTW rfl ?_)
 have hsc:∀ {f:Int→Option (Int⊕Int)},(∀ k:Nat,k<m.length→f (k:Int)=some (if el (gr m k) c=0 then .inl ((k:Int)+1) else .inr (k:Int)))→f (m.length:Int)=some (.inr (m.length:Int))→qB f (r:Int)=some ((scanN m c (m.length-r) r:Nat):Int):=fun h1 h2=>scan_ h1 h2 _ _ (by omega)
 obtain ⟨s1,s2,s3⟩:=rI m c (m.length-r) r (by omega)
 generalize scanN m c (m.length-r) r=k at hsc s1 s2 s3 ⊢
 refine bnd (a:=if k=m.length then (m,(r:Int)) else (xB p c m m r k,(r:Int)+1)) ?_ ?_
 ·
  refine bnd (hsc ?_ ?_) (stp ?_)
  ·
   intro i hi
   have hrow:=nC h hi
   refine bnd (a:=decide (el (gr m i) c=0)) (stp (cTW (dT (by omega)) (bnd (eD hi) (bnd (gE (by omega)) rfl)))) ?_
   by_cases h0:el (gr m i) c=0
   · rw [if_pos h0];exact cTW (dT h0) (bnd (gB (by omega) (by omega)) rfl)
   · rw [if_neg h0];exact cFW (dF h0) rfl
  · exact bnd (a:=false) (stp (cFW (dF (by omega)) rfl)) (cFW rfl rfl)
  ·
   by_cases hk:k=m.length
   · rw [if_pos hk];exact cTW (dT (by omega)) rfl
   ·
    rw [if_neg hk]
    have hkl:k<m.length:=by omega
    have hne:=s3 hkl
    refine cFW (dF (by omega)) ?_
    refine bnd (eD hr) (bnd (eD hkl) (bnd (FD_ hr hkl) ?_))
    have h1:okM p N (bC m r k):=tM h hr hkl
    have hr1:r<(bC m r k).length:=by rw [qG];exact hr
    have hrow:=nC h1 hr1
    have hel:=fI h1 hr1 (show c<N by omega)
    have hnz:el (gr (bC m r k) r) c≠0:=by rw [iO hr hkl];exact hne
    obtain ⟨_,i1,i2,i3⟩:=dR hf (x:=el (gr (bC m r k) r) c) ⟨by omega,hel.2⟩
    change (idxO (bC m r k) (r:Int)).bind _=_
    refine bnd (eD hr1) (bnd (gE (by omega)) (bnd (fdInv_ hf ⟨by omega,hel.2⟩) (bnd (eD hr1) ?_)))
    refine bnd (IP_ hp h1 hr1 ⟨i2,i3⟩) ?_
    change (forS _ (pB p c m m r k).length 0 (pB p c m m r k)).bind _=_
    have h2:okM p N (pB p c m m r k):=bW hp.1 h hr hkl
    have hl2:(pB p c m m r k).length=m.length:=jO p c m m r k
    have hr2:r<(pB p c m m r k).length:=by omega
    have:=vC (n:=(pB p c m m r k).length) (fun i=>kC (yB p c r (pB p c m m r k) (pB p c m m r k)) (pB p c m m r k) i) (f:=(fun (k26893:Nat) (s28062:List (List Int))=>
        (((some (decide (((k26893:Nat):Int)=(r:Int)))).bind fun a28393=>
          cond a28393
          (some true)
          ((idxO s28062 ((k26893:Nat):Int)).bind fun a28402=>
           (idxO a28402 (c:Int)).bind fun a28411=>
           (some (decide (a28411=0))).bind fun a28413=>
           some a28413)).bind fun (s28387:Bool)=>
         cond s28387
         (some s28062)
         ((idxO s28062 ((k26893:Nat):Int)).bind fun a28425=>
          (idxO a28425 (c:Int)).bind fun a28434=>
          (idxO s28062 ((k26893:Nat):Int)).bind fun a28442=>
          (forS (fun (k28446:Nat) (s28575:List (List Int))=>
            (idxO s28575 ((k26893:Nat):Int)).bind fun a28591=>
            (idxO s28575 ((k26893:Nat):Int)).bind fun a28600=>
            (idxO s28575 (r:Int)).bind fun a28609=>
            (idxO a28600 ((k28446:Nat):Int)).bind fun a28618=>
            (idxO a28609 ((k28446:Nat):Int)).bind fun a28626=>
            (vH p a28434 a28626).bind fun y28628=>
            (pM p a28618 y28628).bind fun y28631=>
            (setO a28591 ((k28446:Nat):Int) y28631).bind fun a28641=>
            (setO s28575 ((k26893:Nat):Int) a28641).bind fun a28644=>
            some a28644) a28442.length 0 s28062).bind fun (s28648:List (List Int))=>
          some s28648)).bind fun (s28358:List (List Int))=>
        some s28358)) ?_
    ·
     rw [partG0,uR] at this
     exact bnd this (bnd (gB (by omega) (by omega)) rfl)
    ·
     generalize pB p c m m r k=w at h2 hl2 hr2
     intro i hi
     have hg1:gr (kC (yB p c r w w) w i) i=gr w i:=by rw [pL hi,if_neg (by omega)]
     have hg2:gr (kC (yB p c r w w) w i) r=gr w r:=by
      rw [pL hr2]
      split
      · unfold yB;rw [if_pos (Or.inl rfl)]
      · rfl
     have hrow2:=nC h2 hi
     have hli:i<(kC (yB p c r w w) w i).length:=by rw [xH];exact hi
     have hlr:r<(kC (yB p c r w w) w i).length:=by rw [xH];exact hr2
     have hok:okM p N (kC (yB p c r w w) w i):=by
      intro x hx
      obtain ⟨q,hq,rfl⟩:=List.mem_iff_getElem.1 hx
      have hq':q<w.length:=by rw [xH] at hq;exact hq
      have h5:=wE (m:=kC (yB p c r w w) w i) (i:=q) hq
      rw [List.getElem?_eq_getElem hq] at h5
      rw [Option.some.inj h5,pL hq']
      split
      · exact A4_ hp.1 (nC h2 hq')
      · exact nC h2 hq'
     have hset:=sU (g:=yB p c r w w) (m:=w) hi
     have i1:=eD hli
     rw [hg1] at i1
     by_cases hir:i=r
     ·
      refine bnd (a:=kC (yB p c r w w) w (i+1)) (bnd (a:=true) (stp (cTW (dT (by omega)) rfl)) (cTW rfl ?_)) rfl
      rw [←hset]
      have:yB p c r w w i (gr w i)=gr w i:=by unfold yB;rw [if_pos (Or.inl hir)]
      rw [this,← hg1,aN hli]
     ·
      by_cases h0:el (gr w i) c=0
      ·
       refine bnd (a:=kC (yB p c r w w) w (i+1)) (bnd (a:=true) (stp (cFW (dF (by omega)) (bnd i1 (bnd (gE (by omega)) (stp (by rw [dT h0])))))) (cTW rfl ?_)) rfl
       rw [←hset]
       have:yB p c r w w i (gr w i)=gr w i:=by unfold yB;rw [if_pos (Or.inr h0)]
       rw [this,← hg1,aN hli]
      ·
       refine bnd (a:=kC (yB p c r w w) w (i+1)) (bnd (a:=false) (stp (cFW (dF (by omega)) (bnd i1 (bnd (gE (by omega)) (stp (by rw [dF h0])))))) (cFW rfl ?_)) rfl
       refine bnd i1 (bnd (gE (by omega)) (bnd i1 ?_))
       have hfe:=fI h2 hi (show c<N by omega)
       have:=specSub (f:=el (gr w i) c) hp hok hlr hli hir hfe
       rw [hg1,hg2] at this
       refine bnd this ?_
       rw [←hset]
       unfold yB
       rw [if_neg (by intro h;rcases h with h | h;exact hir h;exact h0 h)]
 ·
  by_cases hk:k=m.length
  · rw [if_pos hk,if_pos hk];exact bnd (gB (by omega) (by omega)) rfl
  · rw [if_neg hk,if_neg hk];exact bnd (gB (by omega) (by omega)) rfl
theorem AD_ {p:Int}{n N:Nat} (hf:fdB p=true) (hn:n≤N) (hN:N≤1048576):∀ (d c:Nat) (m a:Rows) (r:Nat),c+d=n→okM p N m→m.length≤1048576→r≤m.length→qB (wQ p (n:Int)) (m,(r:Int),(c:Int))=some ((aC p d c m a r).1,((aC p d c m a r).2.2:Int))
 | 0,c,m,a,r,hc,h,hL,hr=>by
  refine dE ?_
  unfold wQ
  exact bnd (a:=false) (stp (cFW (dF (by dsimp only;omega)) rfl)) (cFW rfl rfl)
 | d+1,c,m,a,r,hc,h,hL,hr=>by
  unfold aC
  by_cases hrl:r<m.length
  ·
   rw [if_pos hrl]
   have hs:=IO_ hf h hn hN hL hrl (show c<n by omega)
   obtain ⟨s1,s2,s3⟩:=rI m c (m.length-r) r (by omega)
   split
   ·
    rename_i hk
    rw [if_pos hk] at hs
    rw [lF hs]
    exact AD_ hf hn hN d (c+1) m a r (by omega) h hL hr
   ·
    rename_i hk
    rw [if_neg hk] at hs
    rw [lF hs]
    have hkl:scanN m c (m.length-r) r<m.length:=by omega
    exact AD_ hf hn hN d (c+1) _ _ (r+1) (by omega) (zG (gC hf).1 h hrl hkl) (by rw [eE];exact hL) (by rw [eE];omega)
  ·
   rw [if_neg hrl]
   refine dE ?_
   unfold wQ
   exact bnd (a:=false) (stp (cTW (dT (by dsimp only;omega)) (stp (by rw [dF (by dsimp only;omega)])))) (cFW rfl rfl)
end Go.Proofs.YtodfjigndedehaaGreatDoor
namespace Go.Proofs.YtodfjigndedehaaGreatDoor
theorem Da_ {p:Int}{l:Rows}{r k:Nat} (hr:r<l.length) (hk:k<l.length):eN (0,(r:Int),(k:Int),0) p l=some (bC l r k):=by
 refine stp (cTW rfl ?_)
 exact bnd (eD hk) (bnd (eD hr) (bnd (FD_ hr hk) rfl))
theorem DE_ {p x:Int}{n:Nat}{l:Rows}{r:Nat} (hf:fdB p=true) (h:okM p n l) (hr:r<l.length) (hx:0<x∧x<p):eN (1,(r:Int),0,x) p l=some (eK p (iE p x) l r):=by
 have hp:=gC hf
 obtain ⟨i0,_,i2,i3⟩:=dR hf hx
 refine stp (cFW rfl (stp (cTW rfl ?_)))
 exact bnd i0 (bnd (eD hr) (bnd (Jb_ hp (nC h hr).2 ⟨i2,i3⟩) (bnd (lC _ hr) rfl)))
theorem DD_ {p f:Int}{n:Nat}{l:Rows}{i r:Nat} (hp:2≤p∧p≤97) (h:okM p n l) (hi:i<l.length) (hr:r<l.length) (hir:i≠r) (hf:0≤f∧f<p):eN (2,(i:Int),(r:Int),f) p l=some (l.set i (oD (qE p f (gr l r)) (gr l i))):=by
 have h1:=nC h hi
 have h2:=nC h hr
 refine stp (cFW rfl (stp (cFW rfl (stp (cTW rfl ?_)))))
 refine bnd (eD hi) (bnd (nK ⟨by dsimp only;omega,by dsimp only;omega⟩) (bnd (eD hr) (bnd (implSub hp h1.2 h2.2 (by omega) hf) (bnd (a:=()) ?_ (bnd (lC _ hi) rfl)))))
 unfold neqO
 rw [if_neg (by dsimp only;omega)]
theorem IV_ {p:Int}{m a:Rows}{r k:Nat} (hr:r<m.length) (hk:k<m.length) (hl:a.length=m.length):uH (0,(r:Int),(k:Int),0) p m a=some (bC m r k,bC a r k):=by
 refine stp ?_
 by_cases h:k=r
 ·
  subst h
  rw [CV_ hr,CV_ (by omega)]
  exact cTW (dT rfl) rfl
 ·
  refine cFW (dF ?_) (bnd (Da_ hr hk) (bnd (Da_ (by omega) (by omega)) rfl))
  intro e
  simp only [List.cons.injEq] at e
  exact h (by have:=e.2.2.1;omega)
theorem Jy_ {p x:Int}{n q:Nat}{m a:Rows}{r:Nat} (hf:fdB p=true) (h:okM p n m) (ha:okM p q a) (hr:r<m.length) (hl:a.length=m.length) (hx:0<x∧x<p):uH (1,(r:Int),0,x) p m a=some (eK p (iE p x) m r,eK p (iE p x) a r):=by
 refine stp (cFW (dF ?_) (bnd (DE_ hf h hr hx) (bnd (DE_ hf ha (by omega) hx) rfl)))
 intro e
 simp only [List.cons.injEq] at e
 have:=e.1;omega
theorem Jx_ {p f:Int}{n q:Nat}{m a:Rows}{i r:Nat} (hp:2≤p∧p≤97) (h:okM p n m) (ha:okM p q a) (hi:i<m.length) (hr:r<m.length) (hl:a.length=m.length) (hir:i≠r) (hf:0≤f∧f<p) :
  uH (2,(i:Int),(r:Int),f) p m a=some (m.set i (oD (qE p f (gr m r)) (gr m i)),a.set i (oD (qE p f (gr a r)) (gr a i))):=by
 refine stp (cFW (dF ?_) (bnd (DD_ hp h hi hr hir hf) (bnd (DD_ hp ha (by omega) (by omega) hir hf) rfl)))
 intro e
 simp only [List.cons.injEq] at e
 have:=e.1;omega
theorem EZ_ {p:Int}{c r n:Nat}{m a:Rows} (hp:2≤p) (h:okM p n a) (i:Nat):okM p n (kC (yB p c r m a) a i):=by
 intro x hx
 obtain ⟨q,hq,rfl⟩:=List.mem_iff_getElem.1 hx
 have hq':q<a.length:=by rw [xH] at hq;exact hq
 have h5:=wE (m:=kC (yB p c r m a) a i) (i:=q) hq
 rw [List.getElem?_eq_getElem hq] at h5
 rw [Option.some.inj h5,pL hq']
 split
 · exact A4_ hp (nC h hq')
 · exact nC h hq'
theorem tU {p:Int}{c r:Nat}{m a:Rows}{i:Nat} (hi:i<a.length):gr (kC (yB p c r m a) a i) i=gr a i:=by rw [pL hi,if_neg (by omega)]
theorem DZ_ {p:Int}{c r:Nat}{m a:Rows} (i:Nat) (hr:r<a.length):gr (kC (yB p c r m a) a i) r=gr a r:=by
 rw [pL hr]
 split
 · unfold yB;rw [if_pos (Or.inl rfl)]
 · rfl
theorem rU {p:Int}{c r:Nat}{m a:Rows}{i:Nat} (hi:i<a.length) (h:i=r∨el (gr m i) c=0):kC (yB p c r m a) a (i+1)=kC (yB p c r m a) a i:=by
 rw [←sU hi]
 have h1:yB p c r m a i (gr a i)=gr a i:=by unfold yB;rw [if_pos h]
 rw [h1]
 have h2:=aN (m:=kC (yB p c r m a) a i) (i:=i) (by rw [xH];exact hi)
 rw [tU hi] at h2
 exact h2
theorem DY_ {p:Int}{c r:Nat}{m a:Rows}{i:Nat} (hi:i<a.length) (hir:i≠r) (h0:el (gr m i) c≠0):kC (yB p c r m a) a (i+1)=(kC (yB p c r m a) a i).set i (oD (qE p (el (gr m i) c) (gr a r)) (gr a i)):=by
 rw [←sU hi]
 have h1:yB p c r m a i (gr a i)=oD (qE p (el (gr m i) c) (gr a r)) (gr a i):=by unfold yB;rw [if_neg (by intro h;rcases h with h | h;exact hir h;exact h0 h)]
 rw [h1]
noncomputable def eR (p n:Int) (st:Rows×Rows×Int×Int):Option ((Rows×Rows×Int×Int)⊕(Rows×Rows×Int)):=
   ((some (decide (st.2.2.1<n))).bind fun a6807=>
    cond a6807
    ((some (decide (st.2.2.2<((st.1.length:Nat):Int)))).bind fun a6811=>
     some a6811)
    (some false)).bind fun (s6801:Bool)=>
   cond s6801
   (((qB (fun (s7797:Int)=>
       ((some (decide (s7797<((st.1.length:Nat):Int)))).bind fun a7835=>
        cond a7835
        ((idxO st.1 s7797).bind fun a7845=>
         (idxO a7845 st.2.2.1).bind fun a7854=>
         (some (decide (a7854=0))).bind fun a7856=>
         some a7856)
        (some false)).bind fun (s7829:Bool)=>
       cond s7829
       ((nA s7797 1).bind fun a7863=>
        some (.inl a7863))
       (some (.inr s7797))) st.2.2.2).bind fun (s7671:Int)=>
     (some (decide (s7671=((st.1.length:Nat):Int)))).bind fun a7867=>
     cond a7867
     (some (st.1,st.2.1,st.2.2.2))
     ((uH (0,st.2.2.2,s7671,0) p st.1 st.2.1).bind fun y7870=>
      (idxO y7870.1 st.2.2.2).bind fun a7879=>
      (idxO a7879 st.2.2.1).bind fun a7888=>
      (uH (1,st.2.2.2,0,a7888) p y7870.1 y7870.2).bind fun y7890=>
      (forS (fun (k7893:Nat) (s8050:List (List Int)×List (List Int))=>
        ((some (!decide (((k7893:Nat):Int)=st.2.2.2))).bind fun a8088=>
         cond a8088
         ((idxO s8050.1 ((k7893:Nat):Int)).bind fun a8098=>
          (idxO a8098 st.2.2.1).bind fun a8107=>
          (some (!decide (a8107=0))).bind fun a8109=>
          some a8109)
         (some false)).bind fun (s8082:Bool)=>
        cond s8082
        ((idxO s8050.1 ((k7893:Nat):Int)).bind fun a8121=>
         (idxO a8121 st.2.2.1).bind fun a8130=>
         (uH (2,((k7893:Nat):Int),st.2.2.2,a8130) p s8050.1 s8050.2).bind fun y8132=>
         some (y8132.1,y8132.2))
        (some (s8050.1,s8050.2))) y7890.1.length 0 (y7890.1,y7890.2)).bind fun (s8137:List (List Int)×List (List Int))=>
      (nA st.2.2.2 1).bind fun a8139=>
      some (s8137.1,s8137.2,a8139))).bind fun (s7477:List (List Int)×List (List Int)×Int)=>
    (nA st.2.2.1 1).bind fun a8144=>
    some (.inl (s7477.1,s7477.2.1,a8144,s7477.2.2)))
   (some (.inr (st.1,st.2.1,st.2.2.2)))
theorem Ja_ {p:Int}{n N q c r:Nat}{m a:Rows} (hf:fdB p=true) (h:okM p N m) (ha:okM p q a) (hn:n≤N) (hN:N≤1048576) (hL:m.length≤1048576) (hl:a.length=m.length) (hr:r<m.length) (hc:c<n) :
  eR p (n:Int) (m,a,(c:Int),(r:Int))=some (.inl (if scanN m c (m.length-r) r=m.length then (m,a,(c:Int)+1,(r:Int)) else (xB p c m m r (scanN m c (m.length-r) r),xB p c m a r (scanN m c (m.length-r) r),(c:Int)+1,(r:Int)+1))):=by
 have hp:=gC hf
 unfold eR
 dsimp only
 refine bnd (a:=true) (stp (cTW (dT (by omega)) (stp (by rw [dT (by omega)])))) (cTW rfl ?_)
 have hsc:∀ {f:Int→Option (Int⊕Int)},(∀ k:Nat,k<m.length→f (k:Int)=some (if el (gr m k) c=0 then .inl ((k:Int)+1) else .inr (k:Int)))→f (m.length:Int)=some (.inr (m.length:Int))→qB f (r:Int)=some ((scanN m c (m.length-r) r:Nat):Int):=fun h1 h2=>scan_ h1 h2 _ _ (by omega)
 obtain ⟨s1,s2,s3⟩:=rI m c (m.length-r) r (by omega)
 generalize scanN m c (m.length-r) r=k at hsc s1 s2 s3 ⊢
 refine bnd (a:=if k=m.length then (m,a,(r:Int)) else (xB p c m m r k,xB p c m a r k,(r:Int)+1)) ?_ ?_
 ·
  refine bnd (hsc ?_ ?_) (stp ?_)
  ·
   intro i hi
   have hrow:=nC h hi
   refine bnd (a:=decide (el (gr m i) c=0)) (stp (cTW (dT (by omega)) (bnd (eD hi) (bnd (gE (by omega)) rfl)))) ?_
   by_cases h0:el (gr m i) c=0
   · rw [if_pos h0];exact cTW (dT h0) (bnd (gB (by omega) (by omega)) rfl)
   · rw [if_neg h0];exact cFW (dF h0) rfl
  · exact bnd (a:=false) (stp (cFW (dF (by omega)) rfl)) (cFW rfl rfl)
  ·
   by_cases hk:k=m.length
   · rw [if_pos hk];exact cTW (dT (by omega)) rfl
   ·
    rw [if_neg hk]
    have hkl:k<m.length:=by omega
    have hne:=s3 hkl
    refine cFW (dF (by omega)) ?_
    have h1:okM p N (bC m r k):=tM h hr hkl
    have h1a:okM p q (bC a r k):=tM ha (by omega) (by omega)
    have hr1:r<(bC m r k).length:=by rw [qG];exact hr
    have hrow:=nC h1 hr1
    have hel:=fI h1 hr1 (show c<N by omega)
    have hnz:el (gr (bC m r k) r) c≠0:=by rw [iO hr hkl];exact hne
    refine bnd (IV_ hr hkl hl) ?_
    dsimp only
    refine bnd (eD hr1) (bnd (gE (by omega)) (bnd (Jy_ hf h1 h1a hr1 (by rw [qG,qG];exact hl) ⟨by omega,hel.2⟩) ?_))
    change (forS _ (pB p c m m r k).length 0 (pB p c m m r k,pB p c m a r k)).bind _=_
    have h2:okM p N (pB p c m m r k):=bW hp.1 h hr hkl
    have h2a:okM p q (pB p c m a r k):=bW hp.1 ha (by omega) (by omega)
    have hl2:(pB p c m m r k).length=m.length:=jO p c m m r k
    have hl2a:(pB p c m a r k).length=m.length:=by rw [jO];exact hl
    have hr2:r<(pB p c m m r k).length:=by omega
    have:=vC (n:=(pB p c m m r k).length) (fun i=>(kC (yB p c r (pB p c m m r k) (pB p c m m r k)) (pB p c m m r k) i,kC (yB p c r (pB p c m m r k) (pB p c m a r k)) (pB p c m a r k) i)) (f:=(fun (k7893:Nat) (s8050:List (List Int)×List (List Int))=>
        ((some (!decide (((k7893:Nat):Int)=(r:Int)))).bind fun a8088=>
         cond a8088
         ((idxO s8050.1 ((k7893:Nat):Int)).bind fun a8098=>
          (idxO a8098 (c:Int)).bind fun a8107=>
          (some (!decide (a8107=0))).bind fun a8109=>
          some a8109)
         (some false)).bind fun (s8082:Bool)=>
        cond s8082
        ((idxO s8050.1 ((k7893:Nat):Int)).bind fun a8121=>
         (idxO a8121 (c:Int)).bind fun a8130=>
         (uH (2,((k7893:Nat):Int),(r:Int),a8130) p s8050.1 s8050.2).bind fun y8132=>
         some (y8132.1,y8132.2))
        (some (s8050.1,s8050.2)))) ?_
    ·
     have e1:kC (yB p c r (pB p c m m r k) (pB p c m m r k)) (pB p c m m r k) (pB p c m m r k).length=xB p c m m r k:=uR _ _
     have e2:kC (yB p c r (pB p c m m r k) (pB p c m a r k)) (pB p c m a r k) (pB p c m m r k).length=xB p c m a r k:=by
      rw [hl2,← hl2a,uR];rfl
     rw [partG0,partG0,e1,e2] at this
     exact bnd this (bnd (gB (by omega) (by omega)) rfl)
    ·
     show ∀ i,i<(pB p c m m r k).length→_
     unfold xB at *
     generalize pB p c m m r k=w at h2 hl2 hr2
     generalize pB p c m a r k=b at h2a hl2a
     intro i hi
     have hib:i<b.length:=by omega
     have hrb:r<b.length:=by omega
     have hrow2:=nC h2 hi
     have hli:i<(kC (yB p c r w w) w i).length:=by rw [xH];exact hi
     have hlr:r<(kC (yB p c r w w) w i).length:=by rw [xH];exact hr2
     have i1:=eD hli
     rw [tU hi] at i1
     by_cases hir:i=r
     ·
      refine bnd (a:=false) (stp (cFW (nT (dT (by omega))) rfl)) (cFW rfl ?_)
      rw [rU hi (Or.inl hir),rU hib (Or.inl hir)]
     ·
      by_cases h0:el (gr w i) c=0
      ·
       refine bnd (a:=false) (stp (cTW (nF (dF (by omega))) (bnd i1 (bnd (gE (by omega)) (stp (by rw [dT h0];rfl)))))) (cFW rfl ?_)
       rw [rU hi (Or.inr h0),rU hib (Or.inr h0)]
      ·
       refine bnd (a:=true) (stp (cTW (nF (dF (by omega))) (bnd i1 (bnd (gE (by omega)) (stp (by rw [dF h0];rfl)))))) (cTW rfl ?_)
       refine bnd i1 (bnd (gE (by omega)) ?_)
       have hfe:=fI h2 hi (show c<N by omega)
       have:=Jx_ (f:=el (gr w i) c) hp (EZ_ (c:=c) (r:=r) (m:=w) hp.1 h2 i) (EZ_ (c:=c) (r:=r) (m:=w) hp.1 h2a i) hli hlr (by rw [xH,xH];omega) hir hfe
       rw [tU hi,tU hib,DZ_ i hr2,DZ_ i hrb] at this
       refine bnd this ?_
       rw [DY_ hi hir h0,DY_ hib hir h0]
 ·
  by_cases hk:k=m.length
  · rw [if_pos hk,if_pos hk];exact bnd (gB (by omega) (by omega)) rfl
  · rw [if_neg hk,if_neg hk];exact bnd (gB (by omega) (by omega)) rfl
theorem AK_ {p:Int}{n N q:Nat} (hf:fdB p=true) (hn:n≤N) (hN:N≤1048576):∀ (d c:Nat) (m a:Rows) (r:Nat),c+d=n→okM p N m→okM p q a→m.length≤1048576→a.length=m.length→r≤m.length →
  qB (eR p (n:Int)) (m,a,(c:Int),(r:Int))=some ((aC p d c m a r).1,(aC p d c m a r).2.1,((aC p d c m a r).2.2:Int))
 | 0,c,m,a,r,hc,h,ha,hL,hl,hr=>by
  refine dE ?_
  unfold eR
  exact bnd (a:=false) (stp (cFW (dF (by dsimp only;omega)) rfl)) (cFW rfl rfl)
 | d+1,c,m,a,r,hc,h,ha,hL,hl,hr=>by
  unfold aC
  by_cases hrl:r<m.length
  ·
   rw [if_pos hrl]
   have hs:=Ja_ hf h ha hn hN hL hl hrl (show c<n by omega)
   obtain ⟨s1,s2,s3⟩:=rI m c (m.length-r) r (by omega)
   split
   ·
    rename_i hk
    rw [if_pos hk] at hs
    rw [lF hs]
    exact AK_ hf hn hN d (c+1) m a r (by omega) h ha hL hl hr
   ·
    rename_i hk
    rw [if_neg hk] at hs
    rw [lF hs]
    have hkl:scanN m c (m.length-r) r<m.length:=by omega
    exact AK_ hf hn hN d (c+1) _ _ (r+1) (by omega) (zG (gC hf).1 h hrl hkl) (zG (gC hf).1 ha (by omega) (by omega)) (by rw [eE];exact hL) (by rw [eE,eE];exact hl) (by rw [eE];omega)
  ·
   rw [if_neg hrl]
   refine dE ?_
   unfold eR
   exact bnd (a:=false) (stp (cTW (dT (by dsimp only;omega)) (stp (by rw [dF (by dsimp only;omega)])))) (cFW rfl rfl)
theorem cO {p:Int}{N q:Nat} (hp:2≤p):∀ (d c:Nat) (m a:Rows) (r:Nat),okM p N m→okM p q a→a.length=m.length→r≤m.length →
  okM p N (aC p d c m a r).1∧okM p q (aC p d c m a r).2.1∧(aC p d c m a r).1.length=m.length∧(aC p d c m a r).2.1.length=m.length∧r≤(aC p d c m a r).2.2∧(aC p d c m a r).2.2≤m.length∧(aC p d c m a r).2.2≤r+d
 | 0,c,m,a,r,h,ha,hl,hr=>⟨h,ha,rfl,hl,Nat.le_refl _,hr,by simp [aC]⟩
 | d+1,c,m,a,r,h,ha,hl,hr=>by
  unfold aC
  by_cases hrl:r<m.length
  ·
   rw [if_pos hrl]
   obtain ⟨s1,s2,s3⟩:=rI m c (m.length-r) r (by omega)
   split
   ·
    obtain ⟨k1,k2,k3,k4,k5,k6,k7⟩:=cO hp d (c+1) m a r h ha hl hr
    exact ⟨k1,k2,k3,k4,k5,k6,by omega⟩
   ·
    have hkl:scanN m c (m.length-r) r<m.length:=by omega
    obtain ⟨k1,k2,k3,k4,k5,k6,k7⟩:=cO hp d (c+1) (xB p c m m r (scanN m c (m.length-r) r)) (xB p c m a r (scanN m c (m.length-r) r)) (r+1) (zG hp h hrl hkl) (zG hp ha (by omega) (by omega)) (by rw [eE,eE];exact hl) (by rw [eE];omega)
    rw [eE] at k3 k4 k6
    exact ⟨k1,k2,k3,k4,by omega,k6,by omega⟩
  · rw [if_neg hrl];exact ⟨h,ha,rfl,hl,Nat.le_refl _,hr,Nat.le_add_right _ _⟩
def eC (p:Int) (n:Nat) (m:Rows):Rows:=(aC p n 0 m m 0).1.take (aC p n 0 m m 0).2.2
theorem lQ (p:Int):∀ (d c:Nat) (m a b:Rows) (r:Nat),(aC p d c m a r).1=(aC p d c m b r).1∧(aC p d c m a r).2.2=(aC p d c m b r).2.2
 | 0,_,_,_,_,_=>⟨rfl,rfl⟩
 | d+1,c,m,a,b,r=>by
  unfold aC
  split
  ·
   split
   · exact lQ p d (c+1) m a b r
   · exact lQ p d (c+1) _ _ _ (r+1)
  · exact ⟨rfl,rfl⟩
theorem CZ_ {p:Int}{n N q:Nat}{m a:Rows} (hf:fdB p=true) (hn:n≤N) (hN:N≤1048576) (h:okM p N m) (ha:okM p q a) (hL:m.length≤1048576) (hl:a.length=m.length) :
  cT p m (n:Int) a=some ((aC p n 0 m a 0).1,(aC p n 0 m a 0).2.1,((aC p n 0 m a 0).2.2:Int)):=
 bnd (AK_ hf hn hN n 0 m a 0 (by omega) h ha hL hl (by omega)) rfl
theorem FH_ {α:Type}{l:List α}{k:Nat} (h:k≤l.length):iB l 0 (k:Int)=some (l.take k):=by
 unfold iB
 rw [if_pos (by omega)]
 simp
theorem fV {p:Int}{n N:Nat}{m:Rows} (hf:fdB p=true) (hn:n≤N) (hN:N≤1048576) (h:okM p N m) (hL:m.length≤1048576):lT p m (n:Int)=some (eC p n m):=by
 have hm:bB=1099511627776:=rfl
 have ha:okM p 0 (List.replicate m.length ([]:List Int)):=by
  intro x hx
  rw [List.eq_of_mem_replicate hx]
  exact ⟨rfl,fun y hy=>by cases hy⟩
 obtain ⟨k1,_,k3,_,_,k6,_⟩:=cO (gC hf).1 n 0 m (List.replicate m.length []) 0 h ha (by simp) (by omega)
 obtain ⟨e1,e2⟩:=lQ p n 0 m (List.replicate m.length []) m 0
 refine bnd (Fw_ (by omega) (fun r hr=>by have:=(h r hr).1;omega)) (bnd (sG _ (by omega)) (bnd (CZ_ hf hn hN h ha hL (by simp)) ?_))
 unfold eC
 rw [←e1,← e2]
 exact bnd (FH_ (by dsimp only;omega)) rfl
theorem pQ {p:Int}{n N:Nat}{m:Rows} (hf:fdB p=true) (hn:n≤N) (hN:N≤1048576) (h:okM p N m) (hL:m.length≤1048576):uP p (n:Int) m=some (eC p n m):=by
 have hm:bB=1099511627776:=rfl
 obtain ⟨k1,_,k3,_,_,k6,_⟩:=cO (gC hf).1 n 0 m m 0 h h rfl (by omega)
 have hcopy:forS (fun (k2:Nat) (s55:List (List Int))=>
   (idxO m ((k2:Nat):Int)).bind fun a72=>
   (zK a72).bind fun y76=>
   (oA s55 [y76]).bind fun a84=>
   some a84) m.length 0 []=some m:=by
  refine (uE (fun r=>r) m [] (by simp;omega) ?_).trans (by simp)
  intro j x s hx hs
  have hj:j<m.length:=(List.getElem?_eq_some_iff.1 hx).1
  have h1:=(h x (xC hx)).1
  exact bnd (kA hx) (bnd (own_ (by omega)) (bnd (jB (by simp at hs ⊢;omega)) rfl))
 refine bnd hcopy (bnd (AD_ hf hn hN n 0 m m 0 (by omega) h hL (by omega)) ?_)
 exact bnd (FH_ (by dsimp only;omega)) rfl
theorem Be_ {p:Int}{n N:Nat}{m:Rows} (hp:2≤p) (h:okM p N m):okM p N (eC p n m)∧(eC p n m).length≤m.length∧(eC p n m).length≤n:=by
 obtain ⟨k1,_,k3,_,_,k6,k7⟩:=cO hp n 0 m m 0 h h rfl (by omega)
 unfold eC
 refine ⟨fun r hr=>k1 r (List.mem_of_mem_take hr),?_,?_⟩
 · rw [List.length_take];omega
 · rw [List.length_take];omega
end Go.Proofs.YtodfjigndedehaaGreatDoor
namespace Go.Proofs.YtodfjigndedehaaGreatDoor
def leadN:List Int→Nat
 | []=>0
 | x::xs=>if x=0 then leadN xs+1 else 0
theorem D6_:∀ r:List Int,leadN r≤r.length
 | []=>Nat.le_refl _
 | x::xs=>by
  unfold leadN;have:=D6_ xs
  split
  · simp only [List.length_cons];omega
  · omega
theorem Fm_ (x:Int) (xs:List Int):el (x::xs) 0=x:=by unfold el;simp
theorem Fn_ (x:Int) (xs:List Int) (j:Nat):el (x::xs) (j+1)=el xs j:=by unfold el;simp
theorem el_out {r:List Int}{j:Nat} (h:r.length≤j):el r j=0:=by unfold el;rw [List.getD_eq_getElem?_getD,List.getElem?_eq_none h];rfl
theorem oO:∀ (r:List Int) (j:Nat),j<leadN r→el r j=0
 | [],j,h=>by simp [leadN] at h
 | x::xs,j,h=>by
  unfold leadN at h
  split at h
  ·
   rename_i h0
   cases j with
   | zero=>rw [Fm_];exact h0
   | succ j=>rw [Fn_];exact oO xs j (by omega)
  · omega
theorem oV:∀ (r:List Int),leadN r<r.length→el r (leadN r)≠0
 | [],h=>by simp at h
 | x::xs,h=>by
  unfold leadN at h ⊢
  split at h
  ·
   rename_i h0
   rw [if_pos h0,Fn_]
   exact oV xs (by simpa using h)
  ·
   rename_i h0
   rw [if_neg h0,Fm_];exact h0
theorem AX_ {r:List Int}{k:Nat} (hz:∀ j,j<k→el r j=0) (hk:el r k≠0):leadN r=k:=by
 rcases Nat.lt_trichotomy (leadN r) k with h | h | h
 ·
  have h1:=hz _ h
  rcases Nat.lt_or_ge (leadN r) r.length with h2 | h2
  · exact absurd h1 (oV r h2)
  ·
   have:el r k=0:=el_out (by omega)
   exact absurd this hk
 · exact h
 · exact absurd (oO r k h) hk
theorem ES_ {r:List Int} (hr:r.length≤9223372036854775806):uT r=some (leadN r:Int):=by
 have hle:=D6_ r
 refine bnd (fL (fun j=>(j:Int)) (t:=(leadN r:Int)) (leadN r) ?_ ?_) rfl
 ·
  intro j hj
  have hjl:j<r.length:=by omega
  refine bnd (a:=true) (stp (cTW (dT (by omega)) (bnd (gE hjl) (stp (by rw [oO r j hj];rfl))))) (cTW rfl (bnd (gB (by omega) (by omega)) rfl))
 ·
  by_cases h:leadN r<r.length
  · refine bnd (a:=false) (stp (cTW (dT (by omega)) (bnd (gE h) (stp (by rw [dF (oV r h)]))))) (cFW rfl rfl)
  · exact bnd (a:=false) (stp (cFW (dF (by omega)) rfl)) (cFW rfl rfl)
theorem zR {a b:List Int} (hl:a.length=b.length) (h:∀ j,j<a.length→el a j=el b j):a=b:=by
 apply List.ext_getElem?
 intro j
 by_cases hj:j<a.length
 · rw [jK hj,jK (by omega),h j hj]
 · rw [List.getElem?_eq_none (by omega),List.getElem?_eq_none (by omega)]
theorem FS_ {a b:Rows} (hl:a.length=b.length) (h:∀ j,j<a.length→gr a j=gr b j):a=b:=by
 apply List.ext_getElem?
 intro j
 by_cases hj:j<a.length
 · rw [wE hj,wE (by omega),h j hj]
 · rw [List.getElem?_eq_none (by omega),List.getElem?_eq_none (by omega)]
theorem nR {g:Nat→Int→Int}{r:List Int}{j:Nat} (h:j<r.length):el (oD g r) j=g j (el r j):=by
 have h1:=jK (r:=oD g r) (c:=j) (by rw [mV];exact h)
 unfold oD at h1
 rw [List.getElem?_mapIdx,jK h] at h1
 exact (Option.some.inj h1).symm
theorem sI {m:Rows}{r k i:Nat} (hr:r<m.length) (hk:k<m.length):gr (bC m r k) i=if i=k then gr m r else if i=r then gr m k else gr m i:=by
 unfold bC
 rw [xI (by rw [List.length_set];exact hk)]
 by_cases h:k=i
 · rw [if_pos h,if_pos h.symm]
 ·
  rw [if_neg h,if_neg (Ne.symm h),xI hr]
  by_cases h2:r=i
  · rw [if_pos h2,if_pos h2.symm]
  · rw [if_neg h2,if_neg (Ne.symm h2)]
theorem jR {p:Int}{c:Nat}{m a:Rows}{r k i:Nat} (hr:r<a.length):gr (pB p c m a r k) i=if i=r then oD (bH p (iE p (el (gr (bC m r k) r) c))) (gr (bC a r k) r) else gr (bC a r k) i:=by
 unfold pB eK
 rw [xI (by rw [qG];exact hr)]
 by_cases h:r=i
 · rw [if_pos h,if_pos h.symm]
 · rw [if_neg h,if_neg (Ne.symm h)]
structure RedI (c r:Nat) (m:Rows):Prop where
 le:r≤m.length
 lt:∀ i,i<r→leadN (gr m i)<c
 one:∀ i,i<r→el (gr m i) (leadN (gr m i))=1
 zero:∀ i j,i<r→j<m.length→i≠j→el (gr m j) (leadN (gr m i))=0
 inc:∀ i j,i<j→j<r→leadN (gr m i)<leadN (gr m j)
 rest:∀ i,r≤i→i<m.length→∀ q,q<c→el (gr m i) q=0
theorem RedI.start (m:Rows):RedI 0 0 m:=⟨Nat.zero_le _,fun _ h=>by omega,fun _ h=>by omega,fun _ _ h=>by omega,fun _ _ _ h=>by omega,fun _ _ _ _ h=>by omega⟩
theorem RedI.skip {c r:Nat}{m:Rows} (h:RedI c r m) (hz:∀ i,r≤i→i<m.length→el (gr m i) c=0):RedI (c+1) r m:=
 ⟨h.le,fun i hi=>by have:=h.lt i hi;omega,h.one,h.zero,h.inc,fun i h1 h2 q hq=>by
  rcases Nat.lt_or_ge q c with h3 | h3
  · exact h.rest i h1 h2 q h3
  · rw [show q=c by omega];exact hz i h1 h2⟩
theorem CY_ (m:Rows) (c:Nat):∀ (d k:Nat),∀ i,k≤i→i<scanN m c d k→el (gr m i) c=0
 | 0,k,i,h1,h2=>by simp only [scanN] at h2;omega
 | d+1,k,i,h1,h2=>by
  unfold scanN at h2
  split at h2
  ·
   rename_i h0
   rcases Nat.lt_or_ge k i with h3 | h3
   · exact CY_ m c d (k+1) i h3 h2
   · rw [show i=k by omega];exact h0
  · omega
theorem rO {p x:Int} (h:0≤x∧x<p):x % p=x:=Int.emod_eq_of_lt h.1 h.2
theorem step_el {p:Int}{c r k N:Nat}{m:Rows} (hf:fdB p=true) (h:okM p N m) (hr:r<m.length) (hk:k<m.length) (hc:c<N) (hne:el (gr m k) c≠0) :
  let s:=bC m r k
  let iv:=iE p (el (gr m k) c)
  (∀ q,q<N→el (gr (xB p c m m r k) r) q=(el (gr m k) q*iv) % p)∧(el (gr m k) c*iv) % p=1 ∧
  ∀ i,i<m.length→i≠r→∀ q,q<N→el (gr (xB p c m m r k) i) q=(el (gr s i) q-el (gr s i) c*((el (gr m k) q*iv) % p)) % p:=by
 intro s iv
 have hp:=gC hf
 have hel:=fI h hk hc
 obtain ⟨_,i1,i2,i3⟩:=dR hf (x:=el (gr m k) c) ⟨by omega,hel.2⟩
 have hsr:gr s r=gr m k:=iO hr hk
 have hsl:s.length=m.length:=qG m r k
 have hso:okM p N s:=tM h hr hk
 have hpl:(pB p c m m r k).length=m.length:=jO p c m m r k
 have hpr:gr (pB p c m m r k) r=oD (bH p iv) (gr m k):=by
  rw [jR hr,if_pos rfl]
  show oD (bH p (iE p (el (gr s r) c))) (gr s r)=_
  rw [hsr]
 have hrow:=nC h hk
 have hpe:∀ q,q<N→el (gr (pB p c m m r k) r) q=(el (gr m k) q*iv) % p:=fun q hq=>by
  rw [hpr,nR (by omega)];rfl
 have hst:∀ i,i<m.length→gr (xB p c m m r k) i=yB p c r (pB p c m m r k) (pB p c m m r k) i (gr (pB p c m m r k) i):=fun i hi=>Er_ (by rw [hpl];exact hi)
 refine ⟨fun q hq=>?_,i1,fun i hi hir q hq=>?_⟩
 ·
  rw [hst r hr]
  unfold yB
  rw [if_pos (.inl rfl)]
  exact hpe q hq
 ·
  rw [hst i hi]
  have hpi:gr (pB p c m m r k) i=gr s i:=by rw [jR hr,if_neg hir]
  have hsi:=nC hso (i:=i) (by rw [hsl];exact hi)
  have hb:=fI hso (i:=i) (by rw [hsl];exact hi) hq
  unfold yB
  by_cases h0:el (gr (pB p c m m r k) i) c=0
  ·
   rw [if_pos (.inr h0),hpi]
   rw [hpi] at h0
   rw [h0,Int.zero_mul,Int.sub_zero,rO hb]
  ·
   rw [if_neg (by intro h1;rcases h1 with h1 | h1;exact hir h1;exact h0 h1)]
   rw [nR (by rw [hpi];omega)]
   unfold qE
   rw [hpi,hpe q hq]
theorem RedI.step {p:Int}{c r N:Nat}{m:Rows} (hf:fdB p=true) (ho:okM p N m) (h:RedI c r m) (hr:r<m.length) (hc:c<N) (hk:scanN m c (m.length-r) r≠m.length) :
  RedI (c+1) (r+1) (xB p c m m r (scanN m c (m.length-r) r)):=by
 obtain ⟨s1,s2,s3⟩:=rI m c (m.length-r) r (by omega)
 have hp:=gC hf
 generalize scanN m c (m.length-r) r=k at s1 s2 s3 hk ⊢
 have hkl:k<m.length:=by omega
 have hne:=s3 hkl
 obtain ⟨e1,e2,e3⟩:=step_el hf ho hr hkl hc hne
 have hsl:(xB p c m m r k).length=m.length:=eE p c m m r k
 have hz:∀ q,q<c→(el (gr m k) q*iE p (el (gr m k) c)) % p=0:=fun q hq=>by
  rw [h.rest k (by omega) hkl q hq,Int.zero_mul];exact Int.zero_emod p
 have hswap:∀ i,i<r→gr (bC m r k) i=gr m i:=fun i hi=>by
  rw [sI hr hkl,if_neg (by omega),if_neg (by omega)]
 have hrow:∀ i,i<r→∀ q,q<c→el (gr (xB p c m m r k) i) q=el (gr m i) q:=fun i hi q hq=>by
  have hb:=fI ho (i:=i) (by omega) (c:=q) (by omega)
  rw [e3 i (by omega) (by omega) q (by omega),hswap i hi,hz q hq,Int.mul_zero,Int.sub_zero,rO hb]
 have hlead:∀ i,i<r→leadN (gr (xB p c m m r k) i)=leadN (gr m i):=fun i hi=>by
  have hl:=h.lt i hi
  refine AX_ (fun j hj=>?_) ?_
  · rw [hrow i hi j (by omega)];exact oO _ j hj
  · rw [hrow i hi _ hl,h.one i hi];omega
 have hnew:leadN (gr (xB p c m m r k) r)=c:=by
  refine AX_ (fun j hj=>?_) ?_
  · rw [e1 j (by omega)];exact hz j hj
  · rw [e1 c hc,e2];omega
 refine ⟨by omega,fun i hi=>?_,fun i hi=>?_,fun i j hi hj hij=>?_,fun i j hij hj=>?_,fun i h1 h2 q hq=>?_⟩
 ·
  rcases Nat.lt_or_ge i r with h1 | h1
  · rw [hlead i h1];have:=h.lt i h1;omega
  · rw [show i=r by omega,hnew];omega
 ·
  rcases Nat.lt_or_ge i r with h1 | h1
  · rw [hlead i h1,hrow i h1 _ (h.lt i h1)];exact h.one i h1
  · rw [show i=r by omega,hnew,e1 c hc,e2]
 ·
  rw [hsl] at hj
  rcases Nat.lt_or_ge i r with h1 | h1
  ·
   have hl:=h.lt i h1
   rw [hlead i h1]
   by_cases hjr:j=r
   · rw [hjr,e1 _ (by omega)];exact hz _ hl
   ·
    rw [e3 j hj hjr _ (by omega),hz _ hl,Int.mul_zero,Int.sub_zero]
    have hs:el (gr (bC m r k) j) (leadN (gr m i))=0:=by
     rw [sI hr hkl]
     by_cases hjk:j=k
     · rw [if_pos hjk];exact h.zero i r h1 hr (by omega)
     · rw [if_neg hjk,if_neg hjr];exact h.zero i j h1 hj hij
    rw [hs];exact Int.zero_emod p
  ·
   have hi2:i=r:=by omega
   subst hi2
   rw [hnew,e3 j hj (Ne.symm hij) c hc,e2,Int.mul_one,Int.sub_self];exact Int.zero_emod p
 ·
  rcases Nat.lt_or_ge j r with h1 | h1
  · rw [hlead i (by omega),hlead j h1];exact h.inc i j hij h1
  · rw [show j=r by omega,hnew,hlead i (by omega)];exact h.lt i (by omega)
 ·
  rw [hsl] at h2
  rw [e3 i h2 (by omega) q (by omega)]
  rcases Nat.lt_or_ge q c with h3 | h3
  ·
   rw [hz q h3,Int.mul_zero,Int.sub_zero]
   have hs:el (gr (bC m r k) i) q=0:=by
    rw [sI hr hkl]
    split
    · exact h.rest r (Nat.le_refl _) hr q h3
    ·
     split
     · exact h.rest k s1 hkl q h3
     · exact h.rest i (by omega) h2 q h3
   rw [hs];exact Int.zero_emod p
  · rw [show q=c by omega,e2,Int.mul_one,Int.sub_self];exact Int.zero_emod p
theorem kQ {p:Int}{N:Nat} (hf:fdB p=true):∀ (d c:Nat) (m:Rows) (r:Nat),c+d≤N→okM p N m→RedI c r m→RedI (c+d) (aC p d c m m r).2.2 (aC p d c m m r).1
 | 0,c,m,r,_,_,h=>h
 | d+1,c,m,r,hN,ho,h=>by
  unfold aC
  by_cases hr:r<m.length
  ·
   rw [if_pos hr]
   obtain ⟨s1,s2,s3⟩:=rI m c (m.length-r) r (by omega)
   split
   ·
    rename_i hk
    have:=kQ hf d (c+1) m r (by omega) ho (h.skip (fun i h1 h2=>CY_ m c (m.length-r) r i h1 (by omega)))
    rw [show c+(d+1)=c+1+d by omega];exact this
   ·
    rename_i hk
    have:=kQ hf d (c+1) _ (r+1) (by omega) (zG (gC hf).1 ho hr (by omega)) (h.step hf ho hr (by omega) hk)
    rw [show c+(d+1)=c+1+d by omega];exact this
  ·
   rw [if_neg hr]
   exact (⟨h.le,fun i hi=>by have:=h.lt i hi;omega,h.one,h.zero,h.inc,fun i h1 h2=>by have:=h.le;omega⟩:RedI (c+(d+1)) r m)
structure Red (p:Int) (n:Nat) (b:Rows):Prop where
 ok:okM p n b
 lt:∀ i,i<b.length→leadN (gr b i)<n
 one:∀ i,i<b.length→el (gr b i) (leadN (gr b i))=1
 zero:∀ i j,i<b.length→j<b.length→i≠j→el (gr b j) (leadN (gr b i))=0
 inc:∀ i j,i<j→j<b.length→leadN (gr b i)<leadN (gr b j)
theorem wJ {m:Rows}{k i:Nat} (h:i<k):gr (m.take k) i=gr m i:=by
 unfold gr;rw [List.getD_eq_getElem?_getD,List.getD_eq_getElem?_getD,List.getElem?_take,if_pos h]
theorem rG {p:Int}{n:Nat}{m:Rows} (hf:fdB p=true) (h:okM p n m):Red p n (eC p n m):=by
 have h1:=kQ hf n 0 m 0 (by omega) h (RedI.start m)
 have h2:=(Be_ (n:=n) (gC hf).1 h).1
 rw [Nat.zero_add] at h1
 unfold eC at h2 ⊢
 generalize aC p n 0 m m 0=t at h1 h2
 have hl:(t.1.take t.2.2).length=t.2.2:=by rw [List.length_take];have:=h1.le;omega
 refine ⟨h2,fun i hi=>?_,fun i hi=>?_,fun i j hi hj hij=>?_,fun i j hij hj=>?_⟩
 · rw [hl] at hi;rw [wJ hi];exact h1.lt i hi
 · rw [hl] at hi;rw [wJ hi];exact h1.one i hi
 · rw [hl] at hi hj;rw [wJ hi,wJ hj];exact h1.zero i j hi (by have:=h1.le;omega) hij
 · rw [hl] at hj;rw [wJ hj,wJ (by omega)];exact h1.inc i j hij hj
end Go.Proofs.YtodfjigndedehaaGreatDoor
namespace Go.Proofs.YtodfjigndedehaaGreatDoor
def sg:Nat→(Nat→Int)→Int
 | 0,_=>0
 | k+1,f=>sg k f+f k
theorem mD {f g:Nat→Int}:∀ {k:Nat},(∀ i,i<k→f i=g i)→sg k f=sg k g
 | 0,_=>rfl
 | k+1,h=>by
  show sg k f+f k=sg k g+g k
  rw [mD (fun i hi=>h i (by omega)),h k (by omega)]
theorem wM {f:Nat→Int}{k:Nat} (h:∀ i,i<k→f i=0):sg k f=0:=by
 induction k with
 | zero=>rfl
 | succ k ih=>
  show sg k f+f k=0
  rw [ih (fun i hi=>h i (by omega)),h k (by omega)];rfl
theorem eI {f:Nat→Int}{k i0:Nat} (h0:i0<k) (h:∀ i,i<k→i≠i0→f i=0):sg k f=f i0:=by
 induction k with
 | zero=>omega
 | succ k ih=>
  show sg k f+f k=f i0
  by_cases hk:k=i0
  ·
   subst hk
   rw [wM (fun i hi=>h i (by omega) (by omega)),Int.zero_add]
  · rw [ih (by omega) (fun i hi hn=>h i (by omega) hn),h k (by omega) hk,Int.add_zero]
theorem rW (f g:Nat→Int):∀ k,sg k (fun i=>f i+g i)=sg k f+sg k g
 | 0=>rfl
 | k+1=>by
  show sg k (fun i=>f i+g i)+(f k+g k)=(sg k f+f k)+(sg k g+g k)
  rw [rW f g k];omega
theorem sg_mul (c:Int) (f:Nat→Int):∀ k,sg k (fun i=>c*f i)=c*sg k f
 | 0=>by show (0:Int)=c*0;rw [Int.mul_zero]
 | k+1=>by
  show sg k (fun i=>c*f i)+c*f k=c*(sg k f+f k)
  rw [sg_mul c f k,Int.mul_add]
theorem yV (f:Nat→Nat→Int) (n:Nat):∀ k,sg k (fun i=>sg n (fun j=>f i j))=sg n (fun j=>sg k (fun i=>f i j))
 | 0=>by
  show (0:Int)=_
  rw [wM (k:=n) (f:=fun j=>sg 0 fun i=>f i j) (fun _ _=>rfl)]
 | k+1=>by
  show sg k (fun i=>sg n (fun j=>f i j))+sg n (fun j=>f k j)=sg n (fun j=>sg k (fun i=>f i j)+f k j)
  rw [yV f n k,rW]
theorem dK {p:Int}{f g:Nat→Int}:∀ {k:Nat},(∀ i,i<k→f i % p=g i % p)→sg k f % p=sg k g % p
 | 0,_=>rfl
 | k+1,h=>by
  show (sg k f+f k) % p=(sg k g+g k) % p
  rw [Int.add_emod,dK (fun i hi=>h i (by omega)),h k (by omega),← Int.add_emod]
theorem EB_ (p a b:Int):(a % p+b) % p=(a+b) % p:=by rw [Int.add_emod,Int.emod_emod_of_dvd _ (Int.dvd_refl p),← Int.add_emod]
theorem mod_mod (p a:Int):a % p % p=a % p:=Int.emod_emod_of_dvd _ (Int.dvd_refl p)
theorem aR (p a b:Int):(a % p*b) % p=(a*b) % p:=by rw [Int.mul_emod,mod_mod,← Int.mul_emod]
theorem mul_mod2 (p a b:Int):(a*(b % p)) % p=(a*b) % p:=by rw [Int.mul_emod,mod_mod,← Int.mul_emod]
theorem E9_ (x:List Int) (xs:Rows):gr (x::xs) 0=x:=by unfold gr;simp
theorem Bu_ (x:List Int) (xs:Rows) (j:Nat):gr (x::xs) (j+1)=gr xs j:=by unfold gr;simp
theorem aP (n j:Nat):el (List.replicate n 0) j=0:=by
 unfold el;rw [List.getD_eq_getElem?_getD,List.getElem?_replicate];split <;> rfl
theorem Ei_ {p:Int}{n:Nat} (hp:2≤p):∀ (rows:Rows) (cs:List Int) (acc:List Int),okR p n acc→yL p n rows→okR p n (xE (fun acc row c=>kE p c acc row) rows cs acc)
 | [],cs,acc,ha,_=>by cases cs <;> exact ha
 | r::rows,[],acc,ha,_=>ha
 | r::rows,c::cs,acc,ha,hr=>by
  have h1:=hr r (List.mem_cons_self ..)
  exact Ei_ hp rows cs _ ⟨by rw [A8_ (by rw [h1.1,ha.1]),ha.1],pW hp c r acc⟩ (fun x hx=>hr x (List.mem_cons_of_mem _ hx))
theorem sV {p:Int}{n:Nat} (hp:2≤p){rows:Rows}{cs:List Int} (hr:yL p n rows):okR p n (jD p n rows cs):=Ei_ hp rows cs _ (AT_ hp n) hr
abbrev Rel:=Int×Int×Rows
structure RlOk (p:Int) (l r:Nat) (R:Rel):Prop where
 hf:fdB p=true
 left:R.1=(l:Int)
 right:R.2.1=(r:Int)
 n24:l+r≤24
 red:Red p (l+r) R.2.2
 len:R.2.2.length≤l+r
end Go.Proofs.YtodfjigndedehaaGreatDoor
namespace Go.Proofs.YtodfjigndedehaaGreatDoor
end Go.Proofs.YtodfjigndedehaaGreatDoor
namespace Go.Proofs.YtodfjigndedehaaGreatDoor
set_option linter.unusedVariables false
theorem BN_ {p a:Int} (hp:2≤p∧p≤97) (ha:0≤a∧a<p):aO p a=some ((p-a) % p):=by
 refine bnd (yC (by omega) (by omega)) (bnd (aH (by omega)) ?_)
 rw [Int.tmod_eq_emod_of_nonneg (by omega)]
def aE (n i:Nat):List Int:=(List.replicate n 0).set i 1
def idN (n:Nat):Rows:=(List.range n).map (aE n)
theorem wU {p:Int} (hp:2≤p) (n i:Nat):okR p n (aE n i):=by
 refine ⟨by simp [aE],fun x hx=>?_⟩
 rcases List.mem_or_eq_of_mem_set hx with h | rfl
 · have:=List.eq_of_mem_replicate h;omega
 · omega
theorem qO (n:Nat):(idN n).length=n:=by simp [idN]
theorem yR {p:Int} (hp:2≤p) (n:Nat):okM p n (idN n):=by
 intro x hx
 obtain ⟨i,hi,rfl⟩:=List.mem_map.1 hx
 exact wU hp n i
theorem unit_ {n i:Nat} (hi:i<n) (hn:n≤bB):qM (n:Int) (i:Int)=some (aE n i):=
 bnd (uI hn) (bnd (lC _ (by simpa using hi)) rfl)
theorem JE_ (n k:Nat):(List.range (k+1)).map (aE n)=(List.range k).map (aE n)++[aE n k]:=by simp [List.range_succ]
theorem HE_ {n:Nat} (hn:n≤1048576):mY (n:Int)=some (idN n):=by
 have hm:bB=1099511627776:=rfl
 refine bnd (nK ⟨by omega,by omega⟩) ?_
 rw [Int.toNat_natCast]
 refine bnd (vC (fun k=>(List.range k).map (aE n)) ?_) rfl
 intro k hk
 exact bnd (unit_ hk (by omega)) (bnd (jB (by simp;omega)) (by rw [JE_]))
def zB (p:Int) (n:Nat) (m:Rows):Rows×Rows×Nat:=aC p n 0 m (idN m.length) 0
theorem nQ {p:Int}{n:Nat}{m:Rows} (hf:fdB p=true) (h:okM p n m):(zB p n m).2.2≤m.length∧(zB p n m).1.length=m.length∧(zB p n m).2.1.length=m.length∧okM p m.length (zB p n m).2.1∧okM p n (zB p n m).1∧Red p n ((zB p n m).1.take (zB p n m).2.2):=by
 have hp:=gC hf
 obtain ⟨k1,k2,k3,k4,k5,k6,k7⟩:=cO hp.1 n 0 m (idN m.length) 0 h (yR hp.1 m.length) (qO _) (by omega)
 have e:(zB p n m).1.take (zB p n m).2.2=eC p n m:=by
  obtain ⟨e1,e2⟩:=lQ p n 0 m (idN m.length) m 0
  unfold zB eC;rw [e1,e2]
 exact ⟨k6,k3,k4,k2,k1,by rw [e];exact rG hf h⟩
end Go.Proofs.YtodfjigndedehaaGreatDoor
namespace Go.Proofs.YtodfjigndedehaaGreatDoor
set_option linter.unusedVariables false
theorem Fq_:∀ (l:Nat),Dw [] (ug l).reverse [] (ug l).reverse l (ug l) [] 0 [] l
 | 0=>⟨fun x=>by unfold inN;rw [if_neg (by omega)];rfl,fun x=>by unfold inN;rw [if_neg (by omega)];rfl,trivial,fun x=>by unfold inN;rw [if_neg (by omega)];rfl,fun x=>by unfold inN;rw [if_neg (by omega)];rfl,fun S _ _ _ x h0 h1=>by omega,Nat.le_refl _,Nat.le_refl _,Nat.le_refl _⟩
 | l+1=>by
  have h:=(Fq_ l).wireS
  unfold ug at h ⊢
  rw [List.range_succ,List.map_append,List.reverse_append]
  exact h
theorem Dy_ {U D:List Int}{n:Nat}{I:List Int}{E:List Edg}{B:Nat} (h:Dw [] U [] D n I E 0 [] B):∀ k,Dw [] U (ug k).reverse D n I E k [] (B+k)
 | 0=>h
 | k+1=>by
  have h:=(Dy_ h k).wireI
  unfold ug at h ⊢
  rw [List.range_succ,List.map_append,List.reverse_append]
  exact h
theorem EH_ {k n:Nat} (h:k<n):(ug n).drop k=(k:Int)::(ug n).drop (k+1):=by
 have hl:k<(ug n).length:=by rw [zM];exact h
 rw [List.drop_eq_getElem_cons hl]
 congr 1
 simp [ug]
theorem qR {k n:Nat} (h:k<n):(ug n)[k]?=some (k:Int):=by
 unfold ug
 rw [List.getElem?_map,List.getElem?_range h];rfl
theorem Hq_ {p:Int}{l r:Nat}{R:Rel} (hR:RlOk p l r R) (hl:l≤12) (hr:r≤12):∃ G,xY R=some G∧iY R=some G∧yF G.1≤1048576:=by
 obtain ⟨R1,R2,rows⟩:=R
 obtain ⟨hf,h1,h2,h24,hred,hlen⟩:=hR
 dsimp only at h1 h2 hred hlen
 subst h1 h2
 have hm:bB=1099511627776:=rfl
 have hrl:∀ row∈rows,row.length=l+r:=fun row hr=>(hred.ok row hr).1
 have d0:Dw [] (ug l) (ug rows.length) (ug l) l (ug l) [] rows.length [] 100:=by
  have h:=Dy_ (Fq_ l) rows.length
  refine ⟨fun x=>?_,fun x=>?_,h.ed,h.og,fun x=>?_,fun S k1 k2 k3=>h.co S k1 (fun x hx=>k2 x (List.mem_reverse.1 hx)) k3,by omega,by omega,by simp⟩
  · have:=h.pa x;rwa [List.count_reverse] at this
  · have:=h.pb x;rwa [List.count_reverse] at this
  · have:=h.en x;rwa [List.count_reverse] at this
 obtain ⟨s,t,s1,s2,P1,n1,E1,E1',ins,rfl,rfl,s3,s4,s5⟩:=fO (f:=fun (k17:Nat) (s66:Int×(List (Int×Int×List Int×List Int))×List Int)=>
   (vF (s66.1,s66.2.1,ug l,[])).bind fun y79=>
   (jF (y79.1.1,s66.2.1,ug l,[]) 10 0 [] [y79.2]).bind fun y86=>
   (oA s66.2.2 [y79.2]).bind fun a94=>
   some (y86.1,y86.2.1,a94))
  (g:=fun (k37:Nat) (s78:Int×(List (Int×Int×List Int×List Int)))=>
    (idxO (ug rows.length) ((k37:Nat):Int)).bind fun a95=>
    (iF (s78.1,s78.2,[],[]) 10 0 [] [a95]).bind fun y101=>
    some (y101.1,y101.2.1))
  (fun j s t=>∃ P1 n1 E1 E1' ins,s=(((n1:Nat):Int),E1,ins)∧t=(((rows.length:Nat):Int),E1')∧LsR P1 ins ((ug rows.length).take j)∧ins.length=j∧Dw P1 (ug l) ((ug rows.length).drop j) (ins++ug l) n1 (ug l) E1 rows.length E1' (100+j)) rows.length 0 (((l:Nat):Int),[],[]) (((rows.length:Nat):Int),[])
  ⟨[],l,[],[],[],rfl,rfl,trivial,rfl,d0⟩ (by
   rintro j s t _ hj ⟨P1,n1,E1,E1',ins,rfl,rfl,hi,hil,hd⟩
   rw [Nat.zero_add] at hj
   have b1:=hd.b1;have b2:=hd.b2;have b3:=hd.b3;have el:=hd.ed.len
   rw [EH_ hj] at hd
   have hd2:=Dw.edge1 (ins:=[]) (ins':=[]) 10 0 (D:=ins++ug l) hd trivial
   refine ⟨_,_,bnd (rL (by omega)) (bnd (uL (by dsimp only;omega) _ _ _ _) (bnd (jB (by simp;omega)) rfl)),bnd (kA (qR hj)) (bnd (vL (by dsimp only;omega) _ _ _ _) rfl),_,n1+1,_,_,ins++[(n1:Int)],rfl,rfl,?_,by simp [hil],(hd2.perm fun x=>?_).up (by omega)⟩
   ·
    rw [List.take_add_one,qR hj]
    exact (hi.mono fun p hp=>List.mem_append_left _ hp).app (m:=[(n1:Int)]) (m':=[(j:Int)]) ⟨by simp,trivial⟩
   ·
    rw [cntC]
    simp only [List.count_append,cnt1];omega)
 rw [Nat.zero_add] at s3 s4 s5
 have s3:LsR P1 ins (ug rows.length):=by
  have:=s3
  rwa [List.take_of_length_le (by rw [zM];exact Nat.le_refl _)] at this
 have s5:Dw P1 (ug l) [] (ins++ug l) n1 (ug l) E1 rows.length E1' (100+rows.length):=by
  have:=s5
  rwa [show (ug rows.length).drop rows.length=[] from List.drop_of_length_le (by rw [zM];exact Nat.le_refl _)] at this
 obtain ⟨P2,n2,E2,n2',E2',out,out',m1,m2,m3,m4,m5,m6⟩:=Ih_ (ug l) [] [] [] hrl h24 (by omega) s5 s3 s4 (fun i row w hrow _ hz=>by
  obtain ⟨q1,q2⟩:=List.getElem?_eq_some_iff.1 hrow
  have k1:=hred.lt i q1
  have k2:=hred.one i q1
  have hgr:gr rows i=row:=by unfold gr;rw [List.getD_eq_getElem?_getD,hrow];rfl
  rw [hgr] at k1 k2
  have hll:=hrl row (List.mem_of_getElem? hrow)
  have:=EY_ row row.length (Nat.le_refl _) hz (leadN row) (by omega) (by omega)
  have e:el row (leadN row)=row[leadN row]'(by omega):=by
   unfold el;rw [List.getD_eq_getElem?_getD,List.getElem?_eq_getElem (by omega)];rfl
  rw [e,this] at k2
  cases k2) (by omega)
 have hsz:nA (l:Int) (r:Int)=some ((l+r:Nat):Int):=by rw [gB (by omega) (by omega)];rfl
 have hout:out'.length=l+r:=m4.len.symm.trans m5
 obtain ⟨s,t,t1,t2,P3,n3,E3,n3',E3',I3,rfl,rfl,t3,t4,t5,t6⟩:=fO (f:=fun (k114:Nat) (s198:Int×(List (Int×Int×List Int×List Int)))=>
   (idxO (ug l) ((k114:Nat):Int)).bind fun a214=>
   (vF (s198.1,s198.2,ug l,[])).bind fun y216=>
   (idxO out ((k114:Nat):Int)).bind fun a225=>
   (jF (y216.1.1,s198.2,ug l,[]) 9 0 [a214,a225] [y216.2]).bind fun y233=>
   (jF (y233.1,y233.2.1,ug l,[]) 4 0 [y216.2] []).bind fun y242=>
   some (y242.1,y242.2.1))
  (g:=fun (k126:Nat) (s220:Int×(List (Int×Int×List Int×List Int))×List Int)=>
    (idxO (out'.take l) ((k126:Nat):Int)).bind fun a238=>
    (iH (s220.1,s220.2.1,s220.2.2,[])).bind fun y240=>
    (iH (y240.1.1,s220.2.1,s220.2.2,[])).bind fun y243=>
    (oA s220.2.2 [y240.2]).bind fun a249=>
    (iF (y243.1.1,s220.2.1,a249,[]) 9 0 [y240.2,a238] [y243.2]).bind fun y261=>
    (iF (y261.1,y261.2.1,a249,[]) 4 0 [y243.2] []).bind fun y270=>
    some (y270.1,y270.2.1,a249))
  (fun j s t=>∃ P3 n3 E3 n3' E3' I3,s=(((n3:Nat):Int),E3)∧t=(((n3':Nat):Int),E3',I3)∧(∀ p∈P2,p∈P3)∧LsR P3 ((ug l).take j) I3∧I3.length=j∧Dw P3 ((ug l).drop j) [] (out.drop j++(ug l).drop j) n3 (ug l) E3 n3' E3' (20000+2*j)) l 0 (((n2:Nat):Int),E2) (((n2':Nat):Int),E2',[])
  ⟨P2,n2,E2,n2',E2',[],rfl,rfl,fun p hp=>hp,trivial,rfl,m6⟩ (by
   rintro j s t _ hj ⟨P3,n3,E3,n3',E3',I3,rfl,rfl,hP,hi,hil,hd⟩
   rw [Nat.zero_add] at hj
   have b1:=hd.b1;have b2:=hd.b2;have b3:=hd.b3;have el:=hd.ed.len
   obtain ⟨x,y,hx,hy,hxy⟩:=(m4.mono hP).get (i:=j) (by omega)
   have hxr:out.drop j=x::out.drop (j+1):=by
    obtain ⟨q1,q2⟩:=List.getElem?_eq_some_iff.1 hx
    rw [List.drop_eq_getElem_cons q1,q2]
   have hy':(out'.take l)[j]?=some y:=by rw [List.getElem?_take,if_pos hj];exact hy
   rw [EH_ hj,hxr] at hd
   have hd1:=hd.wireI.pair.wireI
   have hd2:=hd1.perm (D1:=[(j:Int),x]++(out.drop (j+1)++(ug l).drop (j+1))) (fun z=>by
    simp only [List.count_append,List.cons_append,cntC]
    rw [show List.count z ([]:List Int)=0 from rfl];omega)
   have hsub:∀ p∈P3,p∈P3++[((j:Int),(n3':Int))]:=fun p hp=>List.mem_append_left _ hp
   have hd3:=Dw.edge1 (ins:=[(j:Int),x]) (ins':=[(n3':Int),y]) 9 0 hd2 ⟨by simp,hsub _ hxy,trivial⟩
   have hj':(j:Int)∈ug l:=List.mem_of_getElem? (qR hj)
   have hd4:=hd3.edge0 (w:=(n3:Int)) (w':=((n3'+1:Nat):Int)) 4 0 (by simp) (fun S h1 h2=>h2 _ (List.mem_append_right _ (.head _)) ⟨(j:Int),by simp [edI],h1 _ hj'⟩ _ (by simp [edO]))
   refine ⟨_,_,bnd (kA (qR hj)) (bnd (rL (by omega)) (bnd (kA hx) (bnd (uL (by dsimp only;omega) _ _ _ _) (bnd (uL (by simp;omega) _ _ _ _) rfl)))),bnd (kA hy') (bnd (tO (by omega)) (bnd (tO (by omega)) (bnd (jB (by simp;omega)) (bnd (vL (by dsimp only;omega) _ _ _ _) (bnd (vL (by simp;omega) _ _ _ _) rfl))))),_,n3+1,_,n3'+1+1,_,I3++[(n3':Int)],rfl,rfl,fun p hp=>List.mem_append_left _ (hsub p (hP p hp)),?_,by simp [hil],hd4.setB (by omega) (by omega) (by simp;omega)⟩
   rw [List.take_add_one,qR hj]
   exact (hi.mono fun p hp=>List.mem_append_left _ (hsub p hp)).app (m:=[(j:Int)]) (m':=[(n3':Int)]) ⟨by simp,trivial⟩)
 rw [Nat.zero_add] at t4 t5 t6
 have hul:(ug l).length≤l:=by rw [zM];exact Nat.le_refl _
 rw [List.take_of_length_le hul] at t4
 rw [List.drop_of_length_le hul,List.append_nil] at t6
 have hrd:=(m4.mono t3).drop l
 obtain ⟨G,g1,g2,g3⟩:=H2_ t6 t4 hrd
 have hs1:iB out (l:Int) ((out.length:Nat):Int)=some (out.drop l):=by
  unfold iB
  rw [if_pos (by omega)]
  congr 1
  exact List.take_of_length_le (by rw [List.length_drop];omega)
 have hs2:iB out' (l:Int) ((out'.length:Nat):Int)=some (out'.drop l):=by
  unfold iB
  rw [if_pos (by omega)]
  congr 1
  exact List.take_of_length_le (by rw [List.length_drop];omega)
 have hs3:iB out' 0 (l:Int)=some (out'.take l):=by
  unfold iB
  rw [if_pos (by omega)];rfl
 refine ⟨G,?_,?_,g3⟩
 ·
  refine bnd (inputs_ (by omega)) (bnd s1 (bnd hsz (bnd m1 ?_)))
  dsimp only
  rw [zM]
  exact bnd t1 (bnd hs1 (bnd (own_ (by rw [List.length_drop];omega)) (bnd g1 rfl)))
 ·
  refine bnd (a:=false) (stp (cFW (dF (by dsimp only;omega)) (stp (congrArg some (dF (by dsimp only;omega)))))) (cFW rfl (bnd (wires0_ (n:=rows.length) (by omega)) ?_))
  dsimp only
  rw [zM]
  refine bnd s2 (bnd (bnd hsz rfl) (bnd m2 (bnd hs3 ?_)))
  rw [List.length_take,Nat.min_eq_left (by omega)]
  exact bnd t2 (bnd hs2 (bnd g2 rfl))
end Go.Proofs.YtodfjigndedehaaGreatDoor
namespace Go.Proofs.YtodfjigndedehaaGreatDoor
set_option linter.unusedVariables false
def zD (p:Int) (n:Nat) (m:Rows) (v:List Int):Prop:=∃ x:Nat→Int,∀ j,j<n→el v j % p=sg m.length (fun i=>x i*el (gr m i) j) % p
def Indep (p:Int) (n:Nat) (m:Rows):Prop:=∀ x:Nat→Int,(∀ j,j<n→sg m.length (fun i=>x i*el (gr m i) j) % p=0)→∀ i,i<m.length→x i % p=0
def pD (p:Int) (n:Nat) (a b:Rows):Prop:=∀ i,i<a.length→zD p n b (gr a i)
theorem ET_ (c:Int) (f:Nat→Int) (k:Nat):sg k (fun i=>f i*c)=sg k f*c:=by
 rw [mD (g:=fun i=>c*f i) (fun i _=>Int.mul_comm _ _),sg_mul,Int.mul_comm]
theorem FI_ (f:Nat→Int) (k:Nat):sg k (fun i=>- f i) = - sg k f:=by
 rw [mD (g:=fun i=>(-1)*f i) (fun i _=>by omega),sg_mul];omega
theorem DP_ {f:Nat→Int}{k r:Nat} (h:r<k):sg k f=sg k (fun i=>if i=r then 0 else f i)+f r:=by
 have h1:sg k (fun i=>if i=r then f i else 0)=f r:=by
  rw [eI h (fun i _ hn=>if_neg hn),if_pos rfl]
 rw [←h1,← rW]
 exact mD fun i _=>by by_cases hi:i=r <;> simp [hi]
theorem Aw_ {p a b:Int} (h:(a-b) % p=0):a % p=b % p:=by
 have h2:a=(a-b)+b:=by omega
 rw [h2,Int.add_emod,h,Int.zero_add,mod_mod]
theorem CE_ {p a b:Int} (h:a % p=0):(a*b) % p=0:=by rw [←aR,h,Int.zero_mul];exact Int.zero_emod p
theorem Ht_ {p a b:Int} (h:b % p=0):(a*b) % p=0:=by rw [Int.mul_comm];exact CE_ h
theorem mF {p:Int}{n:Nat}{m:Rows}{i:Nat} (h:i<m.length):zD p n m (gr m i):=by
 refine ⟨fun t=>if t=i then 1 else 0,fun j _=>?_⟩
 rw [eI h (fun t _ hn=>by show (if t=i then (1:Int) else 0)*_=0;rw [if_neg hn,Int.zero_mul])]
 show _=(if i=i then (1:Int) else 0)*_ % p
 rw [if_pos rfl,Int.one_mul]
theorem yN {p:Int}{n:Nat}{a b:Rows}{v:List Int} (hab:pD p n a b) (hv:zD p n a v):zD p n b v:=by
 obtain ⟨x,hx⟩:=hv
 have hY:∃ Y:Nat→Nat→Int,∀ i,i<a.length→∀ j,j<n→el (gr a i) j % p=sg b.length (fun t=>Y i t*el (gr b t) j) % p:=by
  refine ⟨fun i=>if h:i<a.length then Classical.choose (hab i h) else fun _=>0,fun i hi=>?_⟩
  simp only [dif_pos hi]
  exact Classical.choose_spec (hab i hi)
 obtain ⟨Y,hY⟩:=hY
 refine ⟨fun t=>sg a.length (fun i=>x i*Y i t),fun j hj=>?_⟩
 rw [hx j hj]
 have e:sg b.length (fun t=>sg a.length (fun i=>x i*Y i t)*el (gr b t) j)=sg a.length (fun i=>x i*sg b.length (fun t=>Y i t*el (gr b t) j)):=by
  rw [mD (g:=fun t=>sg a.length (fun i=>x i*Y i t*el (gr b t) j)) (fun t _=>(ET_ _ _ _).symm),yV]
  refine mD fun i _=>?_
  rw [←sg_mul]
  exact mD fun t _=>Int.mul_assoc _ _ _
 rw [e]
 refine dK fun i hi=>?_
 rw [←mul_mod2,hY i hi j hj,mul_mod2]
theorem cU (p:Int) (n:Nat) (a:Rows):pD p n a a:=fun i hi=>mF hi
theorem oJ {p:Int}{n:Nat}{a b c:Rows} (h:pD p n a b) (k:pD p n b c):pD p n a c:=fun i hi=>yN k (h i hi)
theorem gU {p:Int}{n:Nat}{m:Rows}{u v w:List Int} (c d:Int) (hu:zD p n m u) (hv:zD p n m v) (h:∀ j,j<n→el w j % p=(c*el u j+d*el v j) % p):zD p n m w:=by
 obtain ⟨x,hx⟩:=hu
 obtain ⟨y,hy⟩:=hv
 refine ⟨fun i=>c*x i+d*y i,fun j hj=>?_⟩
 rw [h j hj,Int.add_emod,← mul_mod2,← mul_mod2 p d,hx j hj,hy j hj,mul_mod2,mul_mod2,← Int.add_emod,← sg_mul,← sg_mul,← rW]
 congr 1
 exact mD fun i _=>by rw [Int.add_mul,Int.mul_assoc,Int.mul_assoc]
theorem H0_ {p:Int}{n:Nat}{m:Rows}{v:List Int} (h:∀ j,j<n→el v j % p=0):zD p n m v:=
 ⟨fun _=>0,fun j hj=>by rw [h j hj,wM (fun i _=>Int.zero_mul _)];exact (Int.zero_emod p).symm⟩
theorem IK_ {p:Int}{n:Nat}{m:Rows}{r k:Nat} (hr:r<m.length) (hk:k<m.length):pD p n (bC m r k) m∧pD p n m (bC m r k):=by
 have hl:=qG m r k
 constructor
 ·
  intro i hi
  rw [hl] at hi
  rw [sI hr hk]
  split
  · exact mF hr
  ·
   split
   · exact mF hk
   · exact mF hi
 ·
  intro i hi
  by_cases h1:i=k
  ·
   subst h1
   have:=mF (p:=p) (n:=n) (m:=bC m r i) (i:=r) (by rw [hl];exact hr)
   rw [sI hr hk] at this
   by_cases h2:r=i
   · subst h2;rw [if_pos rfl] at this;exact this
   · rw [if_neg h2,if_pos rfl] at this;exact this
  ·
   by_cases h2:i=r
   ·
    subst h2
    have:=mF (p:=p) (n:=n) (m:=bC m i k) (i:=k) (by rw [hl];exact hk)
    rw [sI hr hk,if_pos rfl] at this;exact this
   ·
    have:=mF (p:=p) (n:=n) (m:=bC m r k) (i:=i) (by rw [hl];exact hi)
    rw [sI hr hk,if_neg h1,if_neg h2] at this;exact this
theorem cV {p:Int}{c r k N q:Nat}{m a:Rows} (hf:fdB p=true) (h:okM p N m) (ha:okM p q a) (hl:a.length=m.length) (hr:r<m.length) (hk:k<m.length) (hc:c<N) (hne:el (gr m k) c≠0) :
  let iv:=iE p (el (gr m k) c)
  (el (gr m k) c*iv) % p=1∧(∀ j,j<q→el (gr (xB p c m a r k) r) j=(el (gr a k) j*iv) % p) ∧
  ∀ i,i<m.length→i≠r→∀ j,j<q→el (gr (xB p c m a r k) i) j=(el (gr (bC a r k) i) j-el (gr (bC m r k) i) c*el (gr (xB p c m a r k) r) j) % p:=by
 intro iv
 have hp:=gC hf
 have hel:=fI h hk hc
 obtain ⟨_,i1,i2,i3⟩:=dR hf (x:=el (gr m k) c) ⟨by omega,hel.2⟩
 have hra:r<a.length:=by omega
 have hka:k<a.length:=by omega
 have hsr:gr (bC m r k) r=gr m k:=iO hr hk
 have hsra:gr (bC a r k) r=gr a k:=iO hra hka
 have hso:okM p q (bC a r k):=tM ha hra hka
 have hpl:(pB p c m a r k).length=a.length:=jO p c m a r k
 have hpr:gr (pB p c m a r k) r=oD (bH p iv) (gr a k):=by
  rw [jR hra,if_pos rfl,hsr,hsra]
 have hrow:=nC ha hka
 have hpe:∀ j,j<q→el (gr (pB p c m a r k) r) j=(el (gr a k) j*iv) % p:=fun j hj=>by
  rw [hpr,nR (by omega)];rfl
 have hst:∀ i,i<m.length→gr (xB p c m a r k) i=yB p c r (pB p c m m r k) (pB p c m a r k) i (gr (pB p c m a r k) i):=fun i hi=>Er_ (by rw [hpl];omega)
 have hstr:∀ j,j<q→el (gr (xB p c m a r k) r) j=(el (gr a k) j*iv) % p:=fun j hj=>by
  rw [hst r hr]
  unfold yB
  rw [if_pos (.inl rfl)]
  exact hpe j hj
 refine ⟨i1,hstr,fun i hi hir j hj=>?_⟩
 rw [hstr j hj,hst i hi]
 have hpi:gr (pB p c m a r k) i=gr (bC a r k) i:=by rw [jR hra,if_neg hir]
 have hpm:gr (pB p c m m r k) i=gr (bC m r k) i:=by rw [jR hr,if_neg hir]
 have hsi:=nC hso (i:=i) (by rw [qG];omega)
 have hb:=fI hso (i:=i) (by rw [qG];omega) hj
 unfold yB
 by_cases h0:el (gr (pB p c m m r k) i) c=0
 ·
  rw [if_pos (.inr h0),hpi]
  rw [hpm] at h0
  rw [h0,Int.zero_mul,Int.sub_zero,rO hb]
 ·
  rw [if_neg (by intro h1;rcases h1 with h1 | h1;exact hir h1;exact h0 h1)]
  rw [nR (by rw [hpi];omega)]
  unfold qE
  rw [hpi,hpe j hj,hpm]
theorem IM_ {p:Int}{c r k N q:Nat}{m a:Rows} (hf:fdB p=true) (h:okM p N m) (ha:okM p q a) (hl:a.length=m.length) (hr:r<m.length) (hk:k<m.length) (hc:c<N) (hne:el (gr m k) c≠0) :
  pD p q (xB p c m a r k) a∧pD p q a (xB p c m a r k):=by
 obtain ⟨e1,e2,e3⟩:=cV hf h ha hl hr hk hc hne
 have hsl:(xB p c m a r k).length=m.length:=by rw [eE,hl]
 have hra:r<a.length:=by omega
 have hka:k<a.length:=by omega
 obtain ⟨w1,w2⟩:=IK_ (p:=p) (n:=q) (m:=a) hra hka
 have hnr:zD p q a (gr (xB p c m a r k) r):=by
  refine gU (iE p (el (gr m k) c)) 0 (mF hka) (mF hka) fun j hj=>?_
  rw [e2 j hj,mod_mod,Int.zero_mul,Int.add_zero,Int.mul_comm]
 constructor
 ·
  intro i hi
  rw [hsl] at hi
  by_cases hir:i=r
  · rw [hir];exact hnr
  ·
   refine gU 1 (- el (gr (bC m r k) i) c) (w1 i (by rw [qG];omega)) hnr fun j hj=>?_
   rw [e3 i hi hir j hj,mod_mod,Int.one_mul,Int.neg_mul,Int.sub_eq_add_neg]
 ·
  refine oJ w2 ?_
  have hrr:zD p q (xB p c m a r k) (gr (xB p c m a r k) r):=mF (by rw [hsl];exact hr)
  intro i hi
  rw [qG] at hi
  by_cases hir:i=r
  ·
   rw [hir,iO hra hka]
   refine gU (el (gr m k) c) 0 hrr hrr fun j hj=>?_
   rw [e2 j hj,Int.zero_mul,Int.add_zero,mul_mod2,← Int.mul_assoc,Int.mul_comm (el (gr m k) c),Int.mul_assoc,← mul_mod2,e1,Int.mul_one]
  ·
   refine gU 1 (el (gr (bC m r k) i) c) (mF (i:=i) (by rw [hsl];omega)) hrr fun j hj=>?_
   rw [e3 i (by omega) hir j hj,Int.one_mul,EB_]
   congr 1;omega
theorem rQ {p:Int}{N q:Nat} (hf:fdB p=true):∀ (d c:Nat) (m a:Rows) (r:Nat),c+d≤N→okM p N m→okM p q a→a.length=m.length→r≤m.length→pD p q (aC p d c m a r).2.1 a∧pD p q a (aC p d c m a r).2.1
 | 0,_,_,a,_,_,_,_,_,_=>⟨cU p q a,cU p q a⟩
 | d+1,c,m,a,r,hN,h,ha,hl,hr=>by
  unfold aC
  by_cases hrl:r<m.length
  ·
   rw [if_pos hrl]
   obtain ⟨s1,s2,s3⟩:=rI m c (m.length-r) r (by omega)
   split
   · exact rQ hf d (c+1) m a r (by omega) h ha hl hr
   ·
    rename_i hk
    have hkl:scanN m c (m.length-r) r<m.length:=by omega
    have ha2:okM p q (xB p c m a r (scanN m c (m.length-r) r)):=zG (gC hf).1 ha (by omega) (by omega)
    obtain ⟨k1,k2⟩:=rQ hf d (c+1) (xB p c m m r (scanN m c (m.length-r) r)) (xB p c m a r (scanN m c (m.length-r) r)) (r+1) (by omega) (zG (gC hf).1 h hrl hkl) ha2 (by rw [eE,eE];exact hl) (by rw [eE];omega)
    obtain ⟨w1,w2⟩:=IM_ hf h ha hl hrl hkl (show c<N by omega) (s3 hkl)
    exact ⟨oJ k1 w1,oJ w2 k2⟩
  · rw [if_neg hrl];exact ⟨cU p q a,cU p q a⟩
theorem Ak_ (p:Int):∀ (d c:Nat) (m:Rows) (r:Nat),(aC p d c m m r).2.1=(aC p d c m m r).1
 | 0,_,_,_=>rfl
 | d+1,c,m,r=>by
  unfold aC
  split
  ·
   split
   · exact Ak_ p d (c+1) m r
   · exact Ak_ p d (c+1) _ (r+1)
  · rfl
theorem II_ {p:Int}{n k:Nat}{m:Rows} (hz:∀ i,k≤i→i<m.length→∀ j,j<n→el (gr m i) j=0):pD p n (m.take k) m∧pD p n m (m.take k):=by
 constructor
 ·
  intro i hi
  rw [List.length_take] at hi
  rw [wJ (by omega)]
  exact mF (by omega)
 ·
  intro i hi
  rcases Nat.lt_or_ge i k with h | h
  ·
   have:=mF (p:=p) (n:=n) (m:=m.take k) (i:=i) (by rw [List.length_take];omega)
   rw [wJ h] at this;exact this
  · exact H0_ fun j hj=>by rw [hz i h hi j hj];exact Int.zero_emod p
theorem sM {p:Int}{n:Nat}{m:Rows} (hf:fdB p=true) (h:okM p n m):pD p n (eC p n m) m∧pD p n m (eC p n m):=by
 obtain ⟨k1,k2⟩:=rQ hf n 0 m m 0 (by omega) h h rfl (by omega)
 rw [Ak_] at k1 k2
 have h1:=kQ hf n 0 m 0 (by omega) h (RedI.start m)
 rw [Nat.zero_add] at h1
 obtain ⟨w1,w2⟩:=II_ (p:=p) (n:=n) (m:=(aC p n 0 m m 0).1) (k:=(aC p n 0 m m 0).2.2) h1.rest
 exact ⟨oJ w1 k1,oJ k2 w2⟩
theorem Red.indep {p:Int}{n:Nat}{b:Rows} (h:Red p n b):Indep p n b:=by
 intro x hx i hi
 have:=hx _ (h.lt i hi)
 rw [eI hi (fun t ht hn=>by rw [h.zero i t hi ht (Ne.symm hn),Int.mul_zero]),h.one i hi,Int.mul_one] at this
 exact this
theorem CW_ {p:Int}{n:Nat}{b:Rows}{v:List Int} (hb:Red p n b) (hv:zD p n b v):∀ j,j<n→el v j % p=sg b.length (fun i=>el v (leadN (gr b i))*el (gr b i) j) % p:=by
 obtain ⟨x,hx⟩:=hv
 intro j hj
 rw [hx j hj]
 refine dK fun i hi=>?_
 have h1:=hx _ (hb.lt i hi)
 rw [eI hi (fun t ht hn=>by rw [hb.zero i t hi ht (Ne.symm hn),Int.mul_zero]),hb.one i hi,Int.mul_one] at h1
 rw [←aR,← h1,aR]
theorem IQ_ {p:Int}{n:Nat}{b:Rows}{v:List Int} (hp:2≤p) (hb:Red p n b) (hv:okR p n v) (hs:zD p n b v) (h0:leadN v<n):∃ i,i<b.length∧leadN (gr b i)=leadN v:=by
 apply Classical.byContradiction
 intro hno
 have hno:∀ i,i<b.length→leadN (gr b i)≠leadN v:=fun i hi he=>hno ⟨i,hi,he⟩
 have h1:=CW_ hb hs _ h0
 have h2:sg b.length (fun i=>el v (leadN (gr b i))*el (gr b i) (leadN v))=0:=by
  refine wM fun i hi=>?_
  rcases Nat.lt_trichotomy (leadN (gr b i)) (leadN v) with h | h | h
  · rw [oO v _ h,Int.zero_mul]
  · exact absurd h (hno i hi)
  · rw [oO (gr b i) _ h,Int.mul_zero]
 rw [h2,Int.zero_emod,rO (hv.2 _ (oH (by rw [hv.1];exact h0)))] at h1
 exact oV v (by rw [hv.1];exact h0) h1
theorem D5_ {p:Int}{n:Nat}{b b':Rows} (hp:2≤p) (hb:Red p n b) (hb':Red p n b') (hs:pD p n b b'):∀ k,k≤b.length→∃ g:Nat→Nat,(∀ i,i<k→g i<b'.length∧leadN (gr b' (g i))=leadN (gr b i))∧(∀ i,i<k→i≤g i):=by
 intro k hk
 have hex:∀ i,i<b.length→∃ t,t<b'.length∧leadN (gr b' t)=leadN (gr b i):=fun i hi=>IQ_ hp hb' (nC hb.ok hi) (hs i hi) (hb.lt i hi)
 refine ⟨fun i=>if h:i<b.length then Classical.choose (hex i h) else 0,fun i hi=>?_,fun i hi=>?_⟩
 ·
  simp only [dif_pos (Nat.lt_of_lt_of_le hi hk)]
  exact Classical.choose_spec (hex i (Nat.lt_of_lt_of_le hi hk))
 ·
  induction i with
  | zero=>exact Nat.zero_le _
  | succ i ih=>
   have h1:=ih (by omega)
   have hi1:i<b.length:=by omega
   have hi2:i+1<b.length:=by omega
   simp only [dif_pos hi1] at h1
   simp only [dif_pos hi2]
   have s1:=Classical.choose_spec (hex i hi1)
   have s2:=Classical.choose_spec (hex (i+1) hi2)
   generalize Classical.choose (hex i hi1)=t1 at s1 h1
   generalize Classical.choose (hex (i+1) hi2)=t2 at s2
   have hlt:=hb.inc i (i+1) (by omega) hi2
   have:t1<t2:=by
    rcases Nat.lt_trichotomy t1 t2 with h | h | h
    · exact h
    · rw [h] at s1;omega
    · have:=hb'.inc t2 t1 h s1.1;omega
   omega
theorem C0_ {p:Int}{n:Nat}{b b':Rows} (hp:2≤p) (hb:Red p n b) (hb':Red p n b') (hs:pD p n b b'):b.length≤b'.length:=by
 obtain ⟨g,h1,h2⟩:=D5_ hp hb hb' hs b.length (Nat.le_refl _)
 rcases Nat.eq_zero_or_pos b.length with h0 | h0
 · omega
 ·
  have:=(h1 (b.length-1) (by omega)).1
  have:=h2 (b.length-1) (by omega)
  omega
theorem red_eq {p:Int}{n:Nat}{b b':Rows} (hp:2≤p) (hb:Red p n b) (hb':Red p n b') (hs:pD p n b b') (hl:b.length=b'.length):b=b':=by
 obtain ⟨g,h1,h2⟩:=D5_ hp hb hb' hs b.length (Nat.le_refl _)
 have hg:∀ d i,i+d+1=b.length→g i=i:=by
  intro d
  induction d with
  | zero=>
   intro i hi
   have:=(h1 i (by omega)).1
   have:=h2 i (by omega)
   omega
  | succ d ih=>
   intro i hi
   have e1:=ih (i+1) (by omega)
   have a1:=h1 i (by omega)
   have a2:=h1 (i+1) (by omega)
   have a3:=hb.inc i (i+1) (by omega) (by omega)
   have a4:=h2 i (by omega)
   rw [e1] at a2
   rcases Nat.lt_trichotomy (g i) (i+1) with h | h | h
   · omega
   · rw [h] at a1;omega
   · have:=hb'.inc (i+1) (g i) h a1.1;omega
 have hlead:∀ i,i<b.length→leadN (gr b' i)=leadN (gr b i):=fun i hi=>by
  have:=(h1 i hi).2
  rw [hg (b.length-1-i) i (by omega)] at this;exact this
 refine FS_ hl fun i hi=>?_
 have r1:=nC hb.ok hi
 have r2:=nC hb'.ok (i:=i) (by omega)
 refine zR (by rw [r1.1,r2.1]) fun j hj=>?_
 rw [r1.1] at hj
 have h3:=CW_ hb' (hs i hi) j hj
 rw [eI (i0:=i) (by omega) (fun t ht hn=>by rw [hlead t (by omega),hb.zero t i (by omega) hi hn,Int.zero_mul]),hlead i hi,hb.one i hi,Int.one_mul] at h3
 rw [rO (r1.2 _ (oH (by omega))),rO (r2.2 _ (oH (by omega)))] at h3
 exact h3
theorem Av_ {p:Int}{n:Nat}{b b':Rows} (hp:2≤p) (hb:Red p n b) (hb':Red p n b') (h1:pD p n b b') (h2:pD p n b' b):b=b':=
 red_eq hp hb hb' h1 (Nat.le_antisymm (C0_ hp hb hb' h1) (C0_ hp hb' hb h2))
theorem CO_ {p:Int}{n:Nat}{a b:Rows} (hf:fdB p=true) (ha:okM p n a) (hb:okM p n b) (h1:pD p n a b) (h2:pD p n b a):eC p n a=eC p n b:=by
 obtain ⟨a1,a2⟩:=sM hf ha
 obtain ⟨b1,b2⟩:=sM hf hb
 exact Av_ (gC hf).1 (rG hf ha) (rG hf hb) (oJ a1 (oJ h1 b2)) (oJ b1 (oJ h2 a2))
theorem Dn_ {p:Int}{n:Nat}{b:Rows} (hf:fdB p=true) (h:Red p n b):eC p n b=b:=by
 obtain ⟨a1,a2⟩:=sM hf h.ok
 exact Av_ (gC hf).1 (rG hf h.ok) h a1 a2
end Go.Proofs.YtodfjigndedehaaGreatDoor
namespace Go.Proofs.YtodfjigndedehaaGreatDoor
theorem IS_ {p:Int}{n:Nat}{m:List (List Int)} (h:yL p n m) (hn:n≤1048576):∀ r∈m,r.length≤bB:=by
 intro r hr;have:=(h r hr).1;have hm:bB=1099511627776:=rfl;omega
end Go.Proofs.YtodfjigndedehaaGreatDoor
namespace Go.Proofs.YtodfjigndedehaaGreatDoor
end Go.Proofs.YtodfjigndedehaaGreatDoor
namespace Go.Proofs.YtodfjigndedehaaGreatDoor
end Go.Proofs.YtodfjigndedehaaGreatDoor
namespace Go.Proofs.YtodfjigndedehaaGreatDoor
set_option linter.unusedVariables false
theorem gr_app1 {a b:Rows}{i:Nat} (h:i<a.length):gr (a++b) i=gr a i:=by
 unfold gr;rw [List.getD_eq_getElem?_getD,List.getD_eq_getElem?_getD,List.getElem?_append_left h]
theorem gr_app2 {a b:Rows} (i:Nat):gr (a++b) (a.length+i)=gr b i:=by
 unfold gr;rw [List.getD_eq_getElem?_getD,List.getD_eq_getElem?_getD,List.getElem?_append_right (by omega),Nat.add_sub_cancel_left]
theorem okM_app {p:Int}{n:Nat}{a b:Rows} (h1:okM p n a) (h2:okM p n b):okM p n (a++b):=
 fun r hr=>(List.mem_append.1 hr).elim (h1 r) (h2 r)
section
variable {p:Int}{n:Nat}{A B:Rows}
end
end Go.Proofs.YtodfjigndedehaaGreatDoor
namespace Go.Proofs.YtodfjigndedehaaGreatDoor
theorem Jf_ {α:Type} (l:List (List α)) (j:Nat):(l.take j).flatten.length≤l.flatten.length:=by
 have:l.flatten=(l.take j).flatten++(l.drop j).flatten:=by rw [←List.flatten_append,List.take_append_drop]
 rw [this,List.length_append];omega
theorem Jg_ {α:Type} (l:List (List α)){j:Nat}{x:List α} (h:l[j]?=some x):(l.take (j+1)).flatten=(l.take j).flatten++x:=by
 rw [List.take_add_one,h]
 simp only [Option.toList_some,List.flatten_append,List.flatten_cons,List.flatten_nil,List.append_nil]
theorem mR {l:Rows} (h:l.flatten.length≤bB):rE l=some l.flatten:=by
 have:=vC (n:=l.length) (fun j=>(l.take j).flatten) (f:=fun (k5:Nat) (s41:List Int)=>
   (idxO l ((k5:Nat):Int)).bind fun a57=>
   (oA s41 a57).bind fun a61=>
   some a61) (by
  intro j hj
  have h1:=wE hj
  have h2:=Jg_ l h1
  have h3:=Jf_ l (j+1)
  refine bnd (eD hj) (bnd (jB ?_) (by rw [h2]))
  rw [h2,List.length_append] at h3;omega)
 exact bnd this (by rw [List.take_of_length_le (Nat.le_refl _)])
theorem Bh_ {p:Int}{l r:Nat}{x y:List Int} (hx:okR p l x) (hy:okR p r y):okR p (l+r) (x++y):=
 ⟨by rw [List.length_append,hx.1,hy.1],fun z hz=>by rcases List.mem_append.1 hz with h | h;exact hx.2 z h;exact hy.2 z h⟩
end Go.Proofs.YtodfjigndedehaaGreatDoor
namespace Go.Proofs.YtodfjigndedehaaGreatDoor
set_option linter.unusedVariables false
end Go.Proofs.YtodfjigndedehaaGreatDoor
namespace Go.Proofs.YtodfjigndedehaaGreatDoor
set_option linter.unusedVariables false
def wC (m a:Rows):Rows:=List.zipWith (fun x y=>x++y) m a
theorem vJ {m a:Rows} (h:a.length=m.length):(wC m a).length=m.length:=by simp [wC,h]
theorem xJ:∀ {m a:Rows}{i:Nat},a.length=m.length→gr (wC m a) i=gr m i++gr a i
 | [],[],i,_=>by simp [wC,gr]
 | [],_::_,_,h=>by simp at h
 | _::_,[],_,h=>by simp at h
 | x::m,y::a,0,_=>by rw [E9_,E9_];rfl
 | x::m,y::a,i+1,h=>by
  rw [Bu_,Bu_]
  show gr ((x++y)::wC m a) (i+1)=_
  rw [Bu_]
  exact xJ (by simpa using h)
theorem el_app {x y:List Int}{j:Nat}:el (x++y) j=if j<x.length then el x j else el y (j-x.length):=by
 unfold el
 rw [List.getD_eq_getElem?_getD,List.getD_eq_getElem?_getD,List.getD_eq_getElem?_getD]
 split
 · rename_i h;rw [List.getElem?_append_left h]
 · rename_i h;rw [List.getElem?_append_right (by omega)]
theorem Fy_ {p:Int}{k q:Nat}{m a:Rows} (hl:a.length=m.length) (h:okM p k m) (ha:okM p q a):okM p (k+q) (wC m a):=by
 intro x hx
 obtain ⟨i,hi,rfl⟩:=List.mem_iff_getElem.1 hx
 rw [vJ hl] at hi
 have e:gr (wC m a) i=(wC m a)[i]'(by rw [vJ hl];exact hi):=by have:=wE (m:=wC m a) (i:=i) (by rw [vJ hl];exact hi);rw [List.getElem?_eq_getElem] at this;exact (Option.some.inj this).symm
 rw [←e,xJ hl]
 exact Bh_ (nC h hi) (nC ha (by omega))
theorem Bz_ {p:Int}{k:Nat}{m a:Rows} (hl:a.length=m.length) (h:okM p k m){i c:Nat} (hi:i<m.length) (hc:c<k):el (gr (wC m a) i) c=el (gr m i) c:=by
 rw [xJ hl,el_app,if_pos (by rw [(nC h hi).1];exact hc)]
theorem DB_ {p:Int}{k:Nat}{m a:Rows} (hl:a.length=m.length) (h:okM p k m){c:Nat} (hc:c<k):∀ (d i:Nat),i+d≤m.length→scanN (wC m a) c d i=scanN m c d i
 | 0,_,_=>rfl
 | d+1,i,hi=>by
  unfold scanN
  rw [Bz_ hl h (by omega) hc,DB_ hl h hc d (i+1) (by omega)]
theorem Jn_ {m a:Rows}{r k i:Nat} (hl:a.length=m.length) (hr:r<m.length) (hk:k<m.length):gr (bC (wC m a) r k) i=gr (bC m r k) i++gr (bC a r k) i:=by
 have hcl:=vJ hl
 rw [sI (by rw [hcl];exact hr) (by rw [hcl];exact hk),sI hr hk,sI (m:=a) (by omega) (by omega)]
 split
 · exact xJ hl
 · split <;> exact xJ hl
theorem Jo_ {p:Int}{c r k w q:Nat}{m a:Rows} (hf:fdB p=true) (h:okM p w m) (ha:okM p q a) (hl:a.length=m.length) (hr:r<m.length) (hk:k<m.length) (hc:c<w) (hne:el (gr m k) c≠0) :
  xB p c (wC m a) (wC m a) r k=wC (xB p c m m r k) (xB p c m a r k):=by
 have hp:=gC hf
 have hcl:=vJ hl
 have hco:=Fy_ hl h ha
 have hne2:el (gr (wC m a) k) c≠0:=by rw [Bz_ hl h hk hc];exact hne
 obtain ⟨f1,f2,f3⟩:=cV hf hco hco rfl (by rw [hcl];exact hr) (by rw [hcl];exact hk) (by omega) hne2
 obtain ⟨g1,g2,g3⟩:=cV hf h h rfl hr hk hc hne
 obtain ⟨k1,k2,k3⟩:=cV hf h ha hl hr hk hc hne
 have l1:(xB p c (wC m a) (wC m a) r k).length=m.length:=by rw [eE,hcl]
 have l2:(xB p c m m r k).length=m.length:=eE p c m m r k
 have l3:(xB p c m a r k).length=m.length:=by rw [eE,hl]
 have o1:okM p (w+q) (xB p c (wC m a) (wC m a) r k):=zG hp.1 hco (by rw [hcl];exact hr) (by rw [hcl];exact hk)
 have o2:okM p w (xB p c m m r k):=zG hp.1 h hr hk
 have o3:okM p q (xB p c m a r k):=zG hp.1 ha (by omega) (by omega)
 rw [hcl] at f3
 have hrow:∀ j,j<w+q→el (gr (xB p c (wC m a) (wC m a) r k) r) j=el (gr (xB p c m m r k) r++gr (xB p c m a r k) r) j:=fun j hj=>by
  rw [f2 j hj,Bz_ hl h hk hc,xJ hl,el_app,el_app,(nC h hk).1,(nC o2 (i:=r) (by omega)).1]
  split
  · rw [g2 j (by omega)]
  · rw [k2 _ (by omega)]
 refine FS_ (by rw [vJ (by rw [l3,l2]),l1,l2]) fun i hi=>?_
 rw [l1] at hi
 rw [xJ (by rw [l3,l2])]
 have wi:=(nC o2 (i:=i) (by omega)).1
 refine zR (by rw [List.length_append,(nC o1 (i:=i) (by omega)).1,wi,(nC o3 (i:=i) (by omega)).1]) fun j hj=>?_
 rw [(nC o1 (i:=i) (by omega)).1] at hj
 by_cases hir:i=r
 · subst hir;exact hrow j hj
 ·
  have hsm:okM p w (bC m r k):=tM h hr hk
  have ws:=(nC hsm (i:=i) (by rw [qG];exact hi)).1
  have wr:=(nC o2 (i:=r) (by omega)).1
  rw [f3 i hi hir j hj,hrow j hj,Jn_ hl hr hk,el_app,el_app,el_app,el_app,ws,wr,wi,if_pos hc]
  split
  · rename_i hjw;rw [g3 i hi hir j hjw]
  · rename_i hjw;rw [k3 i hi hir _ (by omega)]
theorem AN_ {p:Int}{w q:Nat} (hf:fdB p=true):∀ (d c:Nat) (m a:Rows) (r:Nat),c+d≤w→okM p w m→okM p q a→a.length=m.length→r≤m.length →
  aC p d c (wC m a) (wC m a) r=(wC (aC p d c m a r).1 (aC p d c m a r).2.1,wC (aC p d c m a r).1 (aC p d c m a r).2.1,(aC p d c m a r).2.2)
 | 0,_,_,_,_,_,_,_,_,_=>rfl
 | d+1,c,m,a,r,hd,h,ha,hl,hr=>by
  have hcl:=vJ hl
  unfold aC
  rw [hcl]
  by_cases hrl:r<m.length
  ·
   rw [if_pos hrl,if_pos hrl,DB_ hl h (by omega) (m.length-r) r (by omega)]
   obtain ⟨s1,s2,s3⟩:=rI m c (m.length-r) r (by omega)
   split
   · exact AN_ hf d (c+1) m a r (by omega) h ha hl hr
   ·
    rename_i hk
    have hkl:scanN m c (m.length-r) r<m.length:=by omega
    rw [Jo_ hf h ha hl hrl hkl (by omega) (s3 hkl)]
    have ha2:okM p q (xB p c m a r (scanN m c (m.length-r) r)):=zG (gC hf).1 ha (by omega) (by omega)
    exact AN_ hf d (c+1) (xB p c m m r (scanN m c (m.length-r) r)) (xB p c m a r (scanN m c (m.length-r) r)) (r+1) (by omega) (zG (gC hf).1 h hrl hkl) ha2 (by rw [eE,eE];exact hl) (by rw [eE];omega)
  · rw [if_neg hrl,if_neg hrl]
end Go.Proofs.YtodfjigndedehaaGreatDoor
namespace Go.Proofs.YtodfjigndedehaaGreatDoor
set_option linter.unusedVariables false
theorem sR (f:Nat→Int) (a:Nat):∀ b,sg (a+b) f=sg a f+sg b (fun t=>f (a+t))
 | 0=>by show sg a f=sg a f+0;omega
 | b+1=>by
  show sg (a+b) f+f (a+b)=sg a f+(sg b (fun t=>f (a+t))+f (a+b))
  rw [sR f a b];omega
theorem rV {p:Int}{n:Nat}{m:Rows}{v:List Int} (f:Nat→Int) (h:∀ i,i<m.length→sg n (fun j=>f j*el (gr m i) j) % p=0) (hv:zD p n m v):sg n (fun j=>f j*el v j) % p=0:=by
 obtain ⟨x,hx⟩:=hv
 have e1:sg n (fun j=>f j*el v j) % p=sg n (fun j=>f j*sg m.length (fun i=>x i*el (gr m i) j)) % p:=
  dK fun j hj=>by rw [←mul_mod2,hx j hj,mul_mod2]
 rw [e1]
 have e2:sg n (fun j=>f j*sg m.length (fun i=>x i*el (gr m i) j))=sg m.length (fun i=>x i*sg n (fun j=>f j*el (gr m i) j)):=by
  rw [mD (g:=fun j=>sg m.length (fun i=>f j*(x i*el (gr m i) j))) (fun j _=>(sg_mul _ _ _).symm),yV]
  refine mD fun i _=>?_
  rw [←sg_mul]
  exact mD fun j _=>Int.mul_left_comm _ _ _
 rw [e2,dK (g:=fun _=>0) (fun i hi=>by rw [Ht_ (h i hi)];exact (Int.zero_emod p).symm),wM (fun _ _=>rfl)]
 exact Int.zero_emod p
def sH (p:Int) (n:Nat) (m:Rows) (x:List Int):Prop:=∀ i,i<m.length→sg n (fun j=>el (gr m i) j*el x j) % p=0
theorem IY_ {p:Int}{n:Nat}{m:Rows}{x v:List Int} (h:sH p n m x) (hv:zD p n m v):sg n (fun j=>el v j*el x j) % p=0:=by
 have:=rV (m:=m) (v:=v) (fun j=>el x j) (fun i hi=>by rw [←h i hi];exact congrArg (· % p) (mD fun j _=>Int.mul_comm _ _)) hv
 rw [←this];exact congrArg (· % p) (mD fun j _=>Int.mul_comm _ _)
theorem DX_ {p:Int}{n:Nat}{a b:Rows}{x:List Int} (h:sH p n b x) (hs:pD p n a b):sH p n a x:=fun i hi=>IY_ h (hs i hi)
def eS (p:Int) (n:Nat) (m:Rows) (x:List Int):Prop:=∀ c,c<n→sg m.length (fun t=>el x t*el (gr m t) c) % p=0
theorem Ii_ {p:Int}{n:Nat}{m b:Rows}{v:List Int} (h:∀ i,i<b.length→eS p n m (gr b i)) (hv:zD p m.length b v):eS p n m v:=by
 intro c hc
 have:=rV (n:=m.length) (m:=b) (v:=v) (fun t=>el (gr m t) c) (fun i hi=>by rw [←h i hi c hc];exact congrArg (· % p) (mD fun j _=>Int.mul_comm _ _)) hv
 rw [←this];exact congrArg (· % p) (mD fun j _=>Int.mul_comm _ _)
theorem BM_ {n i:Nat} (hi:i<n):gr (idN n) i=aE n i:=by
 have h:=wE (m:=idN n) (i:=i) (by rw [qO];exact hi)
 unfold idN at h
 rw [List.getElem?_map,List.getElem?_range hi] at h
 exact (Option.some.inj h).symm
theorem iL {n i j:Nat} (hi:i<n):el (aE n i) j=if i=j then 1 else 0:=by
 unfold aE el
 rw [List.getD_eq_getElem?_getD,List.getElem?_set]
 by_cases h:i=j
 · subst h;rw [if_pos rfl,if_pos (by rw [List.length_replicate];exact hi),if_pos rfl];rfl
 · rw [if_neg h,if_neg h,← List.getD_eq_getElem?_getD];exact aP n j
theorem idN_all {p:Int}{n:Nat} (v:List Int):zD p n (idN n) v:=by
 refine ⟨fun i=>el v i,fun j hj=>?_⟩
 rw [qO,eI (i0:=j) hj (fun i hi hne=>by rw [BM_ hi,iL hi,if_neg hne,Int.mul_zero]),BM_ hj,iL hj,if_pos rfl,Int.mul_one]
theorem Jv_ {p:Int}{n:Nat}{m:Rows} (hf:fdB p=true) (h:okM p n m):∀ i,i<m.length→∀ c,c<n→el (gr (zB p n m).1 i) c % p=sg m.length (fun t=>el (gr (zB p n m).2.1 i) t*el (gr m t) c) % p:=by
 have hp:=gC hf
 obtain ⟨f1,f2,f3,f4,f5,f6⟩:=nQ hf h
 have hl:(idN m.length).length=m.length:=qO _
 have h1:=AN_ hf n 0 m (idN m.length) 0 (by omega) h (yR hp.1 _) hl (Nat.zero_le _)
 have hC:=Fy_ hl h (yR hp.1 m.length)
 have h2:=(rQ hf n 0 (wC m (idN m.length)) (wC m (idN m.length)) 0 (by omega) hC hC rfl (Nat.zero_le _)).1
 rw [h1] at h2
 change pD p (n+m.length) (wC (zB p n m).1 (zB p n m).2.1) (wC m (idN m.length)) at h2
 intro i hi c hc
 have hv:=h2 i (by rw [vJ (by omega)];omega)
 rw [xJ (by omega)] at hv
 have key:∀ a b:List Int,a.length=n→sg (n+m.length) (fun j=>(if j<n then (if c=j then 1 else 0) else -(el (gr m (j-n)) c))*el (a++b) j)=el a c-sg m.length (fun t=>el b t*el (gr m t) c):=by
  intro a b ha
  rw [sR,eI (i0:=c) hc (fun j hj hne=>by rw [if_pos hj,if_neg (fun hh=>hne hh.symm),Int.zero_mul]),if_pos hc,if_pos rfl,Int.one_mul,el_app,if_pos (by omega),Int.sub_eq_add_neg,← FI_]
  congr 1
  refine mD fun t _=>?_
  rw [if_neg (by omega),el_app,if_neg (by omega),show n+t-n=t by omega,show n+t-a.length=t by omega,Int.neg_mul,Int.mul_comm]
 have hd:=rV (n:=n+m.length) (m:=wC m (idN m.length)) _ (fun i hi=>by
  rw [vJ hl] at hi
  rw [xJ hl,key _ _ (h _ (cN hi)).1,BM_ hi,eI (i0:=i) hi (fun t _ hne=>by rw [iL hi,if_neg (fun hh=>hne hh.symm),Int.zero_mul]),iL hi,if_pos rfl,Int.one_mul,Int.sub_self]
  exact Int.zero_emod p) hv
 rw [key _ _ (f5 _ (cN (by omega))).1] at hd
 exact Aw_ hd
theorem IU_ {p:Int}{n:Nat}{m:Rows} (hf:fdB p=true) (h:okM p n m):∀ i,(zB p n m).2.2≤i→i<m.length→∀ c,c<n→el (gr (zB p n m).1 i) c=0:=by
 have h1:=kQ hf n 0 m 0 (by omega) h (RedI.start m)
 obtain ⟨e1,e2⟩:=lQ p n 0 m m (idN m.length) 0
 have f2:=(nQ hf h).2.1
 rw [e1,e2,Nat.zero_add] at h1
 intro i h2 h3 c hc
 exact h1.rest i h2 (by rw [←f2] at h3;exact h3) c hc
theorem Jw_ {p:Int}{n:Nat}{m:Rows} (hf:fdB p=true) (h:okM p n m) (v:List Int):zD p m.length (zB p n m).2.1 v:=by
 have hp:=gC hf
 exact yN (rQ hf n 0 m (idN m.length) 0 (by omega) h (yR hp.1 _) (qO _) (Nat.zero_le _)).2 (idN_all v)
theorem Fa_ (m:Rows) (k i:Nat):gr (m.drop k) i=gr m (k+i):=by
 unfold gr;rw [List.getD_eq_getElem?_getD,List.getD_eq_getElem?_getD,List.getElem?_drop]
def kerM (p:Int) (n:Nat) (m:Rows):Rows:=eC p m.length ((zB p n m).2.1.drop (zB p n m).2.2)
theorem BL_ {p:Int}{n:Nat}{m:Rows} (hf:fdB p=true) (h:okM p n m):okM p m.length ((zB p n m).2.1.drop (zB p n m).2.2):=
 fun r hr=>(nQ hf h).2.2.2.1 r (List.mem_of_mem_drop hr)
theorem AY_ {p:Int}{n:Nat}{m:Rows} (hf:fdB p=true) (h:okM p n m):Red p m.length (kerM p n m):=rG hf (BL_ hf h)
theorem D9_ {p:Int}{n:Nat}{m:Rows} (hf:fdB p=true) (h:okM p n m) (x:List Int):zD p m.length (kerM p n m) x↔eS p n m x:=by
 have hp:=gC hf
 obtain ⟨f1,f2,f3,f4,f5,f6⟩:=nQ hf h
 have hrel:=Jv_ hf h
 have hrest:=IU_ hf h
 have hsp:=sM hf (BL_ hf h)
 constructor
 ·
  intro hx
  refine Ii_ (b:=(zB p n m).2.1.drop (zB p n m).2.2) (fun i hi c hc=>?_) (yN hsp.1 hx)
  rw [List.length_drop] at hi
  rw [Fa_,← hrel _ (by omega) c hc,hrest _ (by omega) (by omega) c hc]
  exact Int.zero_emod p
 ·
  intro hx
  refine yN hsp.2 ?_
  obtain ⟨y,hy⟩:=Jw_ hf h x
  rw [f3] at hy
  have hL:(zB p n m).2.2+(m.length-(zB p n m).2.2)=m.length:=by omega
  have hz:∀ i,i<(zB p n m).2.2→y i % p=0:=by
   have hi:=f6.indep y (fun c hc=>?_)
   · intro i h1;exact hi i (by rw [List.length_take];omega)
   ·
    have hlen:((zB p n m).1.take (zB p n m).2.2).length=(zB p n m).2.2:=by rw [List.length_take];omega
    rw [hlen,mD (g:=fun i=>y i*el (gr (zB p n m).1 i) c) (fun i h1=>by rw [wJ h1])]
    have e0:sg m.length (fun i=>y i*el (gr (zB p n m).1 i) c)=sg (zB p n m).2.2 (fun i=>y i*el (gr (zB p n m).1 i) c):=by
     conv=>lhs;rw [←hL]
     rw [sR,wM (k:=m.length-(zB p n m).2.2) (fun t ht=>by rw [hrest _ (by omega) (by omega) c hc,Int.mul_zero])]
     omega
    rw [←e0,dK (g:=fun i=>y i*sg m.length (fun t=>el (gr (zB p n m).2.1 i) t*el (gr m t) c)) (fun i hi=>by rw [←mul_mod2,hrel i hi c hc,mul_mod2])]
    rw [←hx c hc]
    have e1:sg m.length (fun i=>y i*sg m.length (fun t=>el (gr (zB p n m).2.1 i) t*el (gr m t) c))=sg m.length (fun t=>sg m.length (fun i=>y i*el (gr (zB p n m).2.1 i) t)*el (gr m t) c):=by
     rw [mD (g:=fun i=>sg m.length (fun t=>y i*(el (gr (zB p n m).2.1 i) t*el (gr m t) c))) (fun i _=>(sg_mul _ _ _).symm),yV]
     refine mD fun t _=>?_
     rw [←ET_]
     exact mD fun i _=>(Int.mul_assoc _ _ _).symm
    rw [e1]
    exact dK fun t ht=>by rw [←aR,← hy t ht,aR]
  refine ⟨fun t=>y ((zB p n m).2.2+t),fun j hj=>?_⟩
  rw [hy j hj,List.length_drop,f3]
  conv=>lhs;rw [←hL]
  rw [sR,Int.add_emod,dK (k:=(zB p n m).2.2) (g:=fun _=>0) (fun i hi=>by rw [CE_ (hz i hi)];exact (Int.zero_emod p).symm),wM (k:=(zB p n m).2.2) (f:=fun _=>0) (fun _ _=>rfl),Int.zero_emod,Int.zero_add,mod_mod]
  exact congrArg (· % p) (mD fun t _=>by rw [Fa_])
end Go.Proofs.YtodfjigndedehaaGreatDoor
namespace Go.Proofs.YtodfjigndedehaaGreatDoor
set_option linter.unusedVariables false
theorem kernel_ {p:Int}{n:Nat}{m:Rows} (hf:fdB p=true) (hn:n≤1048576) (h:okM p n m) (hL:m.length≤1048576):Aj_ p m (n:Int)=some (kerM p n m):=by
 have hm:bB=1099511627776:=rfl
 have hp:=gC hf
 obtain ⟨f1,f2,f3,f4,f5,f6⟩:=nQ hf h
 refine bnd (Fw_ (by omega) (IS_ h (by omega))) (bnd (HE_ hL) (bnd (CZ_ hf (Nat.le_refl n) hn h (yR hp.1 m.length) (by omega) (qO _)) ?_))
 change (iB (zB p n m).2.1 ((zB p n m).2.2:Int) (((zB p n m).2.1.length:Nat):Int)).bind _=_
 have e:iB (zB p n m).2.1 ((zB p n m).2.2:Int) (((zB p n m).2.1.length:Nat):Int)=some ((zB p n m).2.1.drop (zB p n m).2.2):=by
  unfold iB
  rw [if_pos ⟨by omega,by omega,by rw [Int.toNat_natCast];omega⟩,Int.toNat_natCast,Int.toNat_natCast,List.take_of_length_le (by rw [List.length_drop];omega)]
 refine bnd e (bnd (fV hf (Nat.le_refl m.length) hL (BL_ hf h) (by rw [List.length_drop];omega)) rfl)
def isL (b:Rows) (j:Nat):Bool:=b.any fun r=>decide (leadN r=j)
theorem isL_iff {b:Rows}{j:Nat}:isL b j=true↔∃ t,t<b.length∧leadN (gr b t)=j:=by
 unfold isL
 rw [List.any_eq_true]
 constructor
 ·
  rintro ⟨r,hr,h⟩
  obtain ⟨t,ht,rfl⟩:=List.mem_iff_getElem.1 hr
  refine ⟨t,ht,?_⟩
  have e:gr b t=b[t]:=by have:=wE ht;rw [List.getElem?_eq_getElem ht] at this;exact (Option.some.inj this).symm
  rw [e];exact of_decide_eq_true h
 ·
  rintro ⟨t,ht,h⟩
  exact ⟨gr b t,cN ht,decide_eq_true h⟩
def ldL (n:Nat) (b:Rows):Nat→List Int
 | 0=>oD (fun _ _=>-1) (List.replicate n 0)
 | i+1=>(ldL n b i).set (leadN (gr b i)) (i:Int)
theorem gW (n:Nat) (b:Rows):∀ i,(ldL n b i).length=n
 | 0=>by unfold ldL;rw [mV,List.length_replicate]
 | i+1=>by unfold ldL;rw [List.length_set];exact gW n b i
theorem Bw_ {z:List Int}{i j:Nat}{v:Int} (h:i<z.length):el (z.set i v) j=if i=j then v else el z j:=by
 unfold el
 rw [List.getD_eq_getElem?_getD,List.getD_eq_getElem?_getD,List.getElem?_set]
 by_cases hij:i=j
 · rw [if_pos hij,if_pos hij,if_pos (by omega)];rfl
 · rw [if_neg hij,if_neg hij]
theorem FN_ {n:Nat}{b:Rows} (hlt:∀ i,i<b.length→leadN (gr b i)<n){j:Nat} (hj:j<n):∀ i,i≤b.length→(0≤el (ldL n b i) j↔∃ t,t<i∧leadN (gr b t)=j)
 | 0,_=>by
  unfold ldL
  rw [nR (by rw [List.length_replicate];exact hj)]
  exact ⟨fun h=>by omega,fun ⟨t,ht,_⟩=>by omega⟩
 | i+1,hi=>by
  have ih:=FN_ hlt hj i (by omega)
  show 0≤el ((ldL n b i).set (leadN (gr b i)) (i:Int)) j↔_
  rw [Bw_ (by rw [gW];exact hlt i (by omega))]
  by_cases h:leadN (gr b i)=j
  · rw [if_pos h];exact ⟨fun _=>⟨i,by omega,h⟩,fun _=>by omega⟩
  ·
   rw [if_neg h,ih]
   constructor
   · rintro ⟨t,ht,h2⟩;exact ⟨t,by omega,h2⟩
   ·
    rintro ⟨t,ht,h2⟩
    by_cases hti:t=i
    · rw [hti] at h2;exact absurd h2 h
    · exact ⟨t,by omega,h2⟩
def nvL (p:Int) (n:Nat) (b:Rows) (j:Nat):Nat→List Int
 | 0=>(List.replicate n 0).set j 1
 | i+1=>(nvL p n b j i).set (leadN (gr b i)) ((p-el (gr b i) j) % p)
theorem vR {p:Int}{n:Nat}{b:Rows}{j:Nat} (hp:2≤p):∀ i,okR p n (nvL p n b j i)
 | 0=>wU hp n j
 | i+1=>by
  have ih:=vR (n:=n) (b:=b) (j:=j) hp i
  unfold nvL
  refine ⟨by rw [List.length_set];exact ih.1,fun x hx=>?_⟩
  rcases List.mem_or_eq_of_mem_set hx with h | rfl
  · exact ih.2 x h
  · exact ⟨Int.emod_nonneg _ (by omega),Int.emod_lt_of_pos _ (by omega)⟩
theorem zQ {p:Int}{n:Nat}{b:Rows}{j:Nat} (hp:2≤p) (hlt:∀ i,i<b.length→leadN (gr b i)<n) (hj:j<n){c:Nat}:∀ i,i≤b.length→(∀ t,t<i→leadN (gr b t)≠c)→el (nvL p n b j i) c=if j=c then 1 else 0
 | 0,_,_=>iL hj
 | i+1,hi,h=>by
  unfold nvL
  rw [Bw_ (by rw [(vR hp i).1];exact hlt i (by omega)),if_neg (h i (by omega))]
  exact zQ hp hlt hj i (by omega) (fun t ht=>h t (by omega))
theorem Bj_ {p:Int}{n:Nat}{b:Rows}{j:Nat} (hp:2≤p) (hb:Red p n b){t:Nat} (ht:t<b.length):∀ i,i≤b.length→t<i→el (nvL p n b j i) (leadN (gr b t))=(p-el (gr b t) j) % p
 | 0,_,h=>by omega
 | i+1,hi,h=>by
  unfold nvL
  rw [Bw_ (by rw [(vR hp i).1];exact hb.lt i (by omega))]
  by_cases hti:t=i
  · subst hti;rw [if_pos rfl]
  ·
   have:=hb.inc t i (by omega) (by omega)
   rw [if_neg (by omega)]
   exact Bj_ hp hb ht i (by omega) (by omega)
def nuP (p:Int) (n:Nat) (b:Rows):Nat→Rows
 | 0=>[]
 | j+1=>if isL b j then nuP p n b j else nuP p n b j++[nvL p n b j b.length]
theorem wO {p:Int}{n:Nat}{b:Rows} (hp:2≤p):∀ j,okM p n (nuP p n b j)∧(nuP p n b j).length≤j
 | 0=>⟨(fun r hr=>nomatch hr),Nat.le_refl _⟩
 | j+1=>by
  obtain ⟨h1,h2⟩:=wO (n:=n) (b:=b) hp j
  unfold nuP
  split
  · exact ⟨h1,by omega⟩
  ·
   refine ⟨okM_app h1 (fun r hr=>?_),by rw [List.length_append];show _+1≤_;omega⟩
   rw [List.mem_singleton.1 hr];exact vR hp _
theorem Bk_ {p:Int}{n:Nat}{b:Rows}{v:List Int}:∀ k,v∈nuP p n b k→∃ j,j<k∧isL b j=false∧v=nvL p n b j b.length
 | 0,h=>nomatch h
 | k+1,h=>by
  unfold nuP at h
  split at h
  · obtain ⟨j,h1,h2⟩:=Bk_ k h;exact ⟨j,by omega,h2⟩
  ·
   rename_i hn
   rcases List.mem_append.1 h with h | h
   · obtain ⟨j,h1,h2⟩:=Bk_ k h;exact ⟨j,by omega,h2⟩
   · exact ⟨k,by omega,by cases hk:isL b k with | false=>rfl | true=>exact absurd hk hn,List.mem_singleton.1 h⟩
theorem E0_ {p:Int}{n:Nat}{b:Rows} (x:Nat→Int):∀ k,∃ X:Nat→Int,∀ c,sg (nuP p n b k).length (fun i=>X i*el (gr (nuP p n b k) i) c)=sg k (fun j=>if isL b j=true then 0 else x j*el (nvL p n b j b.length) c)
 | 0=>⟨fun _=>0,fun c=>rfl⟩
 | k+1=>by
  obtain ⟨X,hX⟩:=E0_ (p:=p) (n:=n) (b:=b) x k
  unfold nuP
  split
  ·
   rename_i h
   refine ⟨X,fun c=>?_⟩
   show _=sg k _+(if isL b k=true then 0 else _)
   rw [if_pos h,hX c];omega
  ·
   rename_i h
   refine ⟨fun i=>if i<(nuP p n b k).length then X i else x k,fun c=>?_⟩
   rw [List.length_append,show [nvL p n b k b.length].length=1 from rfl,sR]
   show _=sg k _+(if isL b k=true then 0 else _)
   rw [if_neg h,← hX c]
   congr 1
   · exact mD fun i hi=>by dsimp only;rw [if_pos hi,gr_app1 hi]
   ·
    show 0+_=_
    dsimp only
    rw [if_neg (by omega),gr_app2,Int.zero_add]
    rfl
def kG (p:Int) (n:Nat) (m:Rows):Rows:=eC p n (nuP p n (eC p n m) n)
theorem AU_ {p:Int}{n:Nat}{m:Rows} (hf:fdB p=true):Red p n (kG p n m):=rG hf (wO (gC hf).1 n).1
theorem jV {p:Int}{n:Nat}{m:Rows} (hf:fdB p=true) (h:okM p n m) (x:List Int):zD p n (kG p n m) x↔sH p n m x:=by
 have hp:=gC hf
 have hb:=rG hf h
 have hs:=sM hf h
 have hn:=sM hf (wO (n:=n) (b:=eC p n m) hp.1 n).1
 unfold kG
 generalize eC p n m=b at hb hs hn ⊢
 constructor
 ·
  intro hx
  refine DX_ ?_ hs.2
  intro i hi
  refine rV (m:=nuP p n b n) (fun c=>el (gr b i) c) (fun k hk=>?_) (yN hn.1 hx)
  obtain ⟨j,hj,hl,e⟩:=Bk_ n (cN hk)
  have hnl:∀ t,t<b.length→leadN (gr b t)≠j:=fun t ht he=>by
   have:=isL_iff.2 ⟨t,ht,he⟩
   rw [this] at hl;cases hl
  rw [e,DP_ (hb.lt i hi),eI (i0:=j) hj (fun c hc hne=>by
   by_cases h1:c=leadN (gr b i)
   · rw [if_pos h1]
   ·
    rw [if_neg h1]
    by_cases h2:isL b c=true
    ·
     obtain ⟨t,ht,h3⟩:=isL_iff.1 h2
     rw [←h3,hb.zero t i ht hi (fun h4=>h1 (by rw [←h3,h4])),Int.zero_mul]
    · rw [zQ hp.1 hb.lt hj b.length (Nat.le_refl _) (fun t ht he=>h2 (isL_iff.2 ⟨t,ht,he⟩)),if_neg (fun h4=>hne h4.symm),Int.mul_zero])]
  rw [if_neg (fun h1=>hnl i hi h1.symm),zQ hp.1 hb.lt hj b.length (Nat.le_refl _) hnl,if_pos rfl,hb.one i hi,Bj_ hp.1 hb hi b.length (Nat.le_refl _) hi,Int.mul_one,Int.one_mul,Int.add_emod,mod_mod,← Int.add_emod,show el (gr b i) j+(p-el (gr b i) j)=p by omega]
  exact Int.emod_self
 ·
  intro hx
  have hx':sH p n b x:=DX_ hx hs.1
  refine yN hn.2 ?_
  obtain ⟨X,hX⟩:=E0_ (p:=p) (n:=n) (b:=b) (fun j=>el x j) n
  refine ⟨X,fun c hc=>?_⟩
  rw [hX c]
  by_cases h2:isL b c=true
  ·
   obtain ⟨t,ht,h3⟩:=isL_iff.1 h2
   have h4:=hx' t ht
   rw [DP_ (hb.lt t ht),hb.one t ht,Int.one_mul] at h4
   rw [←h3]
   have e1:sg n (fun j=>if isL b j=true then 0 else el x j*el (nvL p n b j b.length) (leadN (gr b t))) % p=sg n (fun j=>- (if j=leadN (gr b t) then 0 else el (gr b t) j*el x j)) % p:=by
    refine dK fun j hj=>?_
    by_cases h5:isL b j=true
    ·
     rw [if_pos h5]
     by_cases h6:j=leadN (gr b t)
     · rw [if_pos h6];rfl
     ·
      obtain ⟨t',ht',h7⟩:=isL_iff.1 h5
      rw [if_neg h6,← h7,hb.zero t' t ht' ht (fun h8=>h6 (by rw [←h7,h8])),Int.zero_mul];rfl
    ·
     have h6:j≠leadN (gr b t):=fun h7=>h5 (isL_iff.2 ⟨t,ht,h7.symm⟩)
     rw [if_neg h5,if_neg h6,Bj_ hp.1 hb ht b.length (Nat.le_refl _) ht,mul_mod2]
     refine Aw_ ?_
     rw [show el x j*(p-el (gr b t) j) - -(el (gr b t) j*el x j)=el x j*p from by rw [Int.mul_sub,Int.mul_comm (el (gr b t) j)];omega]
     exact Int.mul_emod_left _ _
   rw [e1,FI_]
   refine Aw_ ?_
   rw [Int.sub_neg,Int.add_comm]
   exact h4
  ·
   rw [eI (i0:=c) hc (fun j hj hne=>by
    by_cases h3:isL b j=true
    · rw [if_pos h3]
    · rw [if_neg h3,zQ hp.1 hb.lt hj b.length (Nat.le_refl _) (fun t ht he=>h2 (isL_iff.2 ⟨t,ht,he⟩)),if_neg hne,Int.mul_zero]),if_neg h2,zQ hp.1 hb.lt hc b.length (Nat.le_refl _) (fun t ht he=>h2 (isL_iff.2 ⟨t,ht,he⟩)),if_pos rfl,Int.mul_one]
end Go.Proofs.YtodfjigndedehaaGreatDoor
namespace Go.Proofs.YtodfjigndedehaaGreatDoor
set_option linter.unusedVariables false
theorem Jz_ (p:Int) (n:Nat) (b:Rows) (j:Nat):nuP p n b (j+1)=if isL b j then nuP p n b j else nuP p n b j++[nvL p n b j b.length]:=rfl
theorem ER_ {p:Int}{n:Nat}{m:Rows} (hf:fdB p=true) (hn:n≤1048576) (h:okM p n m) (hL:m.length≤1048576):tT p (n:Int) m=some (kG p n m):=by
 have hm:bB=1099511627776:=rfl
 have hp:=gC hf
 have hb:=rG hf h
 have hbl:=(Be_ (n:=n) hp.1 h).2.2
 refine bnd (pQ hf (Nat.le_refl n) hn h hL) ?_
 unfold kG
 generalize eC p n m=b at hb hbl ⊢
 refine bnd (sG 0 (by omega)) ?_
 have hlen:(List.replicate n (0:Int)).length=n:=List.length_replicate
 refine bnd (a:=ldL n b 0) ((vC (fun j=>part (fun _ _=>-1) (List.replicate n 0) j) ?_).trans (by rw [dS];rfl)) ?_
 ·
  intro j hj
  refine bnd (lC _ (by rw [yQ];exact hj)) ?_
  exact congrArg some (xQ (fun _ _=>-1) (List.replicate n 0) hj)
 refine bnd (vC (fun i=>ldL n b i) ?_) ?_
 ·
  intro i hi
  have hw:=(nC hb.ok hi).1
  exact bnd (eD hi) (bnd (ES_ (by omega)) (bnd (lC _ (by rw [gW];exact hb.lt i hi)) rfl))
 refine bnd (fL (fun j=>(nuP p n b j,(j:Int))) (t:=nuP p n b n) n ?_ ?_) ?_
 ·
  intro j hj
  dsimp only
  refine stp (cTW (dT (by omega)) (bnd (a:=nuP p n b (j+1)) ?_ (bnd (gB (by omega) (by omega)) rfl)))
  refine bnd (gE (by rw [gW];exact hj)) (stp ?_)
  have h1:=FN_ hb.lt hj b.length (Nat.le_refl _)
  rw [←isL_iff] at h1
  rw [Jz_]
  by_cases h2:isL b j=true
  · rw [if_pos h2];exact cTW (dT (h1.2 h2)) rfl
  ·
   rw [if_neg h2]
   refine cFW (dF (fun h3=>h2 (h1.1 h3))) (bnd (sG 0 (by omega)) (bnd (lC _ (by rw [hlen];exact hj)) (bnd (vC (fun i=>nvL p n b j i) ?_) (bnd (jB (by have:=(wO (n:=n) (b:=b) hp.1 j).2;show _+1≤_;omega)) rfl))))
   intro i hi
   have hw:=(nC hb.ok hi).1
   exact bnd (eD hi) (bnd (eD hi) (bnd (gE (by omega)) (bnd (ES_ (by omega)) (bnd (BN_ hp (fI hb.ok hi hj)) (bnd (lC _ (by rw [(vR hp.1 i).1];exact hb.lt i hi)) rfl)))))
 ·
  dsimp only
  exact stp (cFW (dF (by omega)) rfl)
 exact bnd (pQ hf (Nat.le_refl n) hn (wO hp.1 n).1 (by have:=(wO (n:=n) (b:=b) hp.1 n).2;omega)) rfl
def gF (m:Rows) (j:Nat):List Int:=m.map fun r=>el r j
def trM (m:Rows) (cols:Nat):Rows:=(List.replicate cols ([]:List Int)).mapIdx fun j _=>gF m j
theorem gR (m:Rows) (cols:Nat):(trM m cols).length=cols:=by simp [trM]
theorem FB_ {m:Rows}{cols j:Nat} (hj:j<cols):gr (trM m cols) j=gF m j:=by
 unfold trM gr
 rw [List.getD_eq_getElem?_getD,List.getElem?_mapIdx,List.getElem?_replicate,if_pos hj]
 rfl
theorem colM_el {m:Rows}{i j:Nat} (hi:i<m.length):el (gF m j) i=el (gr m i) j:=by
 have h1:=jK (r:=gF m j) (c:=i) (by simp [gF];exact hi)
 unfold gF at h1
 rw [List.getElem?_map,wE hi] at h1
 exact (Option.some.inj h1).symm
theorem FA_ {p:Int}{w cols:Nat}{m:Rows} (h:okM p w m) (hc:cols≤w):okM p m.length (trM m cols):=by
 intro r hr
 obtain ⟨j,hj,rfl⟩:=List.mem_iff_getElem.1 hr
 rw [gR] at hj
 have e:(trM m cols)[j]=gF m j:=by
  rw [←FB_ hj]
  have:=wE (m:=trM m cols) (i:=j) (by rw [gR];exact hj)
  rw [List.getElem?_eq_getElem (by rw [gR];exact hj)] at this;exact Option.some.inj this
 rw [e]
 refine ⟨by simp [gF],fun x hx=>?_⟩
 obtain ⟨r,hr,rfl⟩:=List.mem_map.1 hx
 have h1:=h r hr
 exact h1.2 _ (oH (by omega))
section
variable {p:Int}{n o:Nat}{A C:Rows}
end
section
variable {p:Int}{n:Nat}{A B:Rows}
end
section
variable {p:Int}{n o:Nat}{A C:Rows}
end
theorem mO {p:Int}{n:Nat}{b:Rows} (hf:fdB p=true) (h:Red p n b):b.length≤n:=by
 have:=(Be_ (n:=n) (gC hf).1 h.ok).2.2
 rw [Dn_ hf h] at this;exact this
end Go.Proofs.YtodfjigndedehaaGreatDoor
