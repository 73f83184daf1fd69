/-
  Plain laws: a reduction, in the reference and in the program, step by step alike. No program in sight. No condition.
-/
import Derived.Test.YtbofgnbanmbopaaGreatDoorZP11
import Derived.Test.YtbofgnbanmbopaaGreatDoorZP92
namespace Go.Proofs.YtbofgnbanmbopaaGreatDoor
def wB {α:Type} (g:Nat→α→α) (l:List α) (j:Nat):List α:=(l.take j).mapIdx g++l.drop j
theorem partG0 {α:Type} (g:Nat→α→α) (l:List α):wB g l 0=l:=by simp [wB]
theorem nP {α:Type} (g:Nat→α→α) (l:List α):wB g l l.length=l.mapIdx g:=by simp [wB]
theorem iG {α:Type} (g:Nat→α→α) (l:List α) (j:Nat):(wB g l j).length=l.length:=by simp [wB];omega
theorem Du_ {α:Type} (g:Nat→α→α) (l:List α) (j k:Nat):(wB g l j)[k]?=if k<j then l[k]?.map (g k) else l[k]?:=by
 unfold wB
 by_cases h:k<((l.take j).mapIdx g).length
 ·
  rw [List.getElem?_append_left h]
  have h2:k<j:=by simp at h;omega
  rw [if_pos h2,List.getElem?_mapIdx,List.getElem?_take,if_pos h2]
 ·
  rw [List.getElem?_append_right (by omega)]
  have h1:¬k<min j l.length:=by simpa using h
  by_cases h2:k<j
  ·
   rw [if_pos h2,List.getElem?_eq_none (by omega:l.length≤k)]
   rw [List.getElem?_drop,List.getElem?_eq_none (by simp;omega)];rfl
  ·
   rw [if_neg h2,List.getElem?_drop]
   by_cases h3:l.length≤j
   · rw [List.getElem?_eq_none (by simp;omega),List.getElem?_eq_none (by omega)]
   · congr 1;simp;omega
theorem aJ {g:Nat→List Int→List Int}{m:Rows}{j k:Nat} (hk:k<m.length):gr (wB g m j) k=if k<j then g k (gr m k) else gr m k:=by
 have h1:=jI (m:=wB g m j) (i:=k) (by rw [iG];exact hk)
 rw [Du_,jI hk] at h1
 split at h1
 · rename_i h;rw [if_pos h];exact (Option.some.inj h1).symm
 · rename_i h;rw [if_neg h];exact (Option.some.inj h1).symm
theorem lT {g:Nat→List Int→List Int}{m:Rows}{j:Nat} (hj:j<m.length):(wB g m j).set j (g j (gr m j))=wB g m (j+1):=by
 have h2:gr m j=m[j]:=by have:=jI hj;rw [List.getElem?_eq_getElem hj] at this;exact (Option.some.inj this).symm
 rw [h2]
 exact iY m g j hj
def scanN (m:Rows) (c:Nat):Nat→Nat→Nat
 | 0,k=>k
 | d+1,k=>if el (gr m k) c=0 then scanN m c d (k+1) else k
theorem wH (m:Rows) (c:Nat):∀ (d k:Nat),k+d=m.length→k≤scanN m c d k∧scanN m c d k≤m.length∧(scanN m c d k<m.length→el (gr m (scanN m c d k)) c≠0)
 | 0,k,h=>⟨Nat.le_refl _,by simp only [scanN];omega,fun h2=>by simp only [scanN] at h2;omega⟩
 | d+1,k,h=>by
  unfold scanN
  split
  ·
   obtain ⟨h1,h2,h3⟩:=wH m c d (k+1) (by omega)
   exact ⟨by omega,h2,h3⟩
  ·
   rename_i hne
   exact ⟨Nat.le_refl _,by omega,fun _=>hne⟩
theorem scan_ {f:Int→Option (Int⊕Int)}{m:Rows}{c:Nat} (hf:∀ k:Nat,k<m.length→f (k:Int)=some (if el (gr m k) c=0 then .inl ((k:Int)+1) else .inr (k:Int))) (he:f (m.length:Int)=some (.inr (m.length:Int))) :
  ∀ (d k:Nat),k+d=m.length→kB f (k:Int)=some ((scanN m c d k:Nat):Int)
 | 0,k,h=>by
  have:k=m.length:=by omega
  subst this
  rw [dD he];rfl
 | d+1,k,h=>by
  have h1:=hf k (by omega)
  unfold scanN
  by_cases h0:el (gr m k) c=0
  ·
   rw [if_pos h0] at h1 ⊢
   rw [jE h1]
   exact scan_ hf he d (k+1) (by omega)
  ·
   rw [if_neg h0] at h1 ⊢
   exact dD h1
def pB (p:Int) (c r:Nat) (m a:Rows):Nat→List Int→List Int:=fun i row=>if i=r∨el (gr m i) c=0 then row else sC (sD p (el (gr m i) c) (gr a r)) row
def tK (p:Int) (c r:Nat) (m a:Rows):Rows:=a.mapIdx (pB p c r m a)
theorem DL_ (p:Int) (c r:Nat) (m a:Rows):(tK p c r m a).length=a.length:=by simp [tK]
theorem D6_ {p:Int}{c r:Nat}{m a:Rows}{i:Nat} (h:i<a.length):gr (tK p c r m a) i=pB p c r m a i (gr a i):=by
 have:=aJ (g:=pB p c r m a) (j:=a.length) h
 rw [nP,if_pos h] at this
 exact this
theorem bU {p:Int}{c r n:Nat}{m a:Rows} (hp:2≤p){i:Nat}{row:List Int} (hr:row.length=n∧inP p row):(pB p c r m a i row).length=n∧inP p (pB p c r m a i row):=by
 unfold pB
 split
 · exact hr
 · exact ⟨by rw [wT];exact hr.1,Ar_ hp (fun j x=>⟨_,rfl⟩) _⟩
theorem D5_ {p:Int}{c r n:Nat}{m a:Rows} (hp:2≤p) (h:okM p n a):okM p n (tK p c r m a):=by
 intro x hx
 obtain ⟨i,hi,rfl⟩:=List.mem_iff_getElem.1 hx
 unfold tK at hi ⊢
 rw [List.getElem_mapIdx]
 have hi':i<a.length:=by simpa using hi
 exact bU hp (h _ (List.getElem_mem hi'))
def lB (p:Int) (c:Nat) (m a:Rows) (r k:Nat):Rows:=fH p (kD p (el (gr (bC m r k) r) c)) (bC a r k) r
def pC (p:Int) (c:Nat) (m a:Rows) (r k:Nat):Rows:=tK p c r (lB p c m m r k) (lB p c m a r k)
theorem zL (p:Int) (c:Nat) (m a:Rows) (r k:Nat):(lB p c m a r k).length=a.length:=by unfold lB;rw [CY_,yH]
theorem vF (p:Int) (c:Nat) (m a:Rows) (r k:Nat):(pC p c m a r k).length=a.length:=by unfold pC;rw [DL_,zL]
theorem bP {p:Int}{c n:Nat}{m a:Rows}{r k:Nat} (hp:2≤p) (h:okM p n a) (hr:r<a.length) (hk:k<a.length):okM p n (lB p c m a r k):=
 Dp_ hp (wL h hr hk) (by rw [yH];exact hr)
theorem yJ {p:Int}{c n:Nat}{m a:Rows}{r k:Nat} (hp:2≤p) (h:okM p n a) (hr:r<a.length) (hk:k<a.length):okM p n (pC p c m a r k):=D5_ hp (bP hp h hr hk)
def yB (p:Int):Nat→Nat→Rows→Rows→Nat→Rows×Rows×Nat
 | 0,_,m,a,r=>(m,a,r)
 | d+1,c,m,a,r=>
  if r<m.length then
   if scanN m c (m.length-r) r=m.length then yB p d (c+1) m a r
   else yB p d (c+1) (pC p c m m r (scanN m c (m.length-r) r)) (pC p c m a r (scanN m c (m.length-r) r)) (r+1)
  else (m,a,r)
noncomputable def yL (p n:Int) (st:Rows×Int×Int):Option ((Rows×Int×Int)⊕(Rows×Int)):=
   ((some (decide (st.2.2<n))).bind fun a23919=>
    cond a23919
    ((some (decide (st.2.1<((st.1.length:Nat):Int)))).bind fun a23923=>
     some a23923)
    (some false)).bind fun (s23913:Bool)=>
   cond s23913
   (((kB (fun (s26612:Int)=>
       ((some (decide (s26612<((st.1.length:Nat):Int)))).bind fun a26650=>
        cond a26650
        ((bA st.1 s26612).bind fun a26660=>
         (bA a26660 st.2.2).bind fun a26669=>
         (some (decide (a26669=0))).bind fun a26671=>
         some a26671)
        (some false)).bind fun (s26644:Bool)=>
       cond s26644
       ((yA s26612 1).bind fun a26678=>
        some (.inl a26678))
       (some (.inr s26612))) st.2.1).bind fun (s26486:Int)=>
     (some (decide (s26486=((st.1.length:Nat):Int)))).bind fun a26682=>
     cond a26682
     (some (st.1,st.2.1))
     ((bA st.1 st.2.1).bind fun _=>
      (bA st.1 s26486).bind fun _=>
      (fJ st.1 st.2.1 s26486).bind fun a26717=>
      (bA a26717 st.2.1).bind fun a26725=>
      (bA a26725 st.2.2).bind fun a26734=>
      (wN p a26734).bind fun y26736=>
      (bA a26717 st.2.1).bind fun a26745=>
      (sA (fun (k26749:Nat) (s26838:List (List Int))=>
        (bA s26838 st.2.1).bind fun a26854=>
        (bA s26838 st.2.1).bind fun a26863=>
        (bA a26863 ((k26749:Nat):Int)).bind fun a26872=>
        (uF p a26872 y26736).bind fun y26874=>
        (oA a26854 ((k26749:Nat):Int) y26874).bind fun a26884=>
        (oA s26838 st.2.1 a26884).bind fun a26887=>
        some a26887) a26745.length 0 a26717).bind fun (s26891:List (List Int))=>
      (sA (fun (k26893:Nat) (s28062:List (List Int))=>
        (((some (decide (((k26893:Nat):Int)=st.2.1))).bind fun a28393=>
          cond a28393
          (some true)
          ((bA s28062 ((k26893:Nat):Int)).bind fun a28402=>
           (bA a28402 st.2.2).bind fun a28411=>
           (some (decide (a28411=0))).bind fun a28413=>
           some a28413)).bind fun (s28387:Bool)=>
         cond s28387
         (some s28062)
         ((bA s28062 ((k26893:Nat):Int)).bind fun a28425=>
          (bA a28425 st.2.2).bind fun a28434=>
          (bA s28062 ((k26893:Nat):Int)).bind fun a28442=>
          (sA (fun (k28446:Nat) (s28575:List (List Int))=>
            (bA s28575 ((k26893:Nat):Int)).bind fun a28591=>
            (bA s28575 ((k26893:Nat):Int)).bind fun a28600=>
            (bA s28575 st.2.1).bind fun a28609=>
            (bA a28600 ((k28446:Nat):Int)).bind fun a28618=>
            (bA a28609 ((k28446:Nat):Int)).bind fun a28626=>
            (uF p a28434 a28626).bind fun y28628=>
            (wI p a28618 y28628).bind fun y28631=>
            (oA a28591 ((k28446:Nat):Int) y28631).bind fun a28641=>
            (oA s28575 ((k26893:Nat):Int) a28641).bind fun a28644=>
            some a28644) a28442.length 0 s28062).bind fun (s28648:List (List Int))=>
          some s28648)).bind fun (s28358:List (List Int))=>
        some s28358) s26891.length 0 s26891).bind fun (s28655:List (List Int))=>
      (yA st.2.1 1).bind fun a28657=>
      some (s28655,a28657))).bind fun (s26292:List (List Int)×Int)=>
    (yA st.2.2 1).bind fun a28662=>
    some (.inl (s26292.1,s26292.2,a28662)))
   (some (.inr (st.1,st.2.1)))
theorem Dm_ {p:Int}{n N c r:Nat}{m:Rows} (hf:fdB p=true) (h:okM p N m) (hn:n≤N) (hN:N≤1048576) (hL:m.length≤1048576) (hr:r<m.length) (hc:c<n) :
  yL p (n:Int) (m,(r:Int),(c:Int))=some (.inl (if scanN m c (m.length-r) r=m.length then (m,(r:Int),(c:Int)+1) else (pC p c m m r (scanN m c (m.length-r) r),(r:Int)+1,(c:Int)+1))):=by
 have hp:=eE hf
 unfold yL
 dsimp only
 refine bnd (a:=true) (stp (cTW (dT (by omega)) (stp (by rw [dT (by omega)])))) (cTW rfl ?_)
 have hsc:∀ {f:Int→Option (Int⊕Int)},(∀ k:Nat,k<m.length→f (k:Int)=some (if el (gr m k) c=0 then .inl ((k:Int)+1) else .inr (k:Int)))→f (m.length:Int)=some (.inr (m.length:Int))→kB f (r:Int)=some ((scanN m c (m.length-r) r:Nat):Int):=fun h1 h2=>scan_ h1 h2 _ _ (by omega)
 obtain ⟨s1,s2,s3⟩:=wH m c (m.length-r) r (by omega)
 generalize scanN m c (m.length-r) r=k at hsc s1 s2 s3 ⊢
 refine bnd (a:=if k=m.length then (m,(r:Int)) else (pC p c m m r k,(r:Int)+1)) ?_ ?_
 ·
  refine bnd (hsc ?_ ?_) (stp ?_)
  ·
   intro i hi
   have hrow:=vC h hi
   refine bnd (a:=decide (el (gr m i) c=0)) (stp (cTW (dT (by omega)) (bnd (iD hi) (bnd (oF (by omega)) rfl)))) ?_
   by_cases h0:el (gr m i) c=0
   · rw [if_pos h0];exact cTW (dT h0) (bnd (rB (by omega) (by omega)) rfl)
   · rw [if_neg h0];exact cFW (dF h0) rfl
  · exact bnd (a:=false) (stp (cFW (dF (by omega)) rfl)) (cFW rfl rfl)
  ·
   by_cases hk:k=m.length
   · rw [if_pos hk];exact cTW (dT (by omega)) rfl
   ·
    rw [if_neg hk]
    have hkl:k<m.length:=by omega
    have hne:=s3 hkl
    refine cFW (dF (by omega)) ?_
    refine bnd (iD hr) (bnd (iD hkl) (bnd (AP_ hr hkl) ?_))
    have h1:okM p N (bC m r k):=wL h hr hkl
    have hr1:r<(bC m r k).length:=by rw [yH];exact hr
    have hrow:=vC h1 hr1
    have hel:=cJ h1 hr1 (show c<N by omega)
    have hnz:el (gr (bC m r k) r) c≠0:=by rw [vT hr hkl];exact hne
    obtain ⟨_,i1,i2,i3⟩:=xO hf (x:=el (gr (bC m r k) r) c) ⟨by omega,hel.2⟩
    change (bA (bC m r k) (r:Int)).bind _=_
    refine bnd (iD hr1) (bnd (oF (by omega)) (bnd (fdInv_ hf ⟨by omega,hel.2⟩) (bnd (iD hr1) ?_)))
    refine bnd (Dn_ hp h1 hr1 ⟨i2,i3⟩) ?_
    change (sA _ (lB p c m m r k).length 0 (lB p c m m r k)).bind _=_
    have h2:okM p N (lB p c m m r k):=bP hp.1 h hr hkl
    have hl2:(lB p c m m r k).length=m.length:=zL p c m m r k
    have hr2:r<(lB p c m m r k).length:=by omega
    have:=mC (n:=(lB p c m m r k).length) (fun i=>wB (pB p c r (lB p c m m r k) (lB p c m m r k)) (lB p c m m r k) i) (f:=(fun (k26893:Nat) (s28062:List (List Int))=>
        (((some (decide (((k26893:Nat):Int)=(r:Int)))).bind fun a28393=>
          cond a28393
          (some true)
          ((bA s28062 ((k26893:Nat):Int)).bind fun a28402=>
           (bA a28402 (c:Int)).bind fun a28411=>
           (some (decide (a28411=0))).bind fun a28413=>
           some a28413)).bind fun (s28387:Bool)=>
         cond s28387
         (some s28062)
         ((bA s28062 ((k26893:Nat):Int)).bind fun a28425=>
          (bA a28425 (c:Int)).bind fun a28434=>
          (bA s28062 ((k26893:Nat):Int)).bind fun a28442=>
          (sA (fun (k28446:Nat) (s28575:List (List Int))=>
            (bA s28575 ((k26893:Nat):Int)).bind fun a28591=>
            (bA s28575 ((k26893:Nat):Int)).bind fun a28600=>
            (bA s28575 (r:Int)).bind fun a28609=>
            (bA a28600 ((k28446:Nat):Int)).bind fun a28618=>
            (bA a28609 ((k28446:Nat):Int)).bind fun a28626=>
            (uF p a28434 a28626).bind fun y28628=>
            (wI p a28618 y28628).bind fun y28631=>
            (oA a28591 ((k28446:Nat):Int) y28631).bind fun a28641=>
            (oA s28575 ((k26893:Nat):Int) a28641).bind fun a28644=>
            some a28644) a28442.length 0 s28062).bind fun (s28648:List (List Int))=>
          some s28648)).bind fun (s28358:List (List Int))=>
        some s28358)) ?_
    ·
     rw [partG0,nP] at this
     exact bnd this (bnd (rB (by omega) (by omega)) rfl)
    ·
     generalize lB p c m m r k=w at h2 hl2 hr2
     intro i hi
     have hg1:gr (wB (pB p c r w w) w i) i=gr w i:=by rw [aJ hi,if_neg (by omega)]
     have hg2:gr (wB (pB p c r w w) w i) r=gr w r:=by
      rw [aJ hr2]
      split
      · unfold pB;rw [if_pos (Or.inl rfl)]
      · rfl
     have hrow2:=vC h2 hi
     have hli:i<(wB (pB p c r w w) w i).length:=by rw [iG];exact hi
     have hlr:r<(wB (pB p c r w w) w i).length:=by rw [iG];exact hr2
     have hok:okM p N (wB (pB p c r w w) w i):=by
      intro x hx
      obtain ⟨q,hq,rfl⟩:=List.mem_iff_getElem.1 hx
      have hq':q<w.length:=by rw [iG] at hq;exact hq
      have h5:=jI (m:=wB (pB p c r w w) w i) (i:=q) hq
      rw [List.getElem?_eq_getElem hq] at h5
      rw [Option.some.inj h5,aJ hq']
      split
      · exact bU hp.1 (vC h2 hq')
      · exact vC h2 hq'
     have hset:=lT (g:=pB p c r w w) (m:=w) hi
     have i1:=iD hli
     rw [hg1] at i1
     by_cases hir:i=r
     ·
      refine bnd (a:=wB (pB p c r w w) w (i+1)) (bnd (a:=true) (stp (cTW (dT (by omega)) rfl)) (cTW rfl ?_)) rfl
      rw [←hset]
      have:pB p c r w w i (gr w i)=gr w i:=by unfold pB;rw [if_pos (Or.inl hir)]
      rw [this,← hg1,gK hli]
     ·
      by_cases h0:el (gr w i) c=0
      ·
       refine bnd (a:=wB (pB p c r w w) w (i+1)) (bnd (a:=true) (stp (cFW (dF (by omega)) (bnd i1 (bnd (oF (by omega)) (stp (by rw [dT h0])))))) (cTW rfl ?_)) rfl
       rw [←hset]
       have:pB p c r w w i (gr w i)=gr w i:=by unfold pB;rw [if_pos (Or.inr h0)]
       rw [this,← hg1,gK hli]
      ·
       refine bnd (a:=wB (pB p c r w w) w (i+1)) (bnd (a:=false) (stp (cFW (dF (by omega)) (bnd i1 (bnd (oF (by omega)) (stp (by rw [dF h0])))))) (cFW rfl ?_)) rfl
       refine bnd i1 (bnd (oF (by omega)) (bnd i1 ?_))
       have hfe:=cJ h2 hi (show c<N by omega)
       have:=specSub (f:=el (gr w i) c) hp hok hlr hli hir hfe
       rw [hg1,hg2] at this
       refine bnd this ?_
       rw [←hset]
       unfold pB
       rw [if_neg (by intro h;rcases h with h | h;exact hir h;exact h0 h)]
 ·
  by_cases hk:k=m.length
  · rw [if_pos hk,if_pos hk];exact bnd (rB (by omega) (by omega)) rfl
  · rw [if_neg hk,if_neg hk];exact bnd (rB (by omega) (by omega)) rfl
theorem jT {p:Int}{n N:Nat} (hf:fdB p=true) (hn:n≤N) (hN:N≤1048576):∀ (d c:Nat) (m a:Rows) (r:Nat),c+d=n→okM p N m→m.length≤1048576→r≤m.length→kB (yL p (n:Int)) (m,(r:Int),(c:Int))=some ((yB p d c m a r).1,((yB p d c m a r).2.2:Int))
 | 0,c,m,a,r,hc,h,hL,hr=>by
  refine dD ?_
  unfold yL
  exact bnd (a:=false) (stp (cFW (dF (by dsimp only;omega)) rfl)) (cFW rfl rfl)
 | d+1,c,m,a,r,hc,h,hL,hr=>by
  unfold yB
  by_cases hrl:r<m.length
  ·
   rw [if_pos hrl]
   have hs:=Dm_ hf h hn hN hL hrl (show c<n by omega)
   obtain ⟨s1,s2,s3⟩:=wH m c (m.length-r) r (by omega)
   split
   ·
    rename_i hk
    rw [if_pos hk] at hs
    rw [jE hs]
    exact jT hf hn hN d (c+1) m a r (by omega) h hL hr
   ·
    rename_i hk
    rw [if_neg hk] at hs
    rw [jE hs]
    have hkl:scanN m c (m.length-r) r<m.length:=by omega
    exact jT hf hn hN d (c+1) _ _ (r+1) (by omega) (yJ (eE hf).1 h hrl hkl) (by rw [vF];exact hL) (by rw [vF];omega)
  ·
   rw [if_neg hrl]
   refine dD ?_
   unfold yL
   exact bnd (a:=false) (stp (cTW (dT (by dsimp only;omega)) (stp (by rw [dF (by dsimp only;omega)])))) (cFW rfl rfl)
end Go.Proofs.YtbofgnbanmbopaaGreatDoor
namespace Go.Proofs.YtbofgnbanmbopaaGreatDoor
theorem cX {p:Int}{l:Rows}{r k:Nat} (hr:r<l.length) (hk:k<l.length):iJ (0,(r:Int),(k:Int),0) p l=some (bC l r k):=by
 refine stp (cTW rfl ?_)
 exact bnd (iD hk) (bnd (iD hr) (bnd (AP_ hr hk) rfl))
theorem aY {p x:Int}{n:Nat}{l:Rows}{r:Nat} (hf:fdB p=true) (h:okM p n l) (hr:r<l.length) (hx:0<x∧x<p):iJ (1,(r:Int),0,x) p l=some (fH p (kD p x) l r):=by
 have hp:=eE hf
 obtain ⟨i0,_,i2,i3⟩:=xO hf hx
 refine stp (cFW rfl (stp (cTW rfl ?_)))
 exact bnd i0 (bnd (iD hr) (bnd (DI_ hp (vC h hr).2 ⟨i2,i3⟩) (bnd (iC _ hr) rfl)))
theorem zX {p f:Int}{n:Nat}{l:Rows}{i r:Nat} (hp:2≤p∧p≤97) (h:okM p n l) (hi:i<l.length) (hr:r<l.length) (hir:i≠r) (hf:0≤f∧f<p):iJ (2,(i:Int),(r:Int),f) p l=some (l.set i (sC (sD p f (gr l r)) (gr l i))):=by
 have h1:=vC h hi
 have h2:=vC h hr
 refine stp (cFW rfl (stp (cFW rfl (stp (cTW rfl ?_)))))
 refine bnd (iD hi) (bnd (vK ⟨by dsimp only;omega,by dsimp only;omega⟩) (bnd (iD hr) (bnd (implSub hp h1.2 h2.2 (by omega) hf) (bnd (a:=()) ?_ (bnd (iC _ hi) rfl)))))
 unfold neqO
 rw [if_neg (by dsimp only;omega)]
theorem Dq_ {p:Int}{m a:Rows}{r k:Nat} (hr:r<m.length) (hk:k<m.length) (hl:a.length=m.length):tF (0,(r:Int),(k:Int),0) p m a=some (bC m r k,bC a r k):=by
 refine stp ?_
 by_cases h:k=r
 ·
  subst h
  rw [rW hr,rW (by omega)]
  exact cTW (dT rfl) rfl
 ·
  refine cFW (dF ?_) (bnd (cX hr hk) (bnd (cX (by omega) (by omega)) rfl))
  intro e
  simp only [List.cons.injEq] at e
  exact h (by have:=e.2.2.1;omega)
theorem DU_ {p x:Int}{n q:Nat}{m a:Rows}{r:Nat} (hf:fdB p=true) (h:okM p n m) (ha:okM p q a) (hr:r<m.length) (hl:a.length=m.length) (hx:0<x∧x<p):tF (1,(r:Int),0,x) p m a=some (fH p (kD p x) m r,fH p (kD p x) a r):=by
 refine stp (cFW (dF ?_) (bnd (aY hf h hr hx) (bnd (aY hf ha (by omega) hx) rfl)))
 intro e
 simp only [List.cons.injEq] at e
 have:=e.1;omega
theorem DT_ {p f:Int}{n q:Nat}{m a:Rows}{i r:Nat} (hp:2≤p∧p≤97) (h:okM p n m) (ha:okM p q a) (hi:i<m.length) (hr:r<m.length) (hl:a.length=m.length) (hir:i≠r) (hf:0≤f∧f<p) :
  tF (2,(i:Int),(r:Int),f) p m a=some (m.set i (sC (sD p f (gr m r)) (gr m i)),a.set i (sC (sD p f (gr a r)) (gr a i))):=by
 refine stp (cFW (dF ?_) (bnd (zX hp h hi hr hir hf) (bnd (zX hp ha (by omega) (by omega) hir hf) rfl)))
 intro e
 simp only [List.cons.injEq] at e
 have:=e.1;omega
theorem Ao_ {p:Int}{c r n:Nat}{m a:Rows} (hp:2≤p) (h:okM p n a) (i:Nat):okM p n (wB (pB p c r m a) a i):=by
 intro x hx
 obtain ⟨q,hq,rfl⟩:=List.mem_iff_getElem.1 hx
 have hq':q<a.length:=by rw [iG] at hq;exact hq
 have h5:=jI (m:=wB (pB p c r m a) a i) (i:=q) hq
 rw [List.getElem?_eq_getElem hq] at h5
 rw [Option.some.inj h5,aJ hq']
 split
 · exact bU hp (vC h hq')
 · exact vC h hq'
theorem iO {p:Int}{c r:Nat}{m a:Rows}{i:Nat} (hi:i<a.length):gr (wB (pB p c r m a) a i) i=gr a i:=by rw [aJ hi,if_neg (by omega)]
theorem pY {p:Int}{c r:Nat}{m a:Rows} (i:Nat) (hr:r<a.length):gr (wB (pB p c r m a) a i) r=gr a r:=by
 rw [aJ hr]
 split
 · unfold pB;rw [if_pos (Or.inl rfl)]
 · rfl
theorem gO {p:Int}{c r:Nat}{m a:Rows}{i:Nat} (hi:i<a.length) (h:i=r∨el (gr m i) c=0):wB (pB p c r m a) a (i+1)=wB (pB p c r m a) a i:=by
 rw [←lT hi]
 have h1:pB p c r m a i (gr a i)=gr a i:=by unfold pB;rw [if_pos h]
 rw [h1]
 have h2:=gK (m:=wB (pB p c r m a) a i) (i:=i) (by rw [iG];exact hi)
 rw [iO hi] at h2
 exact h2
theorem oY {p:Int}{c r:Nat}{m a:Rows}{i:Nat} (hi:i<a.length) (hir:i≠r) (h0:el (gr m i) c≠0):wB (pB p c r m a) a (i+1)=(wB (pB p c r m a) a i).set i (sC (sD p (el (gr m i) c) (gr a r)) (gr a i)):=by
 rw [←lT hi]
 have h1:pB p c r m a i (gr a i)=sC (sD p (el (gr m i) c) (gr a r)) (gr a i):=by unfold pB;rw [if_neg (by intro h;rcases h with h | h;exact hir h;exact h0 h)]
 rw [h1]
noncomputable def bM (p n:Int) (st:Rows×Rows×Int×Int):Option ((Rows×Rows×Int×Int)⊕(Rows×Rows×Int)):=
   ((some (decide (st.2.2.1<n))).bind fun a6807=>
    cond a6807
    ((some (decide (st.2.2.2<((st.1.length:Nat):Int)))).bind fun a6811=>
     some a6811)
    (some false)).bind fun (s6801:Bool)=>
   cond s6801
   (((kB (fun (s7797:Int)=>
       ((some (decide (s7797<((st.1.length:Nat):Int)))).bind fun a7835=>
        cond a7835
        ((bA st.1 s7797).bind fun a7845=>
         (bA a7845 st.2.2.1).bind fun a7854=>
         (some (decide (a7854=0))).bind fun a7856=>
         some a7856)
        (some false)).bind fun (s7829:Bool)=>
       cond s7829
       ((yA s7797 1).bind fun a7863=>
        some (.inl a7863))
       (some (.inr s7797))) st.2.2.2).bind fun (s7671:Int)=>
     (some (decide (s7671=((st.1.length:Nat):Int)))).bind fun a7867=>
     cond a7867
     (some (st.1,st.2.1,st.2.2.2))
     ((tF (0,st.2.2.2,s7671,0) p st.1 st.2.1).bind fun y7870=>
      (bA y7870.1 st.2.2.2).bind fun a7879=>
      (bA a7879 st.2.2.1).bind fun a7888=>
      (tF (1,st.2.2.2,0,a7888) p y7870.1 y7870.2).bind fun y7890=>
      (sA (fun (k7893:Nat) (s8050:List (List Int)×List (List Int))=>
        ((some (!decide (((k7893:Nat):Int)=st.2.2.2))).bind fun a8088=>
         cond a8088
         ((bA s8050.1 ((k7893:Nat):Int)).bind fun a8098=>
          (bA a8098 st.2.2.1).bind fun a8107=>
          (some (!decide (a8107=0))).bind fun a8109=>
          some a8109)
         (some false)).bind fun (s8082:Bool)=>
        cond s8082
        ((bA s8050.1 ((k7893:Nat):Int)).bind fun a8121=>
         (bA a8121 st.2.2.1).bind fun a8130=>
         (tF (2,((k7893:Nat):Int),st.2.2.2,a8130) p s8050.1 s8050.2).bind fun y8132=>
         some (y8132.1,y8132.2))
        (some (s8050.1,s8050.2))) y7890.1.length 0 (y7890.1,y7890.2)).bind fun (s8137:List (List Int)×List (List Int))=>
      (yA st.2.2.2 1).bind fun a8139=>
      some (s8137.1,s8137.2,a8139))).bind fun (s7477:List (List Int)×List (List Int)×Int)=>
    (yA st.2.2.1 1).bind fun a8144=>
    some (.inl (s7477.1,s7477.2.1,a8144,s7477.2.2)))
   (some (.inr (st.1,st.2.1,st.2.2.2)))
theorem DH_ {p:Int}{n N q c r:Nat}{m a:Rows} (hf:fdB p=true) (h:okM p N m) (ha:okM p q a) (hn:n≤N) (hN:N≤1048576) (hL:m.length≤1048576) (hl:a.length=m.length) (hr:r<m.length) (hc:c<n) :
  bM p (n:Int) (m,a,(c:Int),(r:Int))=some (.inl (if scanN m c (m.length-r) r=m.length then (m,a,(c:Int)+1,(r:Int)) else (pC p c m m r (scanN m c (m.length-r) r),pC p c m a r (scanN m c (m.length-r) r),(c:Int)+1,(r:Int)+1))):=by
 have hp:=eE hf
 unfold bM
 dsimp only
 refine bnd (a:=true) (stp (cTW (dT (by omega)) (stp (by rw [dT (by omega)])))) (cTW rfl ?_)
 have hsc:∀ {f:Int→Option (Int⊕Int)},(∀ k:Nat,k<m.length→f (k:Int)=some (if el (gr m k) c=0 then .inl ((k:Int)+1) else .inr (k:Int)))→f (m.length:Int)=some (.inr (m.length:Int))→kB f (r:Int)=some ((scanN m c (m.length-r) r:Nat):Int):=fun h1 h2=>scan_ h1 h2 _ _ (by omega)
 obtain ⟨s1,s2,s3⟩:=wH m c (m.length-r) r (by omega)
 generalize scanN m c (m.length-r) r=k at hsc s1 s2 s3 ⊢
 refine bnd (a:=if k=m.length then (m,a,(r:Int)) else (pC p c m m r k,pC p c m a r k,(r:Int)+1)) ?_ ?_
 ·
  refine bnd (hsc ?_ ?_) (stp ?_)
  ·
   intro i hi
   have hrow:=vC h hi
   refine bnd (a:=decide (el (gr m i) c=0)) (stp (cTW (dT (by omega)) (bnd (iD hi) (bnd (oF (by omega)) rfl)))) ?_
   by_cases h0:el (gr m i) c=0
   · rw [if_pos h0];exact cTW (dT h0) (bnd (rB (by omega) (by omega)) rfl)
   · rw [if_neg h0];exact cFW (dF h0) rfl
  · exact bnd (a:=false) (stp (cFW (dF (by omega)) rfl)) (cFW rfl rfl)
  ·
   by_cases hk:k=m.length
   · rw [if_pos hk];exact cTW (dT (by omega)) rfl
   ·
    rw [if_neg hk]
    have hkl:k<m.length:=by omega
    have hne:=s3 hkl
    refine cFW (dF (by omega)) ?_
    have h1:okM p N (bC m r k):=wL h hr hkl
    have h1a:okM p q (bC a r k):=wL ha (by omega) (by omega)
    have hr1:r<(bC m r k).length:=by rw [yH];exact hr
    have hrow:=vC h1 hr1
    have hel:=cJ h1 hr1 (show c<N by omega)
    have hnz:el (gr (bC m r k) r) c≠0:=by rw [vT hr hkl];exact hne
    refine bnd (Dq_ hr hkl hl) ?_
    dsimp only
    refine bnd (iD hr1) (bnd (oF (by omega)) (bnd (DU_ hf h1 h1a hr1 (by rw [yH,yH];exact hl) ⟨by omega,hel.2⟩) ?_))
    change (sA _ (lB p c m m r k).length 0 (lB p c m m r k,lB p c m a r k)).bind _=_
    have h2:okM p N (lB p c m m r k):=bP hp.1 h hr hkl
    have h2a:okM p q (lB p c m a r k):=bP hp.1 ha (by omega) (by omega)
    have hl2:(lB p c m m r k).length=m.length:=zL p c m m r k
    have hl2a:(lB p c m a r k).length=m.length:=by rw [zL];exact hl
    have hr2:r<(lB p c m m r k).length:=by omega
    have:=mC (n:=(lB p c m m r k).length) (fun i=>(wB (pB p c r (lB p c m m r k) (lB p c m m r k)) (lB p c m m r k) i,wB (pB p c r (lB p c m m r k) (lB p c m a r k)) (lB p c m a r k) i)) (f:=(fun (k7893:Nat) (s8050:List (List Int)×List (List Int))=>
        ((some (!decide (((k7893:Nat):Int)=(r:Int)))).bind fun a8088=>
         cond a8088
         ((bA s8050.1 ((k7893:Nat):Int)).bind fun a8098=>
          (bA a8098 (c:Int)).bind fun a8107=>
          (some (!decide (a8107=0))).bind fun a8109=>
          some a8109)
         (some false)).bind fun (s8082:Bool)=>
        cond s8082
        ((bA s8050.1 ((k7893:Nat):Int)).bind fun a8121=>
         (bA a8121 (c:Int)).bind fun a8130=>
         (tF (2,((k7893:Nat):Int),(r:Int),a8130) p s8050.1 s8050.2).bind fun y8132=>
         some (y8132.1,y8132.2))
        (some (s8050.1,s8050.2)))) ?_
    ·
     have e1:wB (pB p c r (lB p c m m r k) (lB p c m m r k)) (lB p c m m r k) (lB p c m m r k).length=pC p c m m r k:=nP _ _
     have e2:wB (pB p c r (lB p c m m r k) (lB p c m a r k)) (lB p c m a r k) (lB p c m m r k).length=pC p c m a r k:=by
      rw [hl2,← hl2a,nP];rfl
     rw [partG0,partG0,e1,e2] at this
     exact bnd this (bnd (rB (by omega) (by omega)) rfl)
    ·
     show ∀ i,i<(lB p c m m r k).length→_
     unfold pC at *
     generalize lB p c m m r k=w at h2 hl2 hr2
     generalize lB p c m a r k=b at h2a hl2a
     intro i hi
     have hib:i<b.length:=by omega
     have hrb:r<b.length:=by omega
     have hrow2:=vC h2 hi
     have hli:i<(wB (pB p c r w w) w i).length:=by rw [iG];exact hi
     have hlr:r<(wB (pB p c r w w) w i).length:=by rw [iG];exact hr2
     have i1:=iD hli
     rw [iO hi] at i1
     by_cases hir:i=r
     ·
      refine bnd (a:=false) (stp (cFW (nT (dT (by omega))) rfl)) (cFW rfl ?_)
      rw [gO hi (Or.inl hir),gO hib (Or.inl hir)]
     ·
      by_cases h0:el (gr w i) c=0
      ·
       refine bnd (a:=false) (stp (cTW (nF (dF (by omega))) (bnd i1 (bnd (oF (by omega)) (stp (by rw [dT h0];rfl)))))) (cFW rfl ?_)
       rw [gO hi (Or.inr h0),gO hib (Or.inr h0)]
      ·
       refine bnd (a:=true) (stp (cTW (nF (dF (by omega))) (bnd i1 (bnd (oF (by omega)) (stp (by rw [dF h0];rfl)))))) (cTW rfl ?_)
       refine bnd i1 (bnd (oF (by omega)) ?_)
       have hfe:=cJ h2 hi (show c<N by omega)
       have:=DT_ (f:=el (gr w i) c) hp (Ao_ (c:=c) (r:=r) (m:=w) hp.1 h2 i) (Ao_ (c:=c) (r:=r) (m:=w) hp.1 h2a i) hli hlr (by rw [iG,iG];omega) hir hfe
       rw [iO hi,iO hib,pY i hr2,pY i hrb] at this
       refine bnd this ?_
       rw [oY hi hir h0,oY hib hir h0]
 ·
  by_cases hk:k=m.length
  · rw [if_pos hk,if_pos hk];exact bnd (rB (by omega) (by omega)) rfl
  · rw [if_neg hk,if_neg hk];exact bnd (rB (by omega) (by omega)) rfl
theorem qT {p:Int}{n N q:Nat} (hf:fdB p=true) (hn:n≤N) (hN:N≤1048576):∀ (d c:Nat) (m a:Rows) (r:Nat),c+d=n→okM p N m→okM p q a→m.length≤1048576→a.length=m.length→r≤m.length →
  kB (bM p (n:Int)) (m,a,(c:Int),(r:Int))=some ((yB p d c m a r).1,(yB p d c m a r).2.1,((yB p d c m a r).2.2:Int))
 | 0,c,m,a,r,hc,h,ha,hL,hl,hr=>by
  refine dD ?_
  unfold bM
  exact bnd (a:=false) (stp (cFW (dF (by dsimp only;omega)) rfl)) (cFW rfl rfl)
 | d+1,c,m,a,r,hc,h,ha,hL,hl,hr=>by
  unfold yB
  by_cases hrl:r<m.length
  ·
   rw [if_pos hrl]
   have hs:=DH_ hf h ha hn hN hL hl hrl (show c<n by omega)
   obtain ⟨s1,s2,s3⟩:=wH m c (m.length-r) r (by omega)
   split
   ·
    rename_i hk
    rw [if_pos hk] at hs
    rw [jE hs]
    exact qT hf hn hN d (c+1) m a r (by omega) h ha hL hl hr
   ·
    rename_i hk
    rw [if_neg hk] at hs
    rw [jE hs]
    have hkl:scanN m c (m.length-r) r<m.length:=by omega
    exact qT hf hn hN d (c+1) _ _ (r+1) (by omega) (yJ (eE hf).1 h hrl hkl) (yJ (eE hf).1 ha (by omega) (by omega)) (by rw [vF];exact hL) (by rw [vF,vF];exact hl) (by rw [vF];omega)
  ·
   rw [if_neg hrl]
   refine dD ?_
   unfold bM
   exact bnd (a:=false) (stp (cTW (dT (by dsimp only;omega)) (stp (by rw [dF (by dsimp only;omega)])))) (cFW rfl rfl)
theorem rL {p:Int}{N q:Nat} (hp:2≤p):∀ (d c:Nat) (m a:Rows) (r:Nat),okM p N m→okM p q a→a.length=m.length→r≤m.length →
  okM p N (yB p d c m a r).1∧okM p q (yB p d c m a r).2.1∧(yB p d c m a r).1.length=m.length∧(yB p d c m a r).2.1.length=m.length∧r≤(yB p d c m a r).2.2∧(yB p d c m a r).2.2≤m.length∧(yB p d c m a r).2.2≤r+d
 | 0,c,m,a,r,h,ha,hl,hr=>⟨h,ha,rfl,hl,Nat.le_refl _,hr,by simp [yB]⟩
 | d+1,c,m,a,r,h,ha,hl,hr=>by
  unfold yB
  by_cases hrl:r<m.length
  ·
   rw [if_pos hrl]
   obtain ⟨s1,s2,s3⟩:=wH m c (m.length-r) r (by omega)
   split
   ·
    obtain ⟨k1,k2,k3,k4,k5,k6,k7⟩:=rL hp d (c+1) m a r h ha hl hr
    exact ⟨k1,k2,k3,k4,k5,k6,by omega⟩
   ·
    have hkl:scanN m c (m.length-r) r<m.length:=by omega
    obtain ⟨k1,k2,k3,k4,k5,k6,k7⟩:=rL hp d (c+1) (pC p c m m r (scanN m c (m.length-r) r)) (pC p c m a r (scanN m c (m.length-r) r)) (r+1) (yJ hp h hrl hkl) (yJ hp ha (by omega) (by omega)) (by rw [vF,vF];exact hl) (by rw [vF];omega)
    rw [vF] at k3 k4 k6
    exact ⟨k1,k2,k3,k4,by omega,k6,by omega⟩
  · rw [if_neg hrl];exact ⟨h,ha,rfl,hl,Nat.le_refl _,hr,Nat.le_add_right _ _⟩
def xE (p:Int) (n:Nat) (m:Rows):Rows:=(yB p n 0 m m 0).1.take (yB p n 0 m m 0).2.2
theorem rS (p:Int):∀ (d c:Nat) (m a b:Rows) (r:Nat),(yB p d c m a r).1=(yB p d c m b r).1∧(yB p d c m a r).2.2=(yB p d c m b r).2.2
 | 0,_,_,_,_,_=>⟨rfl,rfl⟩
 | d+1,c,m,a,b,r=>by
  unfold yB
  split
  ·
   split
   · exact rS p d (c+1) m a b r
   · exact rS p d (c+1) _ _ _ (r+1)
  · exact ⟨rfl,rfl⟩
theorem CZ_ {p:Int}{n N q:Nat}{m a:Rows} (hf:fdB p=true) (hn:n≤N) (hN:N≤1048576) (h:okM p N m) (ha:okM p q a) (hL:m.length≤1048576) (hl:a.length=m.length) :
  qR p m (n:Int) a=some ((yB p n 0 m a 0).1,(yB p n 0 m a 0).2.1,((yB p n 0 m a 0).2.2:Int)):=
 bnd (qT hf hn hN n 0 m a 0 (by omega) h ha hL hl (by omega)) rfl
theorem AR_ {α:Type}{l:List α}{k:Nat} (h:k≤l.length):fC l 0 (k:Int)=some (l.take k):=by
 unfold fC
 rw [if_pos (by omega)]
 simp
theorem kY {p:Int}{n N:Nat}{m:Rows} (hf:fdB p=true) (hn:n≤N) (hN:N≤1048576) (h:okM p N m) (hL:m.length≤1048576):mN p m (n:Int)=some (xE p n m):=by
 have hm:gB=1099511627776:=rfl
 have ha:okM p 0 (List.replicate m.length ([]:List Int)):=by
  intro x hx
  rw [List.eq_of_mem_replicate hx]
  exact ⟨rfl,fun y hy=>by cases hy⟩
 obtain ⟨k1,_,k3,_,_,k6,_⟩:=rL (eE hf).1 n 0 m (List.replicate m.length []) 0 h ha (by simp) (by omega)
 obtain ⟨e1,e2⟩:=rS p n 0 m (List.replicate m.length []) m 0
 refine bnd (clones_ (by omega) (fun r hr=>by have:=(h r hr).1;omega)) (bnd (zG _ (by omega)) (bnd (CZ_ hf hn hN h ha hL (by simp)) ?_))
 unfold xE
 rw [←e1,← e2]
 exact bnd (AR_ (by dsimp only;omega)) rfl
theorem Do_ {p:Int}{n N:Nat}{m:Rows} (hf:fdB p=true) (hn:n≤N) (hN:N≤1048576) (h:okM p N m) (hL:m.length≤1048576):sR p (n:Int) m=some (xE p n m):=by
 have hm:gB=1099511627776:=rfl
 obtain ⟨k1,_,k3,_,_,k6,_⟩:=rL (eE hf).1 n 0 m m 0 h h rfl (by omega)
 have hcopy:sA (fun (k2:Nat) (s55:List (List Int))=>
   (bA m ((k2:Nat):Int)).bind fun a72=>
   (mL a72).bind fun y76=>
   (iB s55 [y76]).bind fun a84=>
   some a84) m.length 0 []=some m:=by
  refine (zJ (fun r=>r) m [] (by simp;omega) ?_).trans (by simp)
  intro j x s hx hs
  have hj:j<m.length:=(List.getElem?_eq_some_iff.1 hx).1
  have h1:=(h x (sE hx)).1
  exact bnd (tA hx) (bnd (own_ (by omega)) (bnd (zB (by simp at hs ⊢;omega)) rfl))
 refine bnd hcopy (bnd (jT hf hn hN n 0 m m 0 (by omega) h hL (by omega)) ?_)
 exact bnd (AR_ (by dsimp only;omega)) rfl
theorem Aj_ {p:Int}{n N:Nat}{m:Rows} (hp:2≤p) (h:okM p N m):okM p N (xE p n m)∧(xE p n m).length≤m.length∧(xE p n m).length≤n:=by
 obtain ⟨k1,_,k3,_,_,k6,k7⟩:=rL hp n 0 m m 0 h h rfl (by omega)
 unfold xE
 refine ⟨fun r hr=>k1 r (List.mem_of_mem_take hr),?_,?_⟩
 · rw [List.length_take];omega
 · rw [List.length_take];omega
end Go.Proofs.YtbofgnbanmbopaaGreatDoor
namespace Go.Proofs.YtbofgnbanmbopaaGreatDoor
def jC:List Int→Nat
 | []=>0
 | x::xs=>if x=0 then jC xs+1 else 0
theorem AH_ (x:Int) (xs:List Int):el (x::xs) 0=x:=by unfold el;simp
theorem AI_ (x:Int) (xs:List Int) (j:Nat):el (x::xs) (j+1)=el xs j:=by unfold el;simp
theorem el_out {r:List Int}{j:Nat} (h:r.length≤j):el r j=0:=by unfold el;rw [List.getD_eq_getElem?_getD,List.getElem?_eq_none h];rfl
theorem nU:∀ (r:List Int) (j:Nat),j<jC r→el r j=0
 | [],j,h=>by simp [jC] at h
 | x::xs,j,h=>by
  unfold jC at h
  split at h
  ·
   rename_i h0
   cases j with
   | zero=>rw [AH_];exact h0
   | succ j=>rw [AI_];exact nU xs j (by omega)
  · omega
theorem vY:∀ (r:List Int),jC r<r.length→el r (jC r)≠0
 | [],h=>by simp at h
 | x::xs,h=>by
  unfold jC at h ⊢
  split at h
  ·
   rename_i h0
   rw [if_pos h0,AI_]
   exact vY xs (by simpa using h)
  ·
   rename_i h0
   rw [if_neg h0,AH_];exact h0
theorem wY {r:List Int}{k:Nat} (hz:∀ j,j<k→el r j=0) (hk:el r k≠0):jC r=k:=by
 rcases Nat.lt_trichotomy (jC r) k with h | h | h
 ·
  have h1:=hz _ h
  rcases Nat.lt_or_ge (jC r) r.length with h2 | h2
  · exact absurd h1 (vY r h2)
  ·
   have:el r k=0:=el_out (by omega)
   exact absurd this hk
 · exact h
 · exact absurd (nU r k h) hk
theorem AJ_ {g:Nat→Int→Int}{r:List Int}{j:Nat} (h:j<r.length):el (sC g r) j=g j (el r j):=by
 have h1:=kK (r:=sC g r) (c:=j) (by rw [wT];exact h)
 unfold sC at h1
 rw [List.getElem?_mapIdx,kK h] at h1
 exact (Option.some.inj h1).symm
theorem iT {m:Rows}{r k i:Nat} (hr:r<m.length) (hk:k<m.length):gr (bC m r k) i=if i=k then gr m r else if i=r then gr m k else gr m i:=by
 unfold bC
 rw [iI (by rw [List.length_set];exact hk)]
 by_cases h:k=i
 · rw [if_pos h,if_pos h.symm]
 ·
  rw [if_neg h,if_neg (Ne.symm h),iI hr]
  by_cases h2:r=i
  · rw [if_pos h2,if_pos h2.symm]
  · rw [if_neg h2,if_neg (Ne.symm h2)]
theorem An_ {p:Int}{c:Nat}{m a:Rows}{r k i:Nat} (hr:r<a.length):gr (lB p c m a r k) i=if i=r then sC (mF p (kD p (el (gr (bC m r k) r) c))) (gr (bC a r k) r) else gr (bC a r k) i:=by
 unfold lB fH
 rw [iI (by rw [yH];exact hr)]
 by_cases h:r=i
 · rw [if_pos h,if_pos h.symm]
 · rw [if_neg h,if_neg (Ne.symm h)]
structure RedI (c r:Nat) (m:Rows):Prop where
 le:r≤m.length
 lt:∀ i,i<r→jC (gr m i)<c
 one:∀ i,i<r→el (gr m i) (jC (gr m i))=1
 zero:∀ i j,i<r→j<m.length→i≠j→el (gr m j) (jC (gr m i))=0
 inc:∀ i j,i<j→j<r→jC (gr m i)<jC (gr m j)
 rest:∀ i,r≤i→i<m.length→∀ q,q<c→el (gr m i) q=0
theorem RedI.start (m:Rows):RedI 0 0 m:=⟨Nat.zero_le _,fun _ h=>by omega,fun _ h=>by omega,fun _ _ h=>by omega,fun _ _ _ h=>by omega,fun _ _ _ _ h=>by omega⟩
theorem RedI.skip {c r:Nat}{m:Rows} (h:RedI c r m) (hz:∀ i,r≤i→i<m.length→el (gr m i) c=0):RedI (c+1) r m:=
 ⟨h.le,fun i hi=>by have:=h.lt i hi;omega,h.one,h.zero,h.inc,fun i h1 h2 q hq=>by
  rcases Nat.lt_or_ge q c with h3 | h3
  · exact h.rest i h1 h2 q h3
  · rw [show q=c by omega];exact hz i h1 h2⟩
theorem tW (m:Rows) (c:Nat):∀ (d k:Nat),∀ i,k≤i→i<scanN m c d k→el (gr m i) c=0
 | 0,k,i,h1,h2=>by simp only [scanN] at h2;omega
 | d+1,k,i,h1,h2=>by
  unfold scanN at h2
  split at h2
  ·
   rename_i h0
   rcases Nat.lt_or_ge k i with h3 | h3
   · exact tW m c d (k+1) i h3 h2
   · rw [show i=k by omega];exact h0
  · omega
theorem AF_ {p x:Int} (h:0≤x∧x<p):x % p=x:=Int.emod_eq_of_lt h.1 h.2
theorem step_el {p:Int}{c r k N:Nat}{m:Rows} (hf:fdB p=true) (h:okM p N m) (hr:r<m.length) (hk:k<m.length) (hc:c<N) (hne:el (gr m k) c≠0) :
  let s:=bC m r k
  let iv:=kD p (el (gr m k) c)
  (∀ q,q<N→el (gr (pC p c m m r k) r) q=(el (gr m k) q*iv) % p)∧(el (gr m k) c*iv) % p=1 ∧
  ∀ i,i<m.length→i≠r→∀ q,q<N→el (gr (pC p c m m r k) i) q=(el (gr s i) q-el (gr s i) c*((el (gr m k) q*iv) % p)) % p:=by
 intro s iv
 have hp:=eE hf
 have hel:=cJ h hk hc
 obtain ⟨_,i1,i2,i3⟩:=xO hf (x:=el (gr m k) c) ⟨by omega,hel.2⟩
 have hsr:gr s r=gr m k:=vT hr hk
 have hsl:s.length=m.length:=yH m r k
 have hso:okM p N s:=wL h hr hk
 have hpl:(lB p c m m r k).length=m.length:=zL p c m m r k
 have hpr:gr (lB p c m m r k) r=sC (mF p iv) (gr m k):=by
  rw [An_ hr,if_pos rfl]
  show sC (mF p (kD p (el (gr s r) c))) (gr s r)=_
  rw [hsr]
 have hrow:=vC h hk
 have hpe:∀ q,q<N→el (gr (lB p c m m r k) r) q=(el (gr m k) q*iv) % p:=fun q hq=>by
  rw [hpr,AJ_ (by omega)];rfl
 have hst:∀ i,i<m.length→gr (pC p c m m r k) i=pB p c r (lB p c m m r k) (lB p c m m r k) i (gr (lB p c m m r k) i):=fun i hi=>D6_ (by rw [hpl];exact hi)
 refine ⟨fun q hq=>?_,i1,fun i hi hir q hq=>?_⟩
 ·
  rw [hst r hr]
  unfold pB
  rw [if_pos (.inl rfl)]
  exact hpe q hq
 ·
  rw [hst i hi]
  have hpi:gr (lB p c m m r k) i=gr s i:=by rw [An_ hr,if_neg hir]
  have hsi:=vC hso (i:=i) (by rw [hsl];exact hi)
  have hb:=cJ hso (i:=i) (by rw [hsl];exact hi) hq
  unfold pB
  by_cases h0:el (gr (lB p c m m r k) i) c=0
  ·
   rw [if_pos (.inr h0),hpi]
   rw [hpi] at h0
   rw [h0,Int.zero_mul,Int.sub_zero,AF_ hb]
  ·
   rw [if_neg (by intro h1;rcases h1 with h1 | h1;exact hir h1;exact h0 h1)]
   rw [AJ_ (by rw [hpi];omega)]
   unfold sD
   rw [hpi,hpe q hq]
theorem RedI.step {p:Int}{c r N:Nat}{m:Rows} (hf:fdB p=true) (ho:okM p N m) (h:RedI c r m) (hr:r<m.length) (hc:c<N) (hk:scanN m c (m.length-r) r≠m.length) :
  RedI (c+1) (r+1) (pC p c m m r (scanN m c (m.length-r) r)):=by
 obtain ⟨s1,s2,s3⟩:=wH m c (m.length-r) r (by omega)
 have hp:=eE hf
 generalize scanN m c (m.length-r) r=k at s1 s2 s3 hk ⊢
 have hkl:k<m.length:=by omega
 have hne:=s3 hkl
 obtain ⟨e1,e2,e3⟩:=step_el hf ho hr hkl hc hne
 have hsl:(pC p c m m r k).length=m.length:=vF p c m m r k
 have hz:∀ q,q<c→(el (gr m k) q*kD p (el (gr m k) c)) % p=0:=fun q hq=>by
  rw [h.rest k (by omega) hkl q hq,Int.zero_mul];exact Int.zero_emod p
 have hswap:∀ i,i<r→gr (bC m r k) i=gr m i:=fun i hi=>by
  rw [iT hr hkl,if_neg (by omega),if_neg (by omega)]
 have hrow:∀ i,i<r→∀ q,q<c→el (gr (pC p c m m r k) i) q=el (gr m i) q:=fun i hi q hq=>by
  have hb:=cJ ho (i:=i) (by omega) (c:=q) (by omega)
  rw [e3 i (by omega) (by omega) q (by omega),hswap i hi,hz q hq,Int.mul_zero,Int.sub_zero,AF_ hb]
 have hlead:∀ i,i<r→jC (gr (pC p c m m r k) i)=jC (gr m i):=fun i hi=>by
  have hl:=h.lt i hi
  refine wY (fun j hj=>?_) ?_
  · rw [hrow i hi j (by omega)];exact nU _ j hj
  · rw [hrow i hi _ hl,h.one i hi];omega
 have hnew:jC (gr (pC p c m m r k) r)=c:=by
  refine wY (fun j hj=>?_) ?_
  · rw [e1 j (by omega)];exact hz j hj
  · rw [e1 c hc,e2];omega
 refine ⟨by omega,fun i hi=>?_,fun i hi=>?_,fun i j hi hj hij=>?_,fun i j hij hj=>?_,fun i h1 h2 q hq=>?_⟩
 ·
  rcases Nat.lt_or_ge i r with h1 | h1
  · rw [hlead i h1];have:=h.lt i h1;omega
  · rw [show i=r by omega,hnew];omega
 ·
  rcases Nat.lt_or_ge i r with h1 | h1
  · rw [hlead i h1,hrow i h1 _ (h.lt i h1)];exact h.one i h1
  · rw [show i=r by omega,hnew,e1 c hc,e2]
 ·
  rw [hsl] at hj
  rcases Nat.lt_or_ge i r with h1 | h1
  ·
   have hl:=h.lt i h1
   rw [hlead i h1]
   by_cases hjr:j=r
   · rw [hjr,e1 _ (by omega)];exact hz _ hl
   ·
    rw [e3 j hj hjr _ (by omega),hz _ hl,Int.mul_zero,Int.sub_zero]
    have hs:el (gr (bC m r k) j) (jC (gr m i))=0:=by
     rw [iT hr hkl]
     by_cases hjk:j=k
     · rw [if_pos hjk];exact h.zero i r h1 hr (by omega)
     · rw [if_neg hjk,if_neg hjr];exact h.zero i j h1 hj hij
    rw [hs];exact Int.zero_emod p
  ·
   have hi2:i=r:=by omega
   subst hi2
   rw [hnew,e3 j hj (Ne.symm hij) c hc,e2,Int.mul_one,Int.sub_self];exact Int.zero_emod p
 ·
  rcases Nat.lt_or_ge j r with h1 | h1
  · rw [hlead i (by omega),hlead j h1];exact h.inc i j hij h1
  · rw [show j=r by omega,hnew,hlead i (by omega)];exact h.lt i (by omega)
 ·
  rw [hsl] at h2
  rw [e3 i h2 (by omega) q (by omega)]
  rcases Nat.lt_or_ge q c with h3 | h3
  ·
   rw [hz q h3,Int.mul_zero,Int.sub_zero]
   have hs:el (gr (bC m r k) i) q=0:=by
    rw [iT hr hkl]
    split
    · exact h.rest r (Nat.le_refl _) hr q h3
    ·
     split
     · exact h.rest k s1 hkl q h3
     · exact h.rest i (by omega) h2 q h3
   rw [hs];exact Int.zero_emod p
  · rw [show q=c by omega,e2,Int.mul_one,Int.sub_self];exact Int.zero_emod p
theorem qS {p:Int}{N:Nat} (hf:fdB p=true):∀ (d c:Nat) (m:Rows) (r:Nat),c+d≤N→okM p N m→RedI c r m→RedI (c+d) (yB p d c m m r).2.2 (yB p d c m m r).1
 | 0,c,m,r,_,_,h=>h
 | d+1,c,m,r,hN,ho,h=>by
  unfold yB
  by_cases hr:r<m.length
  ·
   rw [if_pos hr]
   obtain ⟨s1,s2,s3⟩:=wH m c (m.length-r) r (by omega)
   split
   ·
    rename_i hk
    have:=qS hf d (c+1) m r (by omega) ho (h.skip (fun i h1 h2=>tW m c (m.length-r) r i h1 (by omega)))
    rw [show c+(d+1)=c+1+d by omega];exact this
   ·
    rename_i hk
    have:=qS hf d (c+1) _ (r+1) (by omega) (yJ (eE hf).1 ho hr (by omega)) (h.step hf ho hr (by omega) hk)
    rw [show c+(d+1)=c+1+d by omega];exact this
  ·
   rw [if_neg hr]
   exact (⟨h.le,fun i hi=>by have:=h.lt i hi;omega,h.one,h.zero,h.inc,fun i h1 h2=>by have:=h.le;omega⟩:RedI (c+(d+1)) r m)
structure Red (p:Int) (n:Nat) (b:Rows):Prop where
 ok:okM p n b
 lt:∀ i,i<b.length→jC (gr b i)<n
 one:∀ i,i<b.length→el (gr b i) (jC (gr b i))=1
 zero:∀ i j,i<b.length→j<b.length→i≠j→el (gr b j) (jC (gr b i))=0
 inc:∀ i j,i<j→j<b.length→jC (gr b i)<jC (gr b j)
theorem cK {m:Rows}{k i:Nat} (h:i<k):gr (m.take k) i=gr m i:=by
 unfold gr;rw [List.getD_eq_getElem?_getD,List.getD_eq_getElem?_getD,List.getElem?_take,if_pos h]
theorem DS_ {p:Int}{n:Nat}{m:Rows} (hf:fdB p=true) (h:okM p n m):Red p n (xE p n m):=by
 have h1:=qS hf n 0 m 0 (by omega) h (RedI.start m)
 have h2:=(Aj_ (n:=n) (eE hf).1 h).1
 rw [Nat.zero_add] at h1
 unfold xE at h2 ⊢
 generalize yB p n 0 m m 0=t at h1 h2
 have hl:(t.1.take t.2.2).length=t.2.2:=by rw [List.length_take];have:=h1.le;omega
 refine ⟨h2,fun i hi=>?_,fun i hi=>?_,fun i j hi hj hij=>?_,fun i j hij hj=>?_⟩
 · rw [hl] at hi;rw [cK hi];exact h1.lt i hi
 · rw [hl] at hi;rw [cK hi];exact h1.one i hi
 · rw [hl] at hi hj;rw [cK hi,cK hj];exact h1.zero i j hi (by have:=h1.le;omega) hij
 · rw [hl] at hj;rw [cK hj,cK (by omega)];exact h1.inc i j hij hj
def oI (p:Int) (n:Int) (m:Rows):Bool:=decide ((m.length:Int)≤n)&&(nI p n m&&decide (xE p n.toNat m=m))
theorem spSame_ (a b:Rows):aS a b=some (decide (a=b)):=by
 refine stp ?_
 by_cases h:a.length=b.length
 ·
  refine cFW (nT (dT (by omega))) (sqW (qU a b 0 h ?_ (t:=false)) ?_)
  ·
   intro j x y hx hy
   rw [Nat.zero_add]
   refine bnd (tA hx) (bnd (tA hy) (bnd (l1Same_ x y) (stp ?_)))
   by_cases h2:x=y
   · rw [if_pos h2];exact cFW (nT (dT h2)) rfl
   · rw [if_neg h2];exact cTW (nF (dF h2)) rfl
  ·
   by_cases h2:a=b
   · rw [if_pos h2,dT h2];rfl
   · rw [if_neg h2,dF h2];rfl
 · rw [show decide (a=b)=false from dF (fun h2=>h (by rw [h2]))];exact cTW (nF (dF (by omega))) rfl
theorem pad_inj {a b:List Int}{n:Nat} (ha:a.length=n) (hb:b.length=n) (hn:n≤48):((a++List.replicate 48 0).take 48=(b++List.replicate 48 0).take 48)↔a=b:=by
 constructor
 ·
  intro h
  have:=congrArg (List.take n) h
  rw [List.take_take,List.take_take,Nat.min_eq_left hn,List.take_append_of_le_length (by omega),List.take_append_of_le_length (by omega),List.take_of_length_le (by omega),List.take_of_length_le (by omega)] at this
  exact this
 · intro h;rw [h]
theorem hZ {α τ:Type} [DecidableEq α] {f:Nat→Unit→Option (Unit⊕τ)}{t:τ}:∀ (l m:List α) (k:Nat),l.length≤m.length→(∀ j a b,l[j]?=some a→m[j]?=some b→f (k+j) ()=some (if a=b then .inl () else .inr t))→kC f l.length k ()=some (if l=m.take l.length then .inl () else .inr t)
 | [],m,k,_,_=>by simp [kC]
 | _::_,[],_,h,_=>by simp at h
 | a::l,b::m,k,hl,h=>by
  show (f k ()).bind _=_
  have h0:f k ()=_:=h 0 a b rfl rfl
  rw [h0]
  by_cases hab:a=b
  ·
   rw [if_pos hab]
   have:=hZ l m (k+1) (by simpa using hl) (fun j x y hx hy=>by
    have:=h (j+1) x y (by simpa using hx) (by simpa using hy)
    rw [show k+1+j=k+(j+1) by omega];exact this)
   show kC f l.length (k+1) ()=_
   rw [this,List.length_cons,List.take_succ_cons]
   by_cases h2:l=m.take l.length
   · rw [if_pos h2,if_pos (by rw [hab,← h2])]
   · rw [if_neg h2,if_neg (by intro h3;exact h2 (List.cons.inj h3).2)]
  · rw [if_neg hab,List.length_cons,List.take_succ_cons,if_neg (by intro h3;exact hab (List.cons.inj h3).1)];rfl
theorem C5_ {p:Int}{n:Nat}{m:Rows} (hf:fdB p=true) (hn:n≤24):rR p m (n:Int)=some (oI p n m):=by
 unfold oI
 rw [Int.toNat_natCast]
 refine bnd (a:=!(decide ((m.length:Int)≤n)&&nI p n m)) (stp ?_) ?_
 ·
  by_cases h:(m.length:Int)≤n
  · rw [dT h];exact cFW (dF (by omega)) (bnd (CS_ p n m) rfl)
  · rw [dF h];exact cTW (dT (by omega)) rfl
 ·
  by_cases h:(m.length:Int)≤n
  ·
   rw [dT h,Bool.true_and,Bool.true_and]
   cases hr:nI p n m with
   | false=>rfl
   | true=>
    have ho:okM p n m:=rowsB_true.1 hr
    refine cFW rfl (bnd (kY hf (Nat.le_refl n) (by omega) ho (by omega)) ?_)
    obtain ⟨k1,k2,k3⟩:=Aj_ (n:=n) (eE hf).1 ho
    refine sqW (hZ (xE p n m) m 0 k2 ?_ (t:=false)) ?_
    ·
     intro j a b ha hb
     rw [Nat.zero_add]
     have la:=(k1 a (sE ha)).1
     have lb:=(ho b (sE hb)).1
     refine bnd (tA ha) (bnd (tA hb) (stp (stp ?_)))
     refine bnd (a:=!decide (a=b)) ?_ ?_
     ·
      unfold oM
      rw [if_pos ⟨by simp,by simp⟩]
      congr 2
      rw [decide_eq_decide]
      exact pad_inj la lb (by omega)
     ·
      by_cases hab:a=b
      · rw [if_pos hab];exact cFW (nT (dT hab)) rfl
      · rw [if_neg hab];exact cTW (nF (dF hab)) rfl
    ·
     by_cases he:xE p n m=m.take (xE p n m).length
     ·
      rw [if_pos he,mP]
      refine bnd (kY hf (Nat.le_refl n) (by omega) ho (by omega)) (stp ?_)
      show some (decide _)=_
      congr 1
      rw [Bool.true_and,decide_eq_decide]
      constructor
      ·
       intro h2
       rw [List.take_of_length_le (by omega)] at he;exact he
      · intro h2;rw [h2]
     · rw [if_neg he,Bool.true_and,show decide (xE p n m=m)=false from dF (fun h2=>he (by rw [h2,List.take_of_length_le (Nat.le_refl _)]))];rfl
  · rw [dF h];rfl
abbrev Spa:=Int×Rows
def spB (p:Int) (s:Spa):Bool:=fdB p&&(rng s.1 0 24&&oI p s.1 s.2)
theorem spGood_ (p:Int) (s:Spa):cS p s=some (spB p s):=by
 refine bnd (a:=spB p s) ?_ rfl
 unfold spB
 cases hf:fdB p with
 | false=>exact bnd (AX_ p) (by rw [hf];rfl)
 | true=>
  refine bnd (AX_ p) (cTW hf (bnd (aD _ _ _) ?_))
  cases hr:rng s.1 0 24 with
  | false=>rfl
  | true=>
   have:=rng_true.1 hr
   obtain ⟨n,hn⟩:∃ n:Nat,s.1=(n:Int):=⟨s.1.toNat,by omega⟩
   refine cTW rfl (stp ?_)
   unfold oI
   rw [hn,Int.toNat_natCast]
   cases hl:decide ((s.2.length:Int)≤n) with
   | false=>rfl
   | true=>
    have hl:=of_decide_eq_true hl
    refine cTW rfl (bnd (spRows (eE hf) _ _) ?_)
    cases hb:nI p n s.2 with
    | false=>rfl
    | true=>
     have ho:okM p n s.2:=rowsB_true.1 hb
     exact cTW rfl (bnd (Do_ hf (Nat.le_refl n) (by omega) ho (by omega)) (bnd (spSame_ _ _) rfl))
theorem redB_ok {p:Int}{n:Nat}{m:Rows} (hf:fdB p=true) (h:oI p n m=true):Red p n m∧m.length≤n:=by
 unfold oI at h
 simp only [Bool.and_eq_true,decide_eq_true_eq,Int.toNat_natCast] at h
 obtain ⟨h1,h2,h3⟩:=h
 have:=DS_ hf (rowsB_true.1 h2)
 rw [h3] at this
 exact ⟨this,by omega⟩
end Go.Proofs.YtbofgnbanmbopaaGreatDoor
namespace Go.Proofs.YtbofgnbanmbopaaGreatDoor
abbrev Rel:=Int×Int×Rows
def rlB (p:Int) (r:Rel):Bool:=fdB p&&((rng r.1 0 24&&(rng r.2.1 0 24&&decide (r.1+r.2.1≤24)))&&oI p (r.1+r.2.1) r.2.2)
theorem fits_ (l r:Int):wS l r=some (rng l 0 24&&(rng r 0 24&&decide (l+r≤24))):=by
 refine bnd (a:=(rng l 0 24&&(rng r 0 24&&decide (l+r≤24)))) ?_ rfl
 refine bndB (uE _ _ _) (fun _=>rfl) (fun h1=>cTW rfl (bndB (uE _ _ _) (fun _=>rfl) (fun h2=>cTW rfl ?_)))
 have h1:=rng_true.1 h1
 have h2:=rng_true.1 h2
 exact bnd (rB (by omega) (by omega)) rfl
theorem zN (p:Int) (r:Rel):jR p r=some (rlB p r):=by
 refine bnd (a:=rlB p r) ?_ rfl
 unfold rlB
 cases hf:fdB p with
 | false=>exact bnd (bZ p) (by rw [hf];rfl)
 | true=>
  refine bnd (bZ p) (cTW hf (bnd (fits_ _ _) ?_))
  cases hb:(rng r.1 0 24&&(rng r.2.1 0 24&&decide (r.1+r.2.1≤24))) with
  | false=>rfl
  | true=>
   simp only [Bool.and_eq_true,rng_true,decide_eq_true_eq] at hb
   refine cTW rfl (bnd (rB (by omega) (by omega)) ?_)
   obtain ⟨n,hn⟩:∃ n:Nat,r.1+r.2.1=(n:Int):=⟨(r.1+r.2.1).toNat,by omega⟩
   rw [hn]
   exact bnd (C5_ hf (by omega)) rfl
theorem aP (p:Int) (r:Rel):dS p r=some (rlB p r):=by
 refine bnd (a:=rlB p r) ?_ rfl
 have e:rlB p r=(rng r.1 0 24&&(rng r.2.1 0 (24-r.1)&&spB p (r.1+r.2.1,r.2.2))):=by
  unfold rlB spB
  by_cases h:(0≤r.1∧r.1≤24)∧(0≤r.2.1∧r.2.1≤24)∧r.1+r.2.1≤24
  ·
   rw [rng_true.2 h.1,rng_true.2 h.2.1,dT h.2.2,show rng r.2.1 0 (24-r.1)=true from rng_true.2 (by omega),show rng (r.1+r.2.1) 0 24=true from rng_true.2 (by omega)]
   simp
  ·
   have h1:(rng r.1 0 24&&(rng r.2.1 0 24&&decide (r.1+r.2.1≤24)))=false:=by
    rw [←Bool.not_eq_true];simp only [Bool.and_eq_true,rng_true,decide_eq_true_eq];exact h
   have h2:(rng r.1 0 24&&(rng r.2.1 0 (24-r.1)&&(fdB p&&(rng (r.1+r.2.1) 0 24&&oI p (r.1+r.2.1) r.2.2))))=false:=by
    rw [←Bool.not_eq_true];simp only [Bool.and_eq_true,rng_true];intro h3;exact h (by omega)
   rw [h1]
   simp only [Bool.false_and,Bool.and_false]
   exact h2.symm
 rw [e]
 refine bndB (aD _ _ _) (fun _=>rfl) (fun h1=>cTW rfl ?_)
 have h1:=rng_true.1 h1
 refine bnd (wD (by omega) (by omega)) (bndB (aD _ _ _) (fun _=>rfl) (fun h2=>cTW rfl ?_))
 have h2:=rng_true.1 h2
 exact bnd (rB (by omega) (by omega)) (bnd (spGood_ p _) rfl)
structure RlOk (p:Int) (l r:Nat) (R:Rel):Prop where
 hf:fdB p=true
 left:R.1=(l:Int)
 right:R.2.1=(r:Int)
 n24:l+r≤24
 red:Red p (l+r) R.2.2
 len:R.2.2.length≤l+r
theorem rlB_ok {p:Int}{R:Rel} (h:rlB p R=true):∃ l r,RlOk p l r R:=by
 unfold rlB at h
 simp only [Bool.and_eq_true,rng_true,decide_eq_true_eq] at h
 obtain ⟨h1,⟨h2,h3,h4⟩,h5⟩:=h
 obtain ⟨l,hl⟩:∃ l:Nat,R.1=(l:Int):=⟨R.1.toNat,by omega⟩
 obtain ⟨r,hr⟩:∃ r:Nat,R.2.1=(r:Int):=⟨R.2.1.toNat,by omega⟩
 rw [hl,hr,show (l:Int)+(r:Int)=((l+r:Nat):Int) by omega] at h5
 obtain ⟨k1,k2⟩:=redB_ok h1 h5
 exact ⟨l,r,h1,hl,hr,by omega,k1,k2⟩
end Go.Proofs.YtbofgnbanmbopaaGreatDoor
namespace Go.Proofs.YtbofgnbanmbopaaGreatDoor
end Go.Proofs.YtbofgnbanmbopaaGreatDoor
namespace Go.Proofs.YtbofgnbanmbopaaGreatDoor
set_option linter.unusedVariables false
end Go.Proofs.YtbofgnbanmbopaaGreatDoor
namespace Go.Proofs.YtbofgnbanmbopaaGreatDoor
set_option linter.unusedVariables false
theorem AL_:∀ (l:Nat),Dw [] (ug l).reverse [] (ug l).reverse l (ug l) [] 0 [] l
 | 0=>⟨fun x=>by unfold inN;rw [if_neg (by omega)];rfl,fun x=>by unfold inN;rw [if_neg (by omega)];rfl,trivial,fun x=>by unfold inN;rw [if_neg (by omega)];rfl,fun x=>by unfold inN;rw [if_neg (by omega)];rfl,fun S _ _ _ x h0 h1=>by omega,Nat.le_refl _,Nat.le_refl _,Nat.le_refl _⟩
 | l+1=>by
  have h:=(AL_ l).wireS
  unfold ug at h ⊢
  rw [List.range_succ,List.map_append,List.reverse_append]
  exact h
theorem wX {U D:List Int}{n:Nat}{I:List Int}{E:List Edg}{B:Nat} (h:Dw [] U [] D n I E 0 [] B):∀ k,Dw [] U (ug k).reverse D n I E k [] (B+k)
 | 0=>h
 | k+1=>by
  have h:=(wX h k).wireI
  unfold ug at h ⊢
  rw [List.range_succ,List.map_append,List.reverse_append]
  exact h
theorem Aa_ {k n:Nat} (h:k<n):(ug n).drop k=(k:Int)::(ug n).drop (k+1):=by
 have hl:k<(ug n).length:=by rw [bJ];exact h
 rw [List.drop_eq_getElem_cons hl]
 congr 1
 simp [ug]
theorem lM {k n:Nat} (h:k<n):(ug n)[k]?=some (k:Int):=by
 unfold ug
 rw [List.getElem?_map,List.getElem?_range h];rfl
theorem Cp_ {p:Int}{l r:Nat}{R:Rel} (hR:RlOk p l r R) (hl:l≤12) (hr:r≤12):∃ G,dR R=some G∧rQ R=some G∧mE G.1≤1048576:=by
 obtain ⟨R1,R2,rows⟩:=R
 obtain ⟨hf,h1,h2,h24,hred,hlen⟩:=hR
 dsimp only at h1 h2 hred hlen
 subst h1 h2
 have hm:gB=1099511627776:=rfl
 have hrl:∀ row∈rows,row.length=l+r:=fun row hr=>(hred.ok row hr).1
 have d0:Dw [] (ug l) (ug rows.length) (ug l) l (ug l) [] rows.length [] 100:=by
  have h:=wX (AL_ l) rows.length
  refine ⟨fun x=>?_,fun x=>?_,h.ed,h.og,fun x=>?_,fun S k1 k2 k3=>h.co S k1 (fun x hx=>k2 x (List.mem_reverse.1 hx)) k3,by omega,by omega,by simp⟩
  · have:=h.pa x;rwa [List.count_reverse] at this
  · have:=h.pb x;rwa [List.count_reverse] at this
  · have:=h.en x;rwa [List.count_reverse] at this
 obtain ⟨s,t,s1,s2,P1,n1,E1,E1',ins,rfl,rfl,s3,s4,s5⟩:=wJ (f:=fun (k17:Nat) (s66:Int×(List (Int×Int×List Int×List Int))×List Int)=>
   (gE (s66.1,s66.2.1,ug l,[])).bind fun y79=>
   (aE (y79.1.1,s66.2.1,ug l,[]) 10 0 [] [y79.2]).bind fun y86=>
   (iB s66.2.2 [y79.2]).bind fun a94=>
   some (y86.1,y86.2.1,a94))
  (g:=fun (k37:Nat) (s78:Int×(List (Int×Int×List Int×List Int)))=>
    (bA (ug rows.length) ((k37:Nat):Int)).bind fun a95=>
    (zD (s78.1,s78.2,[],[]) 10 0 [] [a95]).bind fun y101=>
    some (y101.1,y101.2.1))
  (fun j s t=>∃ P1 n1 E1 E1' ins,s=(((n1:Nat):Int),E1,ins)∧t=(((rows.length:Nat):Int),E1')∧LsR P1 ins ((ug rows.length).take j)∧ins.length=j∧Dw P1 (ug l) ((ug rows.length).drop j) (ins++ug l) n1 (ug l) E1 rows.length E1' (100+j)) rows.length 0 (((l:Nat):Int),[],[]) (((rows.length:Nat):Int),[])
  ⟨[],l,[],[],[],rfl,rfl,trivial,rfl,d0⟩ (by
   rintro j s t _ hj ⟨P1,n1,E1,E1',ins,rfl,rfl,hi,hil,hd⟩
   rw [Nat.zero_add] at hj
   have b1:=hd.b1;have b2:=hd.b2;have b3:=hd.b3;have el:=hd.ed.len
   rw [Aa_ hj] at hd
   have hd2:=Dw.edge1 (ins:=[]) (ins':=[]) 10 0 (D:=ins++ug l) hd trivial
   refine ⟨_,_,bnd (fI (by omega)) (bnd (kI (by dsimp only;omega) _ _ _ _) (bnd (zB (by simp;omega)) rfl)),bnd (tA (lM hj)) (bnd (lI (by dsimp only;omega) _ _ _ _) rfl),_,n1+1,_,_,ins++[(n1:Int)],rfl,rfl,?_,by simp [hil],(hd2.perm fun x=>?_).up (by omega)⟩
   ·
    rw [List.take_add_one,lM hj]
    exact (hi.mono fun p hp=>List.mem_append_left _ hp).app (m:=[(n1:Int)]) (m':=[(j:Int)]) ⟨by simp,trivial⟩
   ·
    rw [cntC]
    simp only [List.count_append,cnt1];omega)
 rw [Nat.zero_add] at s3 s4 s5
 have s3:LsR P1 ins (ug rows.length):=by
  have:=s3
  rwa [List.take_of_length_le (by rw [bJ];exact Nat.le_refl _)] at this
 have s5:Dw P1 (ug l) [] (ins++ug l) n1 (ug l) E1 rows.length E1' (100+rows.length):=by
  have:=s5
  rwa [show (ug rows.length).drop rows.length=[] from List.drop_of_length_le (by rw [bJ];exact Nat.le_refl _)] at this
 obtain ⟨P2,n2,E2,n2',E2',out,out',m1,m2,m3,m4,m5,m6⟩:=C3_ (ug l) [] [] [] hrl h24 (by omega) s5 s3 s4 (fun i row w hrow _ hz=>by
  obtain ⟨q1,q2⟩:=List.getElem?_eq_some_iff.1 hrow
  have k1:=hred.lt i q1
  have k2:=hred.one i q1
  have hgr:gr rows i=row:=by unfold gr;rw [List.getD_eq_getElem?_getD,hrow];rfl
  rw [hgr] at k1 k2
  have hll:=hrl row (List.mem_of_getElem? hrow)
  have:=Am_ row row.length (Nat.le_refl _) hz (jC row) (by omega) (by omega)
  have e:el row (jC row)=row[jC row]'(by omega):=by
   unfold el;rw [List.getD_eq_getElem?_getD,List.getElem?_eq_getElem (by omega)];rfl
  rw [e,this] at k2
  cases k2) (by omega)
 have hsz:yA (l:Int) (r:Int)=some ((l+r:Nat):Int):=by rw [rB (by omega) (by omega)];rfl
 have hout:out'.length=l+r:=m4.len.symm.trans m5
 obtain ⟨s,t,t1,t2,P3,n3,E3,n3',E3',I3,rfl,rfl,t3,t4,t5,t6⟩:=wJ (f:=fun (k114:Nat) (s198:Int×(List (Int×Int×List Int×List Int)))=>
   (bA (ug l) ((k114:Nat):Int)).bind fun a214=>
   (gE (s198.1,s198.2,ug l,[])).bind fun y216=>
   (bA out ((k114:Nat):Int)).bind fun a225=>
   (aE (y216.1.1,s198.2,ug l,[]) 9 0 [a214,a225] [y216.2]).bind fun y233=>
   (aE (y233.1,y233.2.1,ug l,[]) 4 0 [y216.2] []).bind fun y242=>
   some (y242.1,y242.2.1))
  (g:=fun (k126:Nat) (s220:Int×(List (Int×Int×List Int×List Int))×List Int)=>
    (bA (out'.take l) ((k126:Nat):Int)).bind fun a238=>
    (jF (s220.1,s220.2.1,s220.2.2,[])).bind fun y240=>
    (jF (y240.1.1,s220.2.1,s220.2.2,[])).bind fun y243=>
    (iB s220.2.2 [y240.2]).bind fun a249=>
    (zD (y243.1.1,s220.2.1,a249,[]) 9 0 [y240.2,a238] [y243.2]).bind fun y261=>
    (zD (y261.1,y261.2.1,a249,[]) 4 0 [y243.2] []).bind fun y270=>
    some (y270.1,y270.2.1,a249))
  (fun j s t=>∃ P3 n3 E3 n3' E3' I3,s=(((n3:Nat):Int),E3)∧t=(((n3':Nat):Int),E3',I3)∧(∀ p∈P2,p∈P3)∧LsR P3 ((ug l).take j) I3∧I3.length=j∧Dw P3 ((ug l).drop j) [] (out.drop j++(ug l).drop j) n3 (ug l) E3 n3' E3' (20000+2*j)) l 0 (((n2:Nat):Int),E2) (((n2':Nat):Int),E2',[])
  ⟨P2,n2,E2,n2',E2',[],rfl,rfl,fun p hp=>hp,trivial,rfl,m6⟩ (by
   rintro j s t _ hj ⟨P3,n3,E3,n3',E3',I3,rfl,rfl,hP,hi,hil,hd⟩
   rw [Nat.zero_add] at hj
   have b1:=hd.b1;have b2:=hd.b2;have b3:=hd.b3;have el:=hd.ed.len
   obtain ⟨x,y,hx,hy,hxy⟩:=(m4.mono hP).get (i:=j) (by omega)
   have hxr:out.drop j=x::out.drop (j+1):=by
    obtain ⟨q1,q2⟩:=List.getElem?_eq_some_iff.1 hx
    rw [List.drop_eq_getElem_cons q1,q2]
   have hy':(out'.take l)[j]?=some y:=by rw [List.getElem?_take,if_pos hj];exact hy
   rw [Aa_ hj,hxr] at hd
   have hd1:=hd.wireI.pair.wireI
   have hd2:=hd1.perm (D1:=[(j:Int),x]++(out.drop (j+1)++(ug l).drop (j+1))) (fun z=>by
    simp only [List.count_append,List.cons_append,cntC]
    rw [show List.count z ([]:List Int)=0 from rfl];omega)
   have hsub:∀ p∈P3,p∈P3++[((j:Int),(n3':Int))]:=fun p hp=>List.mem_append_left _ hp
   have hd3:=Dw.edge1 (ins:=[(j:Int),x]) (ins':=[(n3':Int),y]) 9 0 hd2 ⟨by simp,hsub _ hxy,trivial⟩
   have hj':(j:Int)∈ug l:=List.mem_of_getElem? (lM hj)
   have hd4:=hd3.edge0 (w:=(n3:Int)) (w':=((n3'+1:Nat):Int)) 4 0 (by simp) (fun S h1 h2=>h2 _ (List.mem_append_right _ (.head _)) ⟨(j:Int),by simp [edI],h1 _ hj'⟩ _ (by simp [edO]))
   refine ⟨_,_,bnd (tA (lM hj)) (bnd (fI (by omega)) (bnd (tA hx) (bnd (kI (by dsimp only;omega) _ _ _ _) (bnd (kI (by simp;omega) _ _ _ _) rfl)))),bnd (tA hy') (bnd (eK (by omega)) (bnd (eK (by omega)) (bnd (zB (by simp;omega)) (bnd (lI (by dsimp only;omega) _ _ _ _) (bnd (lI (by simp;omega) _ _ _ _) rfl))))),_,n3+1,_,n3'+1+1,_,I3++[(n3':Int)],rfl,rfl,fun p hp=>List.mem_append_left _ (hsub p (hP p hp)),?_,by simp [hil],hd4.setB (by omega) (by omega) (by simp;omega)⟩
   rw [List.take_add_one,lM hj]
   exact (hi.mono fun p hp=>List.mem_append_left _ (hsub p hp)).app (m:=[(j:Int)]) (m':=[(n3':Int)]) ⟨by simp,trivial⟩)
 rw [Nat.zero_add] at t4 t5 t6
 have hul:(ug l).length≤l:=by rw [bJ];exact Nat.le_refl _
 rw [List.take_of_length_le hul] at t4
 rw [List.drop_of_length_le hul,List.append_nil] at t6
 have hrd:=(m4.mono t3).drop l
 obtain ⟨G,g1,g2,g3⟩:=CR_ t6 t4 hrd
 have hs1:fC out (l:Int) ((out.length:Nat):Int)=some (out.drop l):=by
  unfold fC
  rw [if_pos (by omega)]
  congr 1
  exact List.take_of_length_le (by rw [List.length_drop];omega)
 have hs2:fC out' (l:Int) ((out'.length:Nat):Int)=some (out'.drop l):=by
  unfold fC
  rw [if_pos (by omega)]
  congr 1
  exact List.take_of_length_le (by rw [List.length_drop];omega)
 have hs3:fC out' 0 (l:Int)=some (out'.take l):=by
  unfold fC
  rw [if_pos (by omega)];rfl
 refine ⟨G,?_,?_,g3⟩
 ·
  refine bnd (inputs_ (by omega)) (bnd s1 (bnd hsz (bnd m1 ?_)))
  dsimp only
  rw [bJ]
  exact bnd t1 (bnd hs1 (bnd (own_ (by rw [List.length_drop];omega)) (bnd g1 rfl)))
 ·
  refine bnd (a:=false) (stp (cFW (dF (by dsimp only;omega)) (stp (congrArg some (dF (by dsimp only;omega)))))) (cFW rfl (bnd (wires0_ (n:=rows.length) (by omega)) ?_))
  dsimp only
  rw [bJ]
  refine bnd s2 (bnd (bnd hsz rfl) (bnd m2 (bnd hs3 ?_)))
  rw [List.length_take,Nat.min_eq_left (by omega)]
  exact bnd t2 (bnd hs2 (bnd g2 rfl))
theorem zM (p:Int) (R:Rel):∃ G,vM p R=some G∧yK p R=some G∧mE G.1≤1048576:=by
 cases hb:rlB p R with
 | false=>
  refine ⟨(noG,false),bnd (a:=true) (bnd (aP p R) (stp (cTW (nF hb) rfl))) (cTW rfl rfl),bnd (zN p R) (stp (cTW (nF hb) rfl)),by decide⟩
 | true=>
  obtain ⟨l,r,hR⟩:=rlB_ok hb
  have h1:=hR.left;have h2:=hR.right
  by_cases hl:(12:Int)<R.1
  · refine ⟨(noG,false),bnd (a:=true) (bnd (aP p R) (stp (cFW (nT hb) (stp (cTW (dT hl) rfl))))) (cTW rfl rfl),bnd (zN p R) (stp (cFW (nT hb) (bnd (a:=(noG,false)) (bnd (a:=true) (stp (cTW (dT hl) rfl)) (cTW rfl rfl)) rfl))),by decide⟩
  ·
   by_cases hr:(12:Int)<R.2.1
   · refine ⟨(noG,false),bnd (a:=true) (bnd (aP p R) (stp (cFW (nT hb) (stp (cFW (dF hl) (stp (congrArg some (dT hr)))))))) (cTW rfl rfl),bnd (zN p R) (stp (cFW (nT hb) (bnd (a:=(noG,false)) (bnd (a:=true) (stp (cFW (dF hl) (stp (congrArg some (dT hr))))) (cTW rfl rfl)) rfl))),by decide⟩
   ·
    obtain ⟨G,g1,g2,g3⟩:=Cp_ hR (by omega) (by omega)
    refine ⟨G,bnd (a:=false) (bnd (aP p R) (stp (cFW (nT hb) (stp (cFW (dF hl) (stp (congrArg some (dF hr)))))))) (cFW rfl (bnd g1 rfl)),bnd (zN p R) (stp (cFW (nT hb) (bnd g2 rfl))),g3⟩
noncomputable def sH (p:Int) (R:Rel):Gra×Bool:=(zM p R).choose
theorem pV (p:Int) (R:Rel):vM p R=some (sH p R):=(zM p R).choose_spec.1
theorem bR (p:Int) (R:Rel):yK p R=some (sH p R):=(zM p R).choose_spec.2.1
theorem Bq_ (p:Int) (R:Rel):mE (sH p R).1≤1048576:=(zM p R).choose_spec.2.2
end Go.Proofs.YtbofgnbanmbopaaGreatDoor
namespace Go.Proofs.YtbofgnbanmbopaaGreatDoor
set_option linter.unusedVariables false
theorem Bx_ (a0:Int) (a1:cF) (i0:Nice.ok a0) (i1:Nice.ok a1):iV a0 a1=some true:=by
 have hbig:bD=4611686018427387904:=rfl
 refine bnd (CT_ a1 1048576 (by omega) (by rw [hbig];omega) (BO_ i1)) (stp ?_)
 by_cases gaR:(nRelation a1:Int)≤1048576
 case neg=>rw [if_neg gaR];exact cTW (dT (by omega)) rfl
 rw [if_pos gaR]
 refine cFW (dF (by omega)) ?_
 have haR:nRelation a1≤1048576:=by omega
 first
 | refine bnd (tJ a1 haR) (bnd (pV a0 a1) ?_)
 | refine bnd (bnd (tJ a1 haR) (bnd (pV a0 a1) rfl)) ?_
 refine bnd (tJ a1 haR) ?_
 refine bnd (bR a0 a1) ?_
 have b0:mE (sH a0 a1).1≤1048576:=Bq_ a0 a1
 have cb0:=DP_ (sH a0 a1).1
 refine bnd (a:=false) (bnd (sU _ b0) (stp (cFW rfl (stp (congrArg some (nT (dT rfl))))))) (cFW rfl ?_)
 refine bnd (tJ _ haR) (bnd (Da_ _ haR) (stp (cFW rfl ?_)))
 have caR:=CG_ a1
 refine bnd (C4_ a1 _ (by omega) (by omega)) ?_
 refine bnd (a:=false) (stp (cFW (dF (by simp only [BY_];omega)) (bnd (sU _ b0) (stp (cFW rfl (stp (congrArg some (nT (dT rfl))))))))) (cFW rfl ?_)
 refine bnd (m_Graph (sH a0 a1).1 _ (by omega) (by omega)) ?_
 refine bnd (Au_ (sH a0 a1).1 _ (by omega) (by omega)) (stp (cFW (dF (by omega)) ?_))
 refine stp (cFW (nT (dT (by simp only [gW]))) ?_)
 first
 | refine bnd (tJ a1 haR) (bnd (bR a0 a1) ?_)
 | refine bnd (bnd (tJ a1 haR) (bnd (bR a0 a1) rfl)) ?_
 refine bnd (a:=false) (bnd (sU _ b0) (stp (cFW rfl (stp (congrArg some (nT (dT rfl))))))) (cFW rfl ?_)
 refine bnd (Au_ (sH a0 a1).1 _ (by omega) (by omega)) (stp (cFW (dF (by omega)) ?_))
 refine stp (cFW (nT (dT (by simp only [gW]))) ?_)
 rfl
end Go.Proofs.YtbofgnbanmbopaaGreatDoor
